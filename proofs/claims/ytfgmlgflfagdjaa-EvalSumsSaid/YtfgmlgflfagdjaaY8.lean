/- The document's parser: sum, one. Printed by geny.py. -/
import Derived.Test.YtfgmlgflfagdjaaY7
namespace Go.Proofs.Ytfgmlgflfagdjaa.ps
open Go.ChangeShapes Go.WideShapes Go.ChangeAt Go.RowKit Go.Proofs.Ytfgmlgflfagdjaa.lib Go.Proofs.Ytfgmlgflfagdjaa.val Go.Proofs.Ytfgmlgflfagdjaa.lx Go.Proofs.Ytfgmlgflfagdjaa.ev
set_option linter.unusedVariables false

set_option maxRecDepth 1000000 in
set_option maxHeartbeats 4000000 in
theorem psum_ (W : List Wd) (f : Nat) (hs : RuleC 90 W 5 f) : RuleC 87 W 4 (f + 1) := by
  intro w0 w g Aw cw p h hn
  have HS := Lib.hid hs
  clear hs
  obtain ⟨Ae, ce, hp⟩ := h
  have hW := hp.wok
  have HO := Lib.hid (on_pr hW f 5)
  have HR := Lib.hid (show pr W (f + 1) 4 p = loopP W (pr W f 5) [([43], 14), ([45], 15)] W.length (pr W f 5 p).1 (pr W f 5 p).2 by conv => lhs; unfold pr)
  obtain ⟨R, hR⟩ : ∃ R, pr W (f + 1) 4 p = R := ⟨_, rfl⟩
  rw [hR]
  have HR := HR.out
  rw [hR] at HR
  have hc := HS.out w0 w g Aw cw p ⟨_, _, hp⟩ (by omega)
  have ho := HO.out p hp.lt
  obtain ⟨⟨a0, p1⟩, hp1⟩ : ∃ X, pr W f 5 p = X := ⟨_, rfl⟩
  rw [hp1] at hc HR ho
  simp only at hc HR ho
  have HC := Lib.hid hc
  have HRR := Lib.hid HR
  have hol := ho.le
  have hlt := hp.lt
  clear hc hp1 HR hR ho hp
  go_enter Try.func87, Try.ntmps87
  go_wp2_with fail
  refine (HC.out).mono ?_
  rintro e w2 ⟨rfl, h2⟩
  go_wp2_with fail
  go_loopw [3] (fun a wr => ∃ (n : Nat) (x : Int) (q : Ps), a = .int .i64 x ∧ Hid (R = loopP W (pr W f 5) [([43], 14), ([45], 15)] n x q) ∧ p.at_ ≤ q.at_ ∧ W.length ≤ q.at_ + n ∧ PrA w0 wr g W Aw cw q) (fun _ wr => W.length - (intOf ((wr.cell? ⟨g, 1, none⟩).getD (.int .i64 0))).toNat)
  case atStart => exact ⟨W.length, a0, p1, rfl, HRR, hol, Nat.le_add_left _ _, h2⟩
  case round =>
    clear h2
    obtain ⟨n, x, q, rfl, HL, hle, hn2, Aq, cq, hq⟩ := hrel
    have hql := hq.lt
    have hm1 := hq.blk.cell 1
    obtain ⟨n, rfl⟩ : ∃ m, n = m + 1 := ⟨n - 1, by omega⟩
    have HKA := Lib.hid (fun (s : List UInt8) (h : okIs W s q = true) => (on_step hW (okIs_k h).2.1).lt)
    have HI := Lib.hid (pis_ [43] hq)
    obtain ⟨ok, hok⟩ : ∃ b, okIs W [43] q = b := ⟨_, rfl⟩
    have HOK := Lib.hid hok
    have HI := HI.out
    rw [hok] at HI
    have HI := Lib.hid HI
    clear hok
    go_wp2_with fail
    refine (HI.out).mono ?_
    rintro e w3 ⟨rfl, h3⟩
    clear hq
    cases ok with
    | true =>
      have hsl := HKA.out [43] HOK.out
      have h3 : PrB w0 w3 g W Aw cw (stepP q) Aq cq := h3
      have hc := HS.out w0 w3 g Aw cw (stepP q) ⟨_, _, h3⟩ (by show (W.length - (q.at_ + 1)) * 9 + (9 - 5) ≤ f; omega)
      have ho := HO.out (stepP q) hsl
      have hr := HL.out
      rw [loop_hit 14 HOK.out (by simp [HOK.out])] at hr
      obtain ⟨⟨b, q2⟩, hq2⟩ : ∃ X, pr W f 5 (stepP q) = X := ⟨_, rfl⟩
      rw [hq2] at hc ho hr
      simp only at hc ho hr
      have HC2 := Lib.hid hc
      have HL2 := Lib.hid hr
      have ho2 : q.at_ + 1 ≤ q2.at_ := ho.le
      have hq2l := ho.lt
      clear hc hq2 hr h3 ho hsl
      go_wp2_with fail
      refine (HC2.out).mono ?_
      rintro e w4 ⟨rfl, A4, c4, h4⟩
      have hon := on_node hq2l (nd2 14 x b)
      have HN := Lib.hid (pnode_ (nd2 14 x b) h4)
      obtain ⟨⟨x3, q3⟩, hq3⟩ : ∃ X, nodeP (nd2 14 x b) q2 = X := ⟨_, rfl⟩
      have HN := HN.out
      have hr := HL2.out
      rw [hq3] at HN hon hr
      simp only at HN hon hr
      have HN := Lib.hid HN
      have HL3 := Lib.hid hr
      have ho3 := hon.le
      have ho4 := hon.lt
      clear hq3 hr hon h4
      go_wp2_with fail
      refine (HN.out).mono ?_
      rintro e w5 ⟨rfl, A5, c5, h5⟩
      have hm2 := h5.blk.cell 1
      have H5 := Lib.hid h5
      have HM1 := Lib.hid hm1
      have HM2 := Lib.hid hm2
      clear h5 hm1 hm2
      go_wp2
      go_roundw
      case rel => exact ⟨n, x3, q3, rfl, HL3, by omega, by omega, _, _, H5.out⟩
      case measure =>
        rw [HM1.out, HM2.out]
        simp [intOf]
        omega
    | false =>
      have HNO := HOK
      clear HOK HI
      have hq : PrB w0 w3 g W Aw cw q Aq cq := h3
      clear h3
      have HI := Lib.hid (pis_ [45] hq)
      obtain ⟨ok, hok⟩ : ∃ b, okIs W [45] q = b := ⟨_, rfl⟩
      have HOK := Lib.hid hok
      have HI := HI.out
      rw [hok] at HI
      have HI := Lib.hid HI
      clear hok
      go_wp2_with fail
      refine (HI.out).mono ?_
      rintro e w3b ⟨rfl, h3⟩
      clear hq
      cases ok with
      | true =>
        have hsl := HKA.out [45] HOK.out
        have h3 : PrB w0 w3b g W Aw cw (stepP q) Aq cq := h3
        have hc := HS.out w0 w3b g Aw cw (stepP q) ⟨_, _, h3⟩ (by show (W.length - (q.at_ + 1)) * 9 + (9 - 5) ≤ f; omega)
        have ho := HO.out (stepP q) hsl
        have hr := HL.out
        rw [loop_hit 15 HOK.out (by simp [HOK.out, HNO.out])] at hr
        obtain ⟨⟨b, q2⟩, hq2⟩ : ∃ X, pr W f 5 (stepP q) = X := ⟨_, rfl⟩
        rw [hq2] at hc ho hr
        simp only at hc ho hr
        have HC2 := Lib.hid hc
        have HL2 := Lib.hid hr
        have ho2 : q.at_ + 1 ≤ q2.at_ := ho.le
        have hq2l := ho.lt
        clear hc hq2 hr h3 ho hsl
        go_wp2_with fail
        refine (HC2.out).mono ?_
        rintro e w4 ⟨rfl, A4, c4, h4⟩
        have hon := on_node hq2l (nd2 15 x b)
        have HN := Lib.hid (pnode_ (nd2 15 x b) h4)
        obtain ⟨⟨x3, q3⟩, hq3⟩ : ∃ X, nodeP (nd2 15 x b) q2 = X := ⟨_, rfl⟩
        have HN := HN.out
        have hr := HL2.out
        rw [hq3] at HN hon hr
        simp only at HN hon hr
        have HN := Lib.hid HN
        have HL3 := Lib.hid hr
        have ho3 := hon.le
        have ho4 := hon.lt
        clear hq3 hr hon h4
        go_wp2_with fail
        refine (HN.out).mono ?_
        rintro e w5 ⟨rfl, A5, c5, h5⟩
        have hm2 := h5.blk.cell 1
        have H5 := Lib.hid h5
        have HM1 := Lib.hid hm1
        have HM2 := Lib.hid hm2
        clear h5 hm1 hm2
        go_wp2
        go_roundw
        case rel => exact ⟨n, x3, q3, rfl, HL3, by omega, by omega, _, _, H5.out⟩
        case measure =>
          rw [HM1.out, HM2.out]
          simp [intOf]
          omega
      | false =>
        have hr : R = (x, q) := by rw [HL.out, loop_miss (by simp [HOK.out, HNO.out])]
        subst hr
        have H3 := Lib.hid (show PrB w0 w3b g W Aw cw q Aq cq from h3)
        clear h3 hm1
        go_wp2
        go_ret
        exact ⟨rfl, _, _, H3.out⟩
set_option maxRecDepth 1000000 in
set_option maxHeartbeats 4000000 in
theorem pone_ (W : List Wd) (f : Nat) (hs : RuleC 46 W 0 f) : RuleC 92 W 7 (f + 1) := by
  intro w0 w g Aw cw p h hn
  have HS := Lib.hid hs
  clear hs
  obtain ⟨Ae, ce, h⟩ := h
  have hW := h.wok
  have HKA := Lib.hid (fun (s : List UInt8) (h : okIs W s p = true) => (on_step hW (okIs_k h).2.1).lt)
  obtain ⟨R, hR⟩ : ∃ R, pr W (f + 1) 7 p = R := ⟨_, rfl⟩
  rw [hR]
  have HR := Lib.hid (show oneP W (pr W f 0) p = R by rw [← hR]; conv => rhs; unfold pr)
  have H := Lib.hid h
  have hb := h.blk
  obtain ⟨bA, oA, rfl, hbl, hmem, hcells⟩ := h.word
  have hlt := h.lt
  have hwl := h.wl
  have c1 : (p.at_ : Int) < (W.length : Int) := by omega
  obtain ⟨x, hx⟩ : ∃ x, wAt W p = x := ⟨_, rfl⟩
  rw [hx] at hcells
  have HX := Lib.hid hx
  clear h hx hmem hR
  go_enter Try.func92, Try.ntmps92
  go_wp2_with fail
  have D := fun w' (h : Below w.heap.size w.drew w') => four hb (Below.trans (Below.refl _ _).drew h)
  have DW := fun w' (h : Below w.heap.size w.drew w') => hcells w' (Below.trans (Below.refl _ _).drew h)
  refine wp_region_one [(0, true), (1, true), (2, true), (3, true), (4, true), (5, true), (6, true), (7, true), (8, true), (9, true), (10, false), (11, false)] (by kernel_rfl) (by kernel_rfl) (by kernel_rfl) (by decide) ?_
  repeat ((with_reducible show wpPerm _ _ _ _ ((_, true) :: _) _ _); (first | (refine wpPerm_on (v := ?_) rfl rfl (wanted_free rfl) (fun w' hS => ?_) ?_; rotate_left; (focus (go_simp; (try with_reducible rfl); done)); try simp only [List.setIfInBounds_toArray, List.set_cons_zero, List.set_cons_succ]) | (refine wpPerm_on (v := ?_) rfl rfl (wanted_yes rfl rfl rfl) (fun w' hS => ?_) ?_; rotate_left; (focus (go_simp; (try with_reducible rfl); done)); try simp only [List.setIfInBounds_toArray, List.set_cons_zero, List.set_cons_succ]) | (refine wpPerm_off rfl rfl (wanted_no rfl rfl rfl) ?_; try simp only [List.setIfInBounds_toArray, List.set_cons_zero, List.set_cons_succ]) | (refine wpPerm_off rfl rfl (wanted_undef rfl rfl rfl) ?_; try simp only [List.setIfInBounds_toArray, List.set_cons_zero, List.set_cons_succ])))
  clear D DW
  refine wpPerm_do rfl (wanted_free rfl) (fun K hK => ?_); go_simp
  have hba : Below w.heap.size w.drew (w.drew.alloc (.cells #[.int .i64 0, .int .i64 0, .string ⟨#[]⟩] 74)) := Below.alloc (Below.refl w.heap.size w.drew) (Nat.le_refl w.drew.heap.size) _
  refine hK.out _ _ hba ?_
  clear hK K
  refine wpPerm_do rfl (wanted_free rfl) (fun K hK => ?_); go_simp
  obtain ⟨wE, hwE, BE, hbe⟩ : ∃ wE, wE = (w.alloc (.cells #[.int .i64 x.k, .int .i64 x.n, .string ⟨x.s.toArray⟩] 74)).drew ∧ Blk wE w.heap.size 74 #[.int .i64 x.k, .int .i64 x.n, .string ⟨x.s.toArray⟩] ∧ Below w.heap.size w.drew wE :=
    ⟨_, rfl, Blk.new w _ _, Below.alloc (Below.refl w.heap.size w.drew) (Nat.le_refl w.drew.heap.size) _⟩
  rw [← hwE]
  clear hwE hba
  refine hK.out _ _ hbe ?_
  clear hK K
  refine wpPerm_done ?_
  have hbE := Below.trans ((Below.refl w.heap.size w).drew) hbe
  have HE := Lib.hid (H.out.ext hbE)
  have hgx : g < w.heap.size := H.out.blk.lt
  clear hbe H
  obtain ⟨ge, hge⟩ : ∃ ge, w.heap.size = ge := ⟨_, rfl⟩
  rw [hge] at BE hgx ⊢
  clear hge hb hcells hbE hbl c1
  have qe := BE.three (Below.refl _ _)
  have hb := HE.out.blk
  have q := four hb (Below.refl _ _)
  clear hb
  by_cases he : p.err = 0
  case neg =>
    have hd : (p.err != 0) = true := by simpa using he
    obtain rfl : ((0 : Int), p) = R := by rw [← HR.out]; unfold oneP; rw [if_pos he]
    clear he
    go_wp2
    go_ret
    exact ⟨rfl, _, _, HE.out⟩
  have hd : (p.err != 0) = false := by simpa using he
  have HEE := Lib.hid he
  clear he
  by_cases hk : x.k = 2
  case pos =>
    clear q
    have hkk : (wAt W p).k ≠ 0 := by rw [HX.out]; omega
    have HS5 := Lib.hid (HE.out.step hkk)
    have hr : nodeP (ndV ⟨2, x.n, ⟨#[]⟩⟩) (stepP p) = R := by
      rw [← HR.out]; unfold oneP
      rw [HX.out, if_neg (by rw [HEE.out]; simp), if_pos hk]
    have hb := HE.out.blk
    have q := four hb (Below.refl _ _)
    have f1 := hb.frozen 1
    have kd : (x.k == 2) = true := by simpa using hk
    clear hb
    go_upto_region 6 with fail
    have BE := BE.far (p := ⟨g, 1, none⟩) (show ge ≠ g by omega) (.int .i64 ((p.at_ : Int) + 1))
    clear q f1 qe kd
    have HS5 := HS5.out
    generalize wE.setCell ⟨g, 1, none⟩ (.int .i64 ((p.at_ : Int) + 1)) = w6 at *
    have h3 := HS5
    have qe := BE.three (Below.refl _ _)
    have HN := Lib.hid (pnode_ (ndV ⟨2, x.n, ⟨#[]⟩⟩) h3)
    have HN := HN.out
    rw [hr] at HN
    have HN := Lib.hid HN
    clear h3 hr
    go_wp2_with fail
    clear qe
    refine (HN.out).mono ?_
    rintro e w5 ⟨rfl, h5⟩
    have H5 := Lib.hid h5
    clear h5
    go_wp2
    go_ret
    exact ⟨rfl, H5.out⟩
  have k2 : (x.k == 2) = false := by simpa using hk
  have HK2 := Lib.hid hk
  clear hk
  by_cases hk : x.k = 3
  case pos =>
    clear q
    have hkk : (wAt W p).k ≠ 0 := by rw [HX.out]; omega
    have HS5 := Lib.hid (HE.out.step hkk)
    have hr : nodeP (ndV ⟨3, 0, ⟨x.s.toArray⟩⟩) (stepP p) = R := by
      rw [← HR.out]; unfold oneP
      rw [HX.out, if_neg (by rw [HEE.out]; simp), if_neg HK2.out, if_pos hk]
    have hb := HE.out.blk
    have q := four hb (Below.refl _ _)
    have f1 := hb.frozen 1
    have kd : (x.k == 3) = true := by simpa using hk
    clear hb
    go_upto_region 9 with fail
    have BE := BE.far (p := ⟨g, 1, none⟩) (show ge ≠ g by omega) (.int .i64 ((p.at_ : Int) + 1))
    clear q f1 qe kd
    have HS5 := HS5.out
    generalize wE.setCell ⟨g, 1, none⟩ (.int .i64 ((p.at_ : Int) + 1)) = w6 at *
    have h3 := HS5
    have qe := BE.three (Below.refl _ _)
    have HN := Lib.hid (pnode_ (ndV ⟨3, 0, ⟨x.s.toArray⟩⟩) h3)
    have HN := HN.out
    rw [hr] at HN
    have HN := Lib.hid HN
    clear h3 hr
    go_wp2_with fail
    clear qe
    refine (HN.out).mono ?_
    rintro e w5 ⟨rfl, h5⟩
    have H5 := Lib.hid h5
    clear h5
    go_wp2
    go_ret
    exact ⟨rfl, H5.out⟩
  have k3 : (x.k == 3) = false := by simpa using hk
  have HK3 := Lib.hid hk
  clear hk
  have hq0 := HE.out
  have HI := Lib.hid (pis_ [116, 114, 117, 101] hq0)
  obtain ⟨ok, hok⟩ : ∃ b, okIs W [116, 114, 117, 101] p = b := ⟨_, rfl⟩
  have HC0 := Lib.hid hok
  have HI := HI.out
  rw [hok] at HI
  have HI := Lib.hid HI
  clear hok hq0
  go_wp2_with fail
  clear qe q
  refine (HI.out).mono ?_
  rintro e w3 ⟨rfl, h3⟩
  cases ok with
  | true =>
    have h3 : PrB w0 w3 g W (some ⟨bA, oA, none⟩) cw (stepP p) Ae ce := h3
    have hr : nodeP (ndV ⟨1, 1, ⟨#[]⟩⟩) (stepP p) = R := by
      rw [← HR.out]; unfold oneP
      rw [HX.out, if_neg (by rw [HEE.out]; simp), if_neg HK2.out, if_neg HK3.out, if_pos HC0.out]
    clear HI
    have HN := Lib.hid (pnode_ (ndV ⟨1, 1, ⟨#[]⟩⟩) h3)
    have HN := HN.out
    rw [hr] at HN
    have HN := Lib.hid HN
    clear h3 hr
    go_wp2_with fail
    refine (HN.out).mono ?_
    rintro e w5 ⟨rfl, h5⟩
    have H5 := Lib.hid h5
    clear h5
    go_wp2
    go_ret
    exact ⟨rfl, H5.out⟩
  | false =>
    clear HI
    have hq1 : PrB w0 w3 g W (some ⟨bA, oA, none⟩) cw p Ae ce := h3
    clear h3
    generalize w3 = wq0 at *
    have HI := Lib.hid (pis_ [102, 97, 108, 115, 101] hq1)
    obtain ⟨ok, hok⟩ : ∃ b, okIs W [102, 97, 108, 115, 101] p = b := ⟨_, rfl⟩
    have HC1 := Lib.hid hok
    have HI := HI.out
    rw [hok] at HI
    have HI := Lib.hid HI
    clear hok hq1
    go_wp2_with fail

    refine (HI.out).mono ?_
    rintro e w3 ⟨rfl, h3⟩
    cases ok with
    | true =>
      have h3 : PrB w0 w3 g W (some ⟨bA, oA, none⟩) cw (stepP p) Ae ce := h3
      have hr : nodeP (ndV ⟨1, 0, ⟨#[]⟩⟩) (stepP p) = R := by
        rw [← HR.out]; unfold oneP
        rw [HX.out, if_neg (by rw [HEE.out]; simp), if_neg HK2.out, if_neg HK3.out, if_neg (by rw [HC0.out]; simp), if_pos HC1.out]
      clear HI
      have HN := Lib.hid (pnode_ (ndV ⟨1, 0, ⟨#[]⟩⟩) h3)
      have HN := HN.out
      rw [hr] at HN
      have HN := Lib.hid HN
      clear h3 hr
      go_wp2_with fail
      refine (HN.out).mono ?_
      rintro e w5 ⟨rfl, h5⟩
      have H5 := Lib.hid h5
      clear h5
      go_wp2
      go_ret
      exact ⟨rfl, H5.out⟩
    | false =>
      clear HI
      have hq2 : PrB w0 w3 g W (some ⟨bA, oA, none⟩) cw p Ae ce := h3
      clear h3
      generalize w3 = wq1 at *
      have HI := Lib.hid (pis_ [110, 117, 108, 108] hq2)
      obtain ⟨ok, hok⟩ : ∃ b, okIs W [110, 117, 108, 108] p = b := ⟨_, rfl⟩
      have HC2 := Lib.hid hok
      have HI := HI.out
      rw [hok] at HI
      have HI := Lib.hid HI
      clear hok hq2
      go_wp2_with fail

      refine (HI.out).mono ?_
      rintro e w3 ⟨rfl, h3⟩
      cases ok with
      | true =>
        have h3 : PrB w0 w3 g W (some ⟨bA, oA, none⟩) cw (stepP p) Ae ce := h3
        have hr : nodeP (ndV ⟨0, 0, ⟨#[]⟩⟩) (stepP p) = R := by
          rw [← HR.out]; unfold oneP
          rw [HX.out, if_neg (by rw [HEE.out]; simp), if_neg HK2.out, if_neg HK3.out, if_neg (by rw [HC0.out]; simp), if_neg (by rw [HC1.out]; simp), if_pos HC2.out]
        clear HI
        have HN := Lib.hid (pnode_ (ndV ⟨0, 0, ⟨#[]⟩⟩) h3)
        have HN := HN.out
        rw [hr] at HN
        have HN := Lib.hid HN
        clear h3 hr
        go_wp2_with fail
        refine (HN.out).mono ?_
        rintro e w5 ⟨rfl, h5⟩
        have H5 := Lib.hid h5
        clear h5
        go_wp2
        go_ret
        exact ⟨rfl, H5.out⟩
      | false =>
        clear HI
        have hq3 : PrB w0 w3 g W (some ⟨bA, oA, none⟩) cw p Ae ce := h3
        clear h3
        generalize w3 = wq2 at *
        have HI := Lib.hid (pis_ [40] hq3)
        obtain ⟨ok, hok⟩ : ∃ b, okIs W [40] p = b := ⟨_, rfl⟩
        have HC3 := Lib.hid hok
        have HI := HI.out
        rw [hok] at HI
        have HI := Lib.hid HI
        clear hok hq3
        go_wp2_with fail

        refine (HI.out).mono ?_
        rintro e w3 ⟨rfl, h3⟩
        cases ok with
        | true =>
          have h3 : PrB w0 w3 g W (some ⟨bA, oA, none⟩) cw (stepP p) Ae ce := h3
          have hsl := HKA.out _ HC3.out
          have hc := HS.out w0 w3 g (some ⟨bA, oA, none⟩) cw (stepP p) ⟨_, _, h3⟩ (by show (W.length - (p.at_ + 1)) * 9 + (9 - 0) ≤ f; omega)
          have hr : ((pr W f 0 (stepP p)).1, mustP W [41] (pr W f 0 (stepP p)).2) = R := by
            rw [← HR.out]; unfold oneP
            rw [HX.out, if_neg (by rw [HEE.out]; simp), if_neg HK2.out, if_neg HK3.out, if_neg (by rw [HC0.out]; simp), if_neg (by rw [HC1.out]; simp), if_neg (by rw [HC2.out]; simp), if_pos HC3.out]
          obtain ⟨⟨b, q2⟩, hq2⟩ : ∃ X, pr W f 0 (stepP p) = X := ⟨_, rfl⟩
          rw [hq2] at hc hr
          simp only at hc hr
          have HCC := Lib.hid hc
          have HRR := Lib.hid hr
          clear hc hr hq2 h3 hsl HI
          go_wp2_with fail
          refine (HCC.out).mono ?_
          rintro e w4 ⟨rfl, A4, c4, h4⟩
          have hal : Below w4.heap.size w4 (w4.alloc (.cells #[.string ⟨#[41]⟩] 9)) := (Below.refl _ _).alloc (Nat.le_refl _) _
          have HM := Lib.hid (pmust_ [41] (some ⟨w4.heap.size, 0, none⟩) 1 (h4.ext hal) (Row.of_blk (Blk.new w4 _ _) (Nat.zero_le _) 1 1 (Nat.le_refl _)))
          clear h4 hal
          go_wp2_with fail
          refine (HM.out).mono ?_
          rintro e w5 ⟨rfl, h5⟩
          have H5 := Lib.hid h5
          clear h5
          have hr := HRR.out
          subst hr
          go_wp2
          go_ret
          exact ⟨rfl, _, _, H5.out⟩
        | false =>
          clear HI
          have hq4 : PrB w0 w3 g W (some ⟨bA, oA, none⟩) cw p Ae ce := h3
          clear h3
          generalize w3 = wq3 at *
          have HC := Lib.hid (pcol_ hq4)
          obtain ⟨⟨cn, q2⟩, hq2⟩ : ∃ X, colP W p = X := ⟨_, rfl⟩
          have hr : nodeP (ndC (colP W p).1) (colP W p).2 = R := by
            rw [← HR.out]; unfold oneP
            rw [HX.out, if_neg (by rw [HEE.out]; simp), if_neg HK2.out, if_neg HK3.out, if_neg (by rw [HC0.out]; simp), if_neg (by rw [HC1.out]; simp), if_neg (by rw [HC2.out]; simp), if_neg (by rw [HC3.out]; simp)]
          have HC := HC.out
          rw [hq2] at HC hr
          simp only at HC hr
          have HC := Lib.hid HC
          have HRR := Lib.hid hr
          clear hq2 hr hq4
          go_wp2_with fail
          refine (HC.out).mono ?_
          rintro e w3 ⟨rfl, h3⟩
          have hr := HRR.out
          have HN := Lib.hid (pnode_ (ndC cn) h3)
          have HN := HN.out
          rw [hr] at HN
          have HN := Lib.hid HN
          clear h3 hr
          go_wp2_with fail
          refine (HN.out).mono ?_
          rintro e w5 ⟨rfl, h5⟩
          have H5 := Lib.hid h5
          clear h5
          go_wp2
          go_ret
          exact ⟨rfl, H5.out⟩
end Go.Proofs.Ytfgmlgflfagdjaa.ps
