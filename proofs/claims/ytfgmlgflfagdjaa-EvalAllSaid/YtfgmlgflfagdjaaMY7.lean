/- The document's parser: or, and, mul, not, neg. Printed by geny.py. -/
import Derived.Test.YtfgmlgflfagdjaaMY2
namespace Go.Proofs.Ytfgmlgflfagdjaa.ps
open Go.ChangeShapes Go.WideShapes Go.ChangeAt Go.RowKit Go.Proofs.Ytfgmlgflfagdjaa.lib Go.Proofs.Ytfgmlgflfagdjaa.val Go.Proofs.Ytfgmlgflfagdjaa.lx Go.Proofs.Ytfgmlgflfagdjaa.ev
set_option linter.unusedVariables false

/-- a rule's contract: with so much to go -/
def RuleC (fn : Nat) (W : List Wd) (k f : Nat) : Prop := ∀ (w0 w : World) (g : Nat) (Aw : Option Addr) (cw : Nat) (p : Ps), PrA w0 w g W Aw cw p → (W.length - p.at_) * 9 + (9 - k) ≤ f →
  Calls Try.prog fn #[.pointer (some ⟨g, 0, none⟩)] w fun e w' => e = .returned (.int .i64 (pr W f k p).1) ∧ PrA w0 w' g W Aw cw (pr W f k p).2
theorem loop_miss {W : List Wd} {sub : Sub} {ops : List (List UInt8 × Int)} {n : Nat} {a : Int} {p : Ps} (h : ops.find? (fun x => okIs W x.1 p) = none) : loopP W sub ops (n + 1) a p = (a, p) := by
  unfold loopP
  rw [h]
theorem loop_hit {W : List Wd} {sub : Sub} {ops : List (List UInt8 × Int)} {n : Nat} {a : Int} {p : Ps} {s : List UInt8} (op : Int) (hk : okIs W s p = true) (h : ops.find? (fun x => okIs W x.1 p) = some (s, op)) :
    loopP W sub ops (n + 1) a p = loopP W sub ops n (nodeP (nd2 op a (sub (stepP p)).1) (sub (stepP p)).2).1 (nodeP (nd2 op a (sub (stepP p)).1) (sub (stepP p)).2).2 := by
  conv => lhs; unfold loopP
  rw [h]
set_option maxRecDepth 1000000 in
set_option maxHeartbeats 4000000 in
theorem por_ (W : List Wd) (f : Nat) (hs : RuleC 63 W 1 f) : RuleC 46 W 0 (f + 1) := by
  intro w0 w g Aw cw p h hn
  have HS := Lib.hid hs
  clear hs
  obtain ⟨Ae, ce, hp⟩ := h
  have hW := hp.wok
  have HO := Lib.hid (on_pr hW f 1)
  have HR := Lib.hid (show pr W (f + 1) 0 p = loopP W (pr W f 1) [([111, 114], 6)] W.length (pr W f 1 p).1 (pr W f 1 p).2 by conv => lhs; unfold pr)
  obtain ⟨R, hR⟩ : ∃ R, pr W (f + 1) 0 p = R := ⟨_, rfl⟩
  rw [hR]
  have HR := HR.out
  rw [hR] at HR
  have hc := HS.out w0 w g Aw cw p ⟨_, _, hp⟩ (by omega)
  have ho := HO.out p hp.lt
  obtain ⟨⟨a0, p1⟩, hp1⟩ : ∃ X, pr W f 1 p = X := ⟨_, rfl⟩
  rw [hp1] at hc HR ho
  simp only at hc HR ho
  have HC := Lib.hid hc
  have HRR := Lib.hid HR
  have hol := ho.le
  have hlt := hp.lt
  have hwl := hp.wl
  clear hc hp1 HR hR ho hp
  go_enter Try.func46, Try.ntmps46
  go_wp2_with fail
  refine (HC.out).mono ?_
  rintro e w2 ⟨rfl, h2⟩
  go_wp2_with fail
  go_loopw [3] (fun a wr => ∃ (n : Nat) (x : Int) (q : Ps), a = .int .i64 x ∧ Hid (R = loopP W (pr W f 1) [([111, 114], 6)] n x q) ∧ p.at_ ≤ q.at_ ∧ W.length ≤ q.at_ + n ∧ PrA w0 wr g W Aw cw q) (fun _ wr => W.length - (intOf ((wr.cell? ⟨g, 1, none⟩).getD (.int .i64 0))).toNat)
  case atStart => exact ⟨W.length, a0, p1, rfl, HRR, hol, Nat.le_add_left _ _, h2⟩
  case round =>
    clear h2
    obtain ⟨n, x, q, rfl, HL, hle, hn2, Aq, cq, hq⟩ := hrel
    have hql := hq.lt
    have hm1 := hq.blk.cell 1
    have hgr := hq.blk.lt
    obtain ⟨n, rfl⟩ : ∃ m, n = m + 1 := ⟨n - 1, by omega⟩
    have HI := Lib.hid (pis_ [111, 114] hq)
    have HK := Lib.hid (fun (h : okIs W [111, 114] q = true) => (on_step hW (okIs_k h).2.1).lt)
    obtain ⟨ok, hok⟩ : ∃ b, okIs W [111, 114] q = b := ⟨_, rfl⟩
    have HOK := Lib.hid hok
    have HI := HI.out
    rw [hok] at HI
    have HI := Lib.hid HI
    clear hok hq
    go_wp2_with fail
    refine (HI.out).mono ?_
    rintro e w3 ⟨rfl, h3⟩
    cases ok with
    | false =>
      have hr : R = (x, q) := by rw [HL.out, loop_miss (by simp [HOK.out])]
      subst hr
      have H3 := Lib.hid (show PrB w0 w3 g W Aw cw q Aq cq from h3)
      clear h3 hm1
      go_wp2
      go_ret
      exact ⟨rfl, _, _, H3.out⟩
    | true =>
      have hsl := HK.out HOK.out
      have h3 : PrB w0 w3 g W Aw cw (stepP q) Aq cq := h3
      have hc := HS.out w0 w3 g Aw cw (stepP q) ⟨_, _, h3⟩ (by show (W.length - (q.at_ + 1)) * 9 + (9 - 1) ≤ f; omega)
      have ho := HO.out (stepP q) hsl
      have hr := HL.out
      rw [loop_hit 6 HOK.out (by simp [HOK.out])] at hr
      obtain ⟨⟨b, q2⟩, hq2⟩ : ∃ X, pr W f 1 (stepP q) = X := ⟨_, rfl⟩
      rw [hq2] at hc ho hr
      simp only at hc ho hr
      have HC2 := Lib.hid hc
      have HL2 := Lib.hid hr
      have ho2 : q.at_ + 1 ≤ q2.at_ := ho.le
      have hq2l := ho.lt
      clear hc hq2 hr h3 ho hsl
      go_wp2_with fail
      refine (HC2.out).mono ?_
      rintro e w4 ⟨rfl, A4, c4, h4⟩
      have hon := on_node hq2l (nd2 6 x b)
      have HN := Lib.hid (pnode_ (nd2 6 x b) h4)
      obtain ⟨⟨x3, q3⟩, hq3⟩ : ∃ X, nodeP (nd2 6 x b) q2 = X := ⟨_, rfl⟩
      have HN := HN.out
      have hr := HL2.out
      rw [hq3] at HN hon hr
      simp only at HN hon hr
      have HN := Lib.hid HN
      have HL3 := Lib.hid hr
      have ho3 := hon.le
      have ho4 := hon.lt
      clear hq3 hr hon h4
      go_wp2_with fail
      refine (HN.out).mono ?_
      rintro e w5 ⟨rfl, A5, c5, h5⟩
      have hm2 := h5.blk.cell 1
      have H5 := Lib.hid h5
      have HM1 := Lib.hid hm1
      have HM2 := Lib.hid hm2
      clear h5 hm1 hm2
      go_wp2
      go_roundw
      case rel => exact ⟨n, x3, q3, rfl, HL3, by omega, by omega, _, _, H5.out⟩
      case measure =>
        rw [HM1.out, HM2.out]
        simp [intOf]
        omega
set_option maxRecDepth 1000000 in
set_option maxHeartbeats 4000000 in
theorem pand_ (W : List Wd) (f : Nat) (hs : RuleC 74 W 2 f) : RuleC 63 W 1 (f + 1) := by
  intro w0 w g Aw cw p h hn
  have HS := Lib.hid hs
  clear hs
  obtain ⟨Ae, ce, hp⟩ := h
  have hW := hp.wok
  have HO := Lib.hid (on_pr hW f 2)
  have HR := Lib.hid (show pr W (f + 1) 1 p = loopP W (pr W f 2) [([97, 110, 100], 7)] W.length (pr W f 2 p).1 (pr W f 2 p).2 by conv => lhs; unfold pr)
  obtain ⟨R, hR⟩ : ∃ R, pr W (f + 1) 1 p = R := ⟨_, rfl⟩
  rw [hR]
  have HR := HR.out
  rw [hR] at HR
  have hc := HS.out w0 w g Aw cw p ⟨_, _, hp⟩ (by omega)
  have ho := HO.out p hp.lt
  obtain ⟨⟨a0, p1⟩, hp1⟩ : ∃ X, pr W f 2 p = X := ⟨_, rfl⟩
  rw [hp1] at hc HR ho
  simp only at hc HR ho
  have HC := Lib.hid hc
  have HRR := Lib.hid HR
  have hol := ho.le
  have hlt := hp.lt
  have hwl := hp.wl
  clear hc hp1 HR hR ho hp
  go_enter Try.func63, Try.ntmps63
  go_wp2_with fail
  refine (HC.out).mono ?_
  rintro e w2 ⟨rfl, h2⟩
  go_wp2_with fail
  go_loopw [3] (fun a wr => ∃ (n : Nat) (x : Int) (q : Ps), a = .int .i64 x ∧ Hid (R = loopP W (pr W f 2) [([97, 110, 100], 7)] n x q) ∧ p.at_ ≤ q.at_ ∧ W.length ≤ q.at_ + n ∧ PrA w0 wr g W Aw cw q) (fun _ wr => W.length - (intOf ((wr.cell? ⟨g, 1, none⟩).getD (.int .i64 0))).toNat)
  case atStart => exact ⟨W.length, a0, p1, rfl, HRR, hol, Nat.le_add_left _ _, h2⟩
  case round =>
    clear h2
    obtain ⟨n, x, q, rfl, HL, hle, hn2, Aq, cq, hq⟩ := hrel
    have hql := hq.lt
    have hm1 := hq.blk.cell 1
    have hgr := hq.blk.lt
    obtain ⟨n, rfl⟩ : ∃ m, n = m + 1 := ⟨n - 1, by omega⟩
    have HI := Lib.hid (pis_ [97, 110, 100] hq)
    have HK := Lib.hid (fun (h : okIs W [97, 110, 100] q = true) => (on_step hW (okIs_k h).2.1).lt)
    obtain ⟨ok, hok⟩ : ∃ b, okIs W [97, 110, 100] q = b := ⟨_, rfl⟩
    have HOK := Lib.hid hok
    have HI := HI.out
    rw [hok] at HI
    have HI := Lib.hid HI
    clear hok hq
    go_wp2_with fail
    refine (HI.out).mono ?_
    rintro e w3 ⟨rfl, h3⟩
    cases ok with
    | false =>
      have hr : R = (x, q) := by rw [HL.out, loop_miss (by simp [HOK.out])]
      subst hr
      have H3 := Lib.hid (show PrB w0 w3 g W Aw cw q Aq cq from h3)
      clear h3 hm1
      go_wp2
      go_ret
      exact ⟨rfl, _, _, H3.out⟩
    | true =>
      have hsl := HK.out HOK.out
      have h3 : PrB w0 w3 g W Aw cw (stepP q) Aq cq := h3
      have hc := HS.out w0 w3 g Aw cw (stepP q) ⟨_, _, h3⟩ (by show (W.length - (q.at_ + 1)) * 9 + (9 - 2) ≤ f; omega)
      have ho := HO.out (stepP q) hsl
      have hr := HL.out
      rw [loop_hit 7 HOK.out (by simp [HOK.out])] at hr
      obtain ⟨⟨b, q2⟩, hq2⟩ : ∃ X, pr W f 2 (stepP q) = X := ⟨_, rfl⟩
      rw [hq2] at hc ho hr
      simp only at hc ho hr
      have HC2 := Lib.hid hc
      have HL2 := Lib.hid hr
      have ho2 : q.at_ + 1 ≤ q2.at_ := ho.le
      have hq2l := ho.lt
      clear hc hq2 hr h3 ho hsl
      go_wp2_with fail
      refine (HC2.out).mono ?_
      rintro e w4 ⟨rfl, A4, c4, h4⟩
      have hon := on_node hq2l (nd2 7 x b)
      have HN := Lib.hid (pnode_ (nd2 7 x b) h4)
      obtain ⟨⟨x3, q3⟩, hq3⟩ : ∃ X, nodeP (nd2 7 x b) q2 = X := ⟨_, rfl⟩
      have HN := HN.out
      have hr := HL2.out
      rw [hq3] at HN hon hr
      simp only at HN hon hr
      have HN := Lib.hid HN
      have HL3 := Lib.hid hr
      have ho3 := hon.le
      have ho4 := hon.lt
      clear hq3 hr hon h4
      go_wp2_with fail
      refine (HN.out).mono ?_
      rintro e w5 ⟨rfl, A5, c5, h5⟩
      have hm2 := h5.blk.cell 1
      have H5 := Lib.hid h5
      have HM1 := Lib.hid hm1
      have HM2 := Lib.hid hm2
      clear h5 hm1 hm2
      go_wp2
      go_roundw
      case rel => exact ⟨n, x3, q3, rfl, HL3, by omega, by omega, _, _, H5.out⟩
      case measure =>
        rw [HM1.out, HM2.out]
        simp [intOf]
        omega
set_option maxRecDepth 1000000 in
set_option maxHeartbeats 4000000 in
theorem pmul_ (W : List Wd) (f : Nat) (hs : RuleC 91 W 6 f) : RuleC 90 W 5 (f + 1) := by
  intro w0 w g Aw cw p h hn
  have HS := Lib.hid hs
  clear hs
  obtain ⟨Ae, ce, hp⟩ := h
  have hW := hp.wok
  have HO := Lib.hid (on_pr hW f 6)
  have HR := Lib.hid (show pr W (f + 1) 5 p = loopP W (pr W f 6) [([42], 16)] W.length (pr W f 6 p).1 (pr W f 6 p).2 by conv => lhs; unfold pr)
  obtain ⟨R, hR⟩ : ∃ R, pr W (f + 1) 5 p = R := ⟨_, rfl⟩
  rw [hR]
  have HR := HR.out
  rw [hR] at HR
  have hc := HS.out w0 w g Aw cw p ⟨_, _, hp⟩ (by omega)
  have ho := HO.out p hp.lt
  obtain ⟨⟨a0, p1⟩, hp1⟩ : ∃ X, pr W f 6 p = X := ⟨_, rfl⟩
  rw [hp1] at hc HR ho
  simp only at hc HR ho
  have HC := Lib.hid hc
  have HRR := Lib.hid HR
  have hol := ho.le
  have hlt := hp.lt
  have hwl := hp.wl
  clear hc hp1 HR hR ho hp
  go_enter Try.func90, Try.ntmps90
  go_wp2_with fail
  refine (HC.out).mono ?_
  rintro e w2 ⟨rfl, h2⟩
  go_wp2_with fail
  go_loopw [3] (fun a wr => ∃ (n : Nat) (x : Int) (q : Ps), a = .int .i64 x ∧ Hid (R = loopP W (pr W f 6) [([42], 16)] n x q) ∧ p.at_ ≤ q.at_ ∧ W.length ≤ q.at_ + n ∧ PrA w0 wr g W Aw cw q) (fun _ wr => W.length - (intOf ((wr.cell? ⟨g, 1, none⟩).getD (.int .i64 0))).toNat)
  case atStart => exact ⟨W.length, a0, p1, rfl, HRR, hol, Nat.le_add_left _ _, h2⟩
  case round =>
    clear h2
    obtain ⟨n, x, q, rfl, HL, hle, hn2, Aq, cq, hq⟩ := hrel
    have hql := hq.lt
    have hm1 := hq.blk.cell 1
    have hgr := hq.blk.lt
    obtain ⟨n, rfl⟩ : ∃ m, n = m + 1 := ⟨n - 1, by omega⟩
    have HI := Lib.hid (pis_ [42] hq)
    have HK := Lib.hid (fun (h : okIs W [42] q = true) => (on_step hW (okIs_k h).2.1).lt)
    obtain ⟨ok, hok⟩ : ∃ b, okIs W [42] q = b := ⟨_, rfl⟩
    have HOK := Lib.hid hok
    have HI := HI.out
    rw [hok] at HI
    have HI := Lib.hid HI
    clear hok hq
    go_wp2_with fail
    refine (HI.out).mono ?_
    rintro e w3 ⟨rfl, h3⟩
    cases ok with
    | false =>
      have hr : R = (x, q) := by rw [HL.out, loop_miss (by simp [HOK.out])]
      subst hr
      have H3 := Lib.hid (show PrB w0 w3 g W Aw cw q Aq cq from h3)
      clear h3 hm1
      go_wp2
      go_ret
      exact ⟨rfl, _, _, H3.out⟩
    | true =>
      have hsl := HK.out HOK.out
      have h3 : PrB w0 w3 g W Aw cw (stepP q) Aq cq := h3
      have hc := HS.out w0 w3 g Aw cw (stepP q) ⟨_, _, h3⟩ (by show (W.length - (q.at_ + 1)) * 9 + (9 - 6) ≤ f; omega)
      have ho := HO.out (stepP q) hsl
      have hr := HL.out
      rw [loop_hit 16 HOK.out (by simp [HOK.out])] at hr
      obtain ⟨⟨b, q2⟩, hq2⟩ : ∃ X, pr W f 6 (stepP q) = X := ⟨_, rfl⟩
      rw [hq2] at hc ho hr
      simp only at hc ho hr
      have HC2 := Lib.hid hc
      have HL2 := Lib.hid hr
      have ho2 : q.at_ + 1 ≤ q2.at_ := ho.le
      have hq2l := ho.lt
      clear hc hq2 hr h3 ho hsl
      go_wp2_with fail
      refine (HC2.out).mono ?_
      rintro e w4 ⟨rfl, A4, c4, h4⟩
      have hon := on_node hq2l (nd2 16 x b)
      have HN := Lib.hid (pnode_ (nd2 16 x b) h4)
      obtain ⟨⟨x3, q3⟩, hq3⟩ : ∃ X, nodeP (nd2 16 x b) q2 = X := ⟨_, rfl⟩
      have HN := HN.out
      have hr := HL2.out
      rw [hq3] at HN hon hr
      simp only at HN hon hr
      have HN := Lib.hid HN
      have HL3 := Lib.hid hr
      have ho3 := hon.le
      have ho4 := hon.lt
      clear hq3 hr hon h4
      go_wp2_with fail
      refine (HN.out).mono ?_
      rintro e w5 ⟨rfl, A5, c5, h5⟩
      have hm2 := h5.blk.cell 1
      have H5 := Lib.hid h5
      have HM1 := Lib.hid hm1
      have HM2 := Lib.hid hm2
      clear h5 hm1 hm2
      go_wp2
      go_roundw
      case rel => exact ⟨n, x3, q3, rfl, HL3, by omega, by omega, _, _, H5.out⟩
      case measure =>
        rw [HM1.out, HM2.out]
        simp [intOf]
        omega
set_option maxRecDepth 1000000 in
set_option maxHeartbeats 4000000 in
theorem pnot_ (W : List Wd) (f : Nat) (hs : RuleC 74 W 2 f) (ht : RuleC 83 W 3 f) : RuleC 74 W 2 (f + 1) := by
  intro w0 w g Aw cw p h hn
  have HS := Lib.hid hs
  have HT := Lib.hid ht
  clear hs ht
  obtain ⟨Ae, ce, hp⟩ := h
  have hW := hp.wok
  have HO := Lib.hid (on_pr hW f 2)
  have HR := Lib.hid (show pr W (f + 1) 2 p = if okIs W [110, 111, 116] p = true then nodeP (nd2 3 (pr W f 2 (stepP p)).1 0) (pr W f 2 (stepP p)).2 else pr W f 3 p by conv => lhs; unfold pr)
  obtain ⟨R, hR⟩ : ∃ R, pr W (f + 1) 2 p = R := ⟨_, rfl⟩
  rw [hR]
  have HR := HR.out
  rw [hR] at HR
  have HI := Lib.hid (pis_ [110, 111, 116] hp)
  have HK := Lib.hid (fun (h : okIs W [110, 111, 116] p = true) => (on_step hW (okIs_k h).2.1).lt)
  obtain ⟨ok, hok⟩ : ∃ b, okIs W [110, 111, 116] p = b := ⟨_, rfl⟩
  have HOK := Lib.hid hok
  have HI := HI.out
  rw [hok] at HI HR
  have HI := Lib.hid HI
  have HRR := Lib.hid HR
  have hlt := hp.lt
  clear hok hp HR hR
  go_enter Try.func74, Try.ntmps74
  go_wp2_with fail
  refine (HI.out).mono ?_
  rintro e w3 ⟨rfl, h3⟩
  cases ok with
  | false =>
    have hr : R = pr W f 3 p := by rw [HRR.out, if_neg (by simp)]
    have HC := Lib.hid (HT.out w0 w3 g Aw cw p ⟨_, _, h3⟩ (by omega))
    have HC := HC.out
    rw [← hr] at HC
    have HC := Lib.hid HC
    clear h3 hr
    go_wp2_with fail
    refine (HC.out).mono ?_
    rintro e w4 ⟨rfl, h4⟩
    have H4 := Lib.hid h4
    clear h4
    go_wp2
    go_ret
    exact ⟨rfl, H4.out⟩
  | true =>
    have hsl := HK.out HOK.out
    have h3 : PrB w0 w3 g W Aw cw (stepP p) Ae ce := h3
    have hc := HS.out w0 w3 g Aw cw (stepP p) ⟨_, _, h3⟩ (by show (W.length - (p.at_ + 1)) * 9 + (9 - 2) ≤ f; omega)
    have hr := HRR.out
    rw [if_pos rfl] at hr
    obtain ⟨⟨b, q2⟩, hq2⟩ : ∃ X, pr W f 2 (stepP p) = X := ⟨_, rfl⟩
    rw [hq2] at hc hr
    simp only at hc hr
    have HC2 := Lib.hid hc
    have HL2 := Lib.hid hr
    clear hc hq2 hr h3 hsl
    go_wp2_with fail
    refine (HC2.out).mono ?_
    rintro e w4 ⟨rfl, A4, c4, h4⟩
    have HN := Lib.hid (pnode_ (nd2 3 b 0) h4)
    have HN := HN.out
    rw [← HL2.out] at HN
    have HN := Lib.hid HN
    clear h4
    go_wp2_with fail
    refine (HN.out).mono ?_
    rintro e w5 ⟨rfl, h5⟩
    have H5 := Lib.hid h5
    clear h5
    go_wp2
    go_ret
    exact ⟨rfl, H5.out⟩
set_option maxRecDepth 1000000 in
set_option maxHeartbeats 4000000 in
theorem pneg_ (W : List Wd) (f : Nat) (hs : RuleC 91 W 6 f) (ht : RuleC 92 W 7 f) : RuleC 91 W 6 (f + 1) := by
  intro w0 w g Aw cw p h hn
  have HS := Lib.hid hs
  have HT := Lib.hid ht
  clear hs ht
  obtain ⟨Ae, ce, hp⟩ := h
  have hW := hp.wok
  have HO := Lib.hid (on_pr hW f 6)
  have HR := Lib.hid (show pr W (f + 1) 6 p = if okIs W [45] p = true then nodeP (nd2 4 (pr W f 6 (stepP p)).1 0) (pr W f 6 (stepP p)).2 else pr W f 7 p by conv => lhs; unfold pr)
  obtain ⟨R, hR⟩ : ∃ R, pr W (f + 1) 6 p = R := ⟨_, rfl⟩
  rw [hR]
  have HR := HR.out
  rw [hR] at HR
  have HI := Lib.hid (pis_ [45] hp)
  have HK := Lib.hid (fun (h : okIs W [45] p = true) => (on_step hW (okIs_k h).2.1).lt)
  obtain ⟨ok, hok⟩ : ∃ b, okIs W [45] p = b := ⟨_, rfl⟩
  have HOK := Lib.hid hok
  have HI := HI.out
  rw [hok] at HI HR
  have HI := Lib.hid HI
  have HRR := Lib.hid HR
  have hlt := hp.lt
  clear hok hp HR hR
  go_enter Try.func91, Try.ntmps91
  go_wp2_with fail
  refine (HI.out).mono ?_
  rintro e w3 ⟨rfl, h3⟩
  cases ok with
  | false =>
    have hr : R = pr W f 7 p := by rw [HRR.out, if_neg (by simp)]
    have HC := Lib.hid (HT.out w0 w3 g Aw cw p ⟨_, _, h3⟩ (by omega))
    have HC := HC.out
    rw [← hr] at HC
    have HC := Lib.hid HC
    clear h3 hr
    go_wp2_with fail
    refine (HC.out).mono ?_
    rintro e w4 ⟨rfl, h4⟩
    have H4 := Lib.hid h4
    clear h4
    go_wp2
    go_ret
    exact ⟨rfl, H4.out⟩
  | true =>
    have hsl := HK.out HOK.out
    have h3 : PrB w0 w3 g W Aw cw (stepP p) Ae ce := h3
    have hc := HS.out w0 w3 g Aw cw (stepP p) ⟨_, _, h3⟩ (by show (W.length - (p.at_ + 1)) * 9 + (9 - 6) ≤ f; omega)
    have hr := HRR.out
    rw [if_pos rfl] at hr
    obtain ⟨⟨b, q2⟩, hq2⟩ : ∃ X, pr W f 6 (stepP p) = X := ⟨_, rfl⟩
    rw [hq2] at hc hr
    simp only at hc hr
    have HC2 := Lib.hid hc
    have HL2 := Lib.hid hr
    clear hc hq2 hr h3 hsl
    go_wp2_with fail
    refine (HC2.out).mono ?_
    rintro e w4 ⟨rfl, A4, c4, h4⟩
    have HN := Lib.hid (pnode_ (nd2 4 b 0) h4)
    have HN := HN.out
    rw [← HL2.out] at HN
    have HN := Lib.hid HN
    clear h4
    go_wp2_with fail
    refine (HN.out).mono ?_
    rintro e w5 ⟨rfl, h5⟩
    have H5 := Lib.hid h5
    clear h5
    go_wp2
    go_ret
    exact ⟨rfl, H5.out⟩
end Go.Proofs.Ytfgmlgflfagdjaa.ps

/- The document's parser: sum, one. Printed by geny.py. -/
namespace Go.Proofs.Ytfgmlgflfagdjaa.ps
open Go.ChangeShapes Go.WideShapes Go.ChangeAt Go.RowKit Go.Proofs.Ytfgmlgflfagdjaa.lib Go.Proofs.Ytfgmlgflfagdjaa.val Go.Proofs.Ytfgmlgflfagdjaa.lx Go.Proofs.Ytfgmlgflfagdjaa.ev
set_option linter.unusedVariables false

set_option maxRecDepth 1000000 in
set_option maxHeartbeats 4000000 in
theorem psum_ (W : List Wd) (f : Nat) (hs : RuleC 90 W 5 f) : RuleC 87 W 4 (f + 1) := by
  intro w0 w g Aw cw p h hn
  have HS := Lib.hid hs
  clear hs
  obtain ⟨Ae, ce, hp⟩ := h
  have hW := hp.wok
  have HO := Lib.hid (on_pr hW f 5)
  have HR := Lib.hid (show pr W (f + 1) 4 p = loopP W (pr W f 5) [([43], 14), ([45], 15)] W.length (pr W f 5 p).1 (pr W f 5 p).2 by conv => lhs; unfold pr)
  obtain ⟨R, hR⟩ : ∃ R, pr W (f + 1) 4 p = R := ⟨_, rfl⟩
  rw [hR]
  have HR := HR.out
  rw [hR] at HR
  have hc := HS.out w0 w g Aw cw p ⟨_, _, hp⟩ (by omega)
  have ho := HO.out p hp.lt
  obtain ⟨⟨a0, p1⟩, hp1⟩ : ∃ X, pr W f 5 p = X := ⟨_, rfl⟩
  rw [hp1] at hc HR ho
  simp only at hc HR ho
  have HC := Lib.hid hc
  have HRR := Lib.hid HR
  have hol := ho.le
  have hlt := hp.lt
  clear hc hp1 HR hR ho hp
  go_enter Try.func87, Try.ntmps87
  go_wp2_with fail
  refine (HC.out).mono ?_
  rintro e w2 ⟨rfl, h2⟩
  go_wp2_with fail
  go_loopw [3] (fun a wr => ∃ (n : Nat) (x : Int) (q : Ps), a = .int .i64 x ∧ Hid (R = loopP W (pr W f 5) [([43], 14), ([45], 15)] n x q) ∧ p.at_ ≤ q.at_ ∧ W.length ≤ q.at_ + n ∧ PrA w0 wr g W Aw cw q) (fun _ wr => W.length - (intOf ((wr.cell? ⟨g, 1, none⟩).getD (.int .i64 0))).toNat)
  case atStart => exact ⟨W.length, a0, p1, rfl, HRR, hol, Nat.le_add_left _ _, h2⟩
  case round =>
    clear h2
    obtain ⟨n, x, q, rfl, HL, hle, hn2, Aq, cq, hq⟩ := hrel
    have hql := hq.lt
    have hm1 := hq.blk.cell 1
    obtain ⟨n, rfl⟩ : ∃ m, n = m + 1 := ⟨n - 1, by omega⟩
    have HKA := Lib.hid (fun (s : List UInt8) (h : okIs W s q = true) => (on_step hW (okIs_k h).2.1).lt)
    have HI := Lib.hid (pis_ [43] hq)
    obtain ⟨ok, hok⟩ : ∃ b, okIs W [43] q = b := ⟨_, rfl⟩
    have HOK := Lib.hid hok
    have HI := HI.out
    rw [hok] at HI
    have HI := Lib.hid HI
    clear hok
    go_wp2_with fail
    refine (HI.out).mono ?_
    rintro e w3 ⟨rfl, h3⟩
    clear hq
    cases ok with
    | true =>
      have hsl := HKA.out [43] HOK.out
      have h3 : PrB w0 w3 g W Aw cw (stepP q) Aq cq := h3
      have hc := HS.out w0 w3 g Aw cw (stepP q) ⟨_, _, h3⟩ (by show (W.length - (q.at_ + 1)) * 9 + (9 - 5) ≤ f; omega)
      have ho := HO.out (stepP q) hsl
      have hr := HL.out
      rw [loop_hit 14 HOK.out (by simp [HOK.out])] at hr
      obtain ⟨⟨b, q2⟩, hq2⟩ : ∃ X, pr W f 5 (stepP q) = X := ⟨_, rfl⟩
      rw [hq2] at hc ho hr
      simp only at hc ho hr
      have HC2 := Lib.hid hc
      have HL2 := Lib.hid hr
      have ho2 : q.at_ + 1 ≤ q2.at_ := ho.le
      have hq2l := ho.lt
      clear hc hq2 hr h3 ho hsl
      go_wp2_with fail
      refine (HC2.out).mono ?_
      rintro e w4 ⟨rfl, A4, c4, h4⟩
      have hon := on_node hq2l (nd2 14 x b)
      have HN := Lib.hid (pnode_ (nd2 14 x b) h4)
      obtain ⟨⟨x3, q3⟩, hq3⟩ : ∃ X, nodeP (nd2 14 x b) q2 = X := ⟨_, rfl⟩
      have HN := HN.out
      have hr := HL2.out
      rw [hq3] at HN hon hr
      simp only at HN hon hr
      have HN := Lib.hid HN
      have HL3 := Lib.hid hr
      have ho3 := hon.le
      have ho4 := hon.lt
      clear hq3 hr hon h4
      go_wp2_with fail
      refine (HN.out).mono ?_
      rintro e w5 ⟨rfl, A5, c5, h5⟩
      have hm2 := h5.blk.cell 1
      have H5 := Lib.hid h5
      have HM1 := Lib.hid hm1
      have HM2 := Lib.hid hm2
      clear h5 hm1 hm2
      go_wp2
      go_roundw
      case rel => exact ⟨n, x3, q3, rfl, HL3, by omega, by omega, _, _, H5.out⟩
      case measure =>
        rw [HM1.out, HM2.out]
        simp [intOf]
        omega
    | false =>
      have HNO := HOK
      clear HOK HI
      have hq : PrB w0 w3 g W Aw cw q Aq cq := h3
      clear h3
      have HI := Lib.hid (pis_ [45] hq)
      obtain ⟨ok, hok⟩ : ∃ b, okIs W [45] q = b := ⟨_, rfl⟩
      have HOK := Lib.hid hok
      have HI := HI.out
      rw [hok] at HI
      have HI := Lib.hid HI
      clear hok
      go_wp2_with fail
      refine (HI.out).mono ?_
      rintro e w3b ⟨rfl, h3⟩
      clear hq
      cases ok with
      | true =>
        have hsl := HKA.out [45] HOK.out
        have h3 : PrB w0 w3b g W Aw cw (stepP q) Aq cq := h3
        have hc := HS.out w0 w3b g Aw cw (stepP q) ⟨_, _, h3⟩ (by show (W.length - (q.at_ + 1)) * 9 + (9 - 5) ≤ f; omega)
        have ho := HO.out (stepP q) hsl
        have hr := HL.out
        rw [loop_hit 15 HOK.out (by simp [HOK.out, HNO.out])] at hr
        obtain ⟨⟨b, q2⟩, hq2⟩ : ∃ X, pr W f 5 (stepP q) = X := ⟨_, rfl⟩
        rw [hq2] at hc ho hr
        simp only at hc ho hr
        have HC2 := Lib.hid hc
        have HL2 := Lib.hid hr
        have ho2 : q.at_ + 1 ≤ q2.at_ := ho.le
        have hq2l := ho.lt
        clear hc hq2 hr h3 ho hsl
        go_wp2_with fail
        refine (HC2.out).mono ?_
        rintro e w4 ⟨rfl, A4, c4, h4⟩
        have hon := on_node hq2l (nd2 15 x b)
        have HN := Lib.hid (pnode_ (nd2 15 x b) h4)
        obtain ⟨⟨x3, q3⟩, hq3⟩ : ∃ X, nodeP (nd2 15 x b) q2 = X := ⟨_, rfl⟩
        have HN := HN.out
        have hr := HL2.out
        rw [hq3] at HN hon hr
        simp only at HN hon hr
        have HN := Lib.hid HN
        have HL3 := Lib.hid hr
        have ho3 := hon.le
        have ho4 := hon.lt
        clear hq3 hr hon h4
        go_wp2_with fail
        refine (HN.out).mono ?_
        rintro e w5 ⟨rfl, A5, c5, h5⟩
        have hm2 := h5.blk.cell 1
        have H5 := Lib.hid h5
        have HM1 := Lib.hid hm1
        have HM2 := Lib.hid hm2
        clear h5 hm1 hm2
        go_wp2
        go_roundw
        case rel => exact ⟨n, x3, q3, rfl, HL3, by omega, by omega, _, _, H5.out⟩
        case measure =>
          rw [HM1.out, HM2.out]
          simp [intOf]
          omega
      | false =>
        have hr : R = (x, q) := by rw [HL.out, loop_miss (by simp [HOK.out, HNO.out])]
        subst hr
        have H3 := Lib.hid (show PrB w0 w3b g W Aw cw q Aq cq from h3)
        clear h3 hm1
        go_wp2
        go_ret
        exact ⟨rfl, _, _, H3.out⟩
set_option maxRecDepth 1000000 in
set_option maxHeartbeats 4000000 in
theorem pone_ (W : List Wd) (f : Nat) (hs : RuleC 46 W 0 f) : RuleC 92 W 7 (f + 1) := by
  intro w0 w g Aw cw p h hn
  have HS := Lib.hid hs
  clear hs
  obtain ⟨Ae, ce, h⟩ := h
  have hW := h.wok
  have HKA := Lib.hid (fun (s : List UInt8) (h : okIs W s p = true) => (on_step hW (okIs_k h).2.1).lt)
  obtain ⟨R, hR⟩ : ∃ R, pr W (f + 1) 7 p = R := ⟨_, rfl⟩
  rw [hR]
  have HR := Lib.hid (show oneP W (pr W f 0) p = R by rw [← hR]; conv => rhs; unfold pr)
  have H := Lib.hid h
  have hb := h.blk
  obtain ⟨bA, oA, rfl, hbl, hmem, hcells⟩ := h.word
  have hlt := h.lt
  have hwl := h.wl
  have c1 : (p.at_ : Int) < (W.length : Int) := by omega
  obtain ⟨x, hx⟩ : ∃ x, wAt W p = x := ⟨_, rfl⟩
  rw [hx] at hcells
  have HX := Lib.hid hx
  clear h hx hmem hR
  go_enter Try.func92, Try.ntmps92
  go_wp2_with fail
  have D := fun w' (h : Below w.heap.size w.drew w') => four hb (Below.trans (Below.refl _ _).drew h)
  have DW := fun w' (h : Below w.heap.size w.drew w') => hcells w' (Below.trans (Below.refl _ _).drew h)
  refine wp_region_one [(0, true), (1, true), (2, true), (3, true), (4, true), (5, true), (6, true), (7, true), (8, true), (9, true), (10, false), (11, false)] (by kernel_rfl) (by kernel_rfl) (by kernel_rfl) (by decide) ?_
  repeat ((with_reducible show wpPerm _ _ _ _ ((_, true) :: _) _ _); (first | (refine wpPerm_on (v := ?_) rfl rfl (wanted_free rfl) (fun w' hS => ?_) ?_; rotate_left; (focus (go_simp; (try with_reducible rfl); done)); try simp only [List.setIfInBounds_toArray, List.set_cons_zero, List.set_cons_succ]) | (refine wpPerm_on (v := ?_) rfl rfl (wanted_yes rfl rfl rfl) (fun w' hS => ?_) ?_; rotate_left; (focus (go_simp; (try with_reducible rfl); done)); try simp only [List.setIfInBounds_toArray, List.set_cons_zero, List.set_cons_succ]) | (refine wpPerm_off rfl rfl (wanted_no rfl rfl rfl) ?_; try simp only [List.setIfInBounds_toArray, List.set_cons_zero, List.set_cons_succ]) | (refine wpPerm_off rfl rfl (wanted_undef rfl rfl rfl) ?_; try simp only [List.setIfInBounds_toArray, List.set_cons_zero, List.set_cons_succ])))
  clear D DW
  refine wpPerm_do rfl (wanted_free rfl) (fun K hK => ?_); go_simp
  have hba : Below w.heap.size w.drew (w.drew.alloc (.cells #[.int .i64 0, .int .i64 0, .string ⟨#[]⟩] 74)) := Below.alloc (Below.refl w.heap.size w.drew) (Nat.le_refl w.drew.heap.size) _
  refine hK.out _ _ hba ?_
  clear hK K
  refine wpPerm_do rfl (wanted_free rfl) (fun K hK => ?_); go_simp
  obtain ⟨wE, hwE, BE, hbe⟩ : ∃ wE, wE = (w.alloc (.cells #[.int .i64 x.k, .int .i64 x.n, .string ⟨x.s.toArray⟩] 74)).drew ∧ Blk wE w.heap.size 74 #[.int .i64 x.k, .int .i64 x.n, .string ⟨x.s.toArray⟩] ∧ Below w.heap.size w.drew wE :=
    ⟨_, rfl, Blk.new w _ _, Below.alloc (Below.refl w.heap.size w.drew) (Nat.le_refl w.drew.heap.size) _⟩
  rw [← hwE]
  clear hwE hba
  refine hK.out _ _ hbe ?_
  clear hK K
  refine wpPerm_done ?_
  have hbE := Below.trans ((Below.refl w.heap.size w).drew) hbe
  have HE := Lib.hid (H.out.ext hbE)
  have hgx : g < w.heap.size := H.out.blk.lt
  clear hbe H
  obtain ⟨ge, hge⟩ : ∃ ge, w.heap.size = ge := ⟨_, rfl⟩
  rw [hge] at BE hgx ⊢
  clear hge hb hcells hbE hbl c1
  have qe := BE.three (Below.refl _ _)
  have hb := HE.out.blk
  have q := four hb (Below.refl _ _)
  clear hb
  by_cases he : p.err = 0
  case neg =>
    have hd : (p.err != 0) = true := by simpa using he
    obtain rfl : ((0 : Int), p) = R := by rw [← HR.out]; unfold oneP; rw [if_pos he]
    clear he
    go_wp2
    go_ret
    exact ⟨rfl, _, _, HE.out⟩
  have hd : (p.err != 0) = false := by simpa using he
  have HEE := Lib.hid he
  clear he
  by_cases hk : x.k = 2
  case pos =>
    clear q
    have hkk : (wAt W p).k ≠ 0 := by rw [HX.out]; omega
    have HS5 := Lib.hid (HE.out.step hkk)
    have hr : nodeP (ndV ⟨2, x.n, ⟨#[]⟩⟩) (stepP p) = R := by
      rw [← HR.out]; unfold oneP
      rw [HX.out, if_neg (by rw [HEE.out]; simp), if_pos hk]
    have hb := HE.out.blk
    have q := four hb (Below.refl _ _)
    have f1 := hb.frozen 1
    have kd : (x.k == 2) = true := by simpa using hk
    clear hb
    go_upto_region 6 with fail
    have BE := BE.far (p := ⟨g, 1, none⟩) (show ge ≠ g by omega) (.int .i64 ((p.at_ : Int) + 1))
    clear q f1 qe kd
    have HS5 := HS5.out
    generalize wE.setCell ⟨g, 1, none⟩ (.int .i64 ((p.at_ : Int) + 1)) = w6 at *
    have h3 := HS5
    have qe := BE.three (Below.refl _ _)
    have HN := Lib.hid (pnode_ (ndV ⟨2, x.n, ⟨#[]⟩⟩) h3)
    have HN := HN.out
    rw [hr] at HN
    have HN := Lib.hid HN
    clear h3 hr
    go_wp2_with fail
    clear qe
    refine (HN.out).mono ?_
    rintro e w5 ⟨rfl, h5⟩
    have H5 := Lib.hid h5
    clear h5
    go_wp2
    go_ret
    exact ⟨rfl, H5.out⟩
  have k2 : (x.k == 2) = false := by simpa using hk
  have HK2 := Lib.hid hk
  clear hk
  by_cases hk : x.k = 3
  case pos =>
    clear q
    have hkk : (wAt W p).k ≠ 0 := by rw [HX.out]; omega
    have HS5 := Lib.hid (HE.out.step hkk)
    have hr : nodeP (ndV ⟨3, 0, ⟨x.s.toArray⟩⟩) (stepP p) = R := by
      rw [← HR.out]; unfold oneP
      rw [HX.out, if_neg (by rw [HEE.out]; simp), if_neg HK2.out, if_pos hk]
    have hb := HE.out.blk
    have q := four hb (Below.refl _ _)
    have f1 := hb.frozen 1
    have kd : (x.k == 3) = true := by simpa using hk
    clear hb
    go_upto_region 9 with fail
    have BE := BE.far (p := ⟨g, 1, none⟩) (show ge ≠ g by omega) (.int .i64 ((p.at_ : Int) + 1))
    clear q f1 qe kd
    have HS5 := HS5.out
    generalize wE.setCell ⟨g, 1, none⟩ (.int .i64 ((p.at_ : Int) + 1)) = w6 at *
    have h3 := HS5
    have qe := BE.three (Below.refl _ _)
    have HN := Lib.hid (pnode_ (ndV ⟨3, 0, ⟨x.s.toArray⟩⟩) h3)
    have HN := HN.out
    rw [hr] at HN
    have HN := Lib.hid HN
    clear h3 hr
    go_wp2_with fail
    clear qe
    refine (HN.out).mono ?_
    rintro e w5 ⟨rfl, h5⟩
    have H5 := Lib.hid h5
    clear h5
    go_wp2
    go_ret
    exact ⟨rfl, H5.out⟩
  have k3 : (x.k == 3) = false := by simpa using hk
  have HK3 := Lib.hid hk
  clear hk
  have hq0 := HE.out
  have HI := Lib.hid (pis_ [116, 114, 117, 101] hq0)
  obtain ⟨ok, hok⟩ : ∃ b, okIs W [116, 114, 117, 101] p = b := ⟨_, rfl⟩
  have HC0 := Lib.hid hok
  have HI := HI.out
  rw [hok] at HI
  have HI := Lib.hid HI
  clear hok hq0
  go_wp2_with fail
  clear qe q
  refine (HI.out).mono ?_
  rintro e w3 ⟨rfl, h3⟩
  cases ok with
  | true =>
    have h3 : PrB w0 w3 g W (some ⟨bA, oA, none⟩) cw (stepP p) Ae ce := h3
    have hr : nodeP (ndV ⟨1, 1, ⟨#[]⟩⟩) (stepP p) = R := by
      rw [← HR.out]; unfold oneP
      rw [HX.out, if_neg (by rw [HEE.out]; simp), if_neg HK2.out, if_neg HK3.out, if_pos HC0.out]
    clear HI
    have HN := Lib.hid (pnode_ (ndV ⟨1, 1, ⟨#[]⟩⟩) h3)
    have HN := HN.out
    rw [hr] at HN
    have HN := Lib.hid HN
    clear h3 hr
    go_wp2_with fail
    refine (HN.out).mono ?_
    rintro e w5 ⟨rfl, h5⟩
    have H5 := Lib.hid h5
    clear h5
    go_wp2
    go_ret
    exact ⟨rfl, H5.out⟩
  | false =>
    clear HI
    have hq1 : PrB w0 w3 g W (some ⟨bA, oA, none⟩) cw p Ae ce := h3
    clear h3
    generalize w3 = wq0 at *
    have HI := Lib.hid (pis_ [102, 97, 108, 115, 101] hq1)
    obtain ⟨ok, hok⟩ : ∃ b, okIs W [102, 97, 108, 115, 101] p = b := ⟨_, rfl⟩
    have HC1 := Lib.hid hok
    have HI := HI.out
    rw [hok] at HI
    have HI := Lib.hid HI
    clear hok hq1
    go_wp2_with fail

    refine (HI.out).mono ?_
    rintro e w3 ⟨rfl, h3⟩
    cases ok with
    | true =>
      have h3 : PrB w0 w3 g W (some ⟨bA, oA, none⟩) cw (stepP p) Ae ce := h3
      have hr : nodeP (ndV ⟨1, 0, ⟨#[]⟩⟩) (stepP p) = R := by
        rw [← HR.out]; unfold oneP
        rw [HX.out, if_neg (by rw [HEE.out]; simp), if_neg HK2.out, if_neg HK3.out, if_neg (by rw [HC0.out]; simp), if_pos HC1.out]
      clear HI
      have HN := Lib.hid (pnode_ (ndV ⟨1, 0, ⟨#[]⟩⟩) h3)
      have HN := HN.out
      rw [hr] at HN
      have HN := Lib.hid HN
      clear h3 hr
      go_wp2_with fail
      refine (HN.out).mono ?_
      rintro e w5 ⟨rfl, h5⟩
      have H5 := Lib.hid h5
      clear h5
      go_wp2
      go_ret
      exact ⟨rfl, H5.out⟩
    | false =>
      clear HI
      have hq2 : PrB w0 w3 g W (some ⟨bA, oA, none⟩) cw p Ae ce := h3
      clear h3
      generalize w3 = wq1 at *
      have HI := Lib.hid (pis_ [110, 117, 108, 108] hq2)
      obtain ⟨ok, hok⟩ : ∃ b, okIs W [110, 117, 108, 108] p = b := ⟨_, rfl⟩
      have HC2 := Lib.hid hok
      have HI := HI.out
      rw [hok] at HI
      have HI := Lib.hid HI
      clear hok hq2
      go_wp2_with fail

      refine (HI.out).mono ?_
      rintro e w3 ⟨rfl, h3⟩
      cases ok with
      | true =>
        have h3 : PrB w0 w3 g W (some ⟨bA, oA, none⟩) cw (stepP p) Ae ce := h3
        have hr : nodeP (ndV ⟨0, 0, ⟨#[]⟩⟩) (stepP p) = R := by
          rw [← HR.out]; unfold oneP
          rw [HX.out, if_neg (by rw [HEE.out]; simp), if_neg HK2.out, if_neg HK3.out, if_neg (by rw [HC0.out]; simp), if_neg (by rw [HC1.out]; simp), if_pos HC2.out]
        clear HI
        have HN := Lib.hid (pnode_ (ndV ⟨0, 0, ⟨#[]⟩⟩) h3)
        have HN := HN.out
        rw [hr] at HN
        have HN := Lib.hid HN
        clear h3 hr
        go_wp2_with fail
        refine (HN.out).mono ?_
        rintro e w5 ⟨rfl, h5⟩
        have H5 := Lib.hid h5
        clear h5
        go_wp2
        go_ret
        exact ⟨rfl, H5.out⟩
      | false =>
        clear HI
        have hq3 : PrB w0 w3 g W (some ⟨bA, oA, none⟩) cw p Ae ce := h3
        clear h3
        generalize w3 = wq2 at *
        have HI := Lib.hid (pis_ [40] hq3)
        obtain ⟨ok, hok⟩ : ∃ b, okIs W [40] p = b := ⟨_, rfl⟩
        have HC3 := Lib.hid hok
        have HI := HI.out
        rw [hok] at HI
        have HI := Lib.hid HI
        clear hok hq3
        go_wp2_with fail

        refine (HI.out).mono ?_
        rintro e w3 ⟨rfl, h3⟩
        cases ok with
        | true =>
          have h3 : PrB w0 w3 g W (some ⟨bA, oA, none⟩) cw (stepP p) Ae ce := h3
          have hsl := HKA.out _ HC3.out
          have hc := HS.out w0 w3 g (some ⟨bA, oA, none⟩) cw (stepP p) ⟨_, _, h3⟩ (by show (W.length - (p.at_ + 1)) * 9 + (9 - 0) ≤ f; omega)
          have hr : ((pr W f 0 (stepP p)).1, mustP W [41] (pr W f 0 (stepP p)).2) = R := by
            rw [← HR.out]; unfold oneP
            rw [HX.out, if_neg (by rw [HEE.out]; simp), if_neg HK2.out, if_neg HK3.out, if_neg (by rw [HC0.out]; simp), if_neg (by rw [HC1.out]; simp), if_neg (by rw [HC2.out]; simp), if_pos HC3.out]
          obtain ⟨⟨b, q2⟩, hq2⟩ : ∃ X, pr W f 0 (stepP p) = X := ⟨_, rfl⟩
          rw [hq2] at hc hr
          simp only at hc hr
          have HCC := Lib.hid hc
          have HRR := Lib.hid hr
          clear hc hr hq2 h3 hsl HI
          go_wp2_with fail
          refine (HCC.out).mono ?_
          rintro e w4 ⟨rfl, A4, c4, h4⟩
          have hal : Below w4.heap.size w4 (w4.alloc (.cells #[.string ⟨#[41]⟩] 9)) := (Below.refl _ _).alloc (Nat.le_refl _) _
          have HM := Lib.hid (pmust_ [41] (some ⟨w4.heap.size, 0, none⟩) 1 (h4.ext hal) (Row.of_blk (Blk.new w4 _ _) (Nat.zero_le _) 1 1 (Nat.le_refl _)))
          clear h4 hal
          go_wp2_with fail
          refine (HM.out).mono ?_
          rintro e w5 ⟨rfl, h5⟩
          have H5 := Lib.hid h5
          clear h5
          have hr := HRR.out
          subst hr
          go_wp2
          go_ret
          exact ⟨rfl, _, _, H5.out⟩
        | false =>
          clear HI
          have hq4 : PrB w0 w3 g W (some ⟨bA, oA, none⟩) cw p Ae ce := h3
          clear h3
          generalize w3 = wq3 at *
          have HC := Lib.hid (pcol_ hq4)
          obtain ⟨⟨cn, q2⟩, hq2⟩ : ∃ X, colP W p = X := ⟨_, rfl⟩
          have hr : nodeP (ndC (colP W p).1) (colP W p).2 = R := by
            rw [← HR.out]; unfold oneP
            rw [HX.out, if_neg (by rw [HEE.out]; simp), if_neg HK2.out, if_neg HK3.out, if_neg (by rw [HC0.out]; simp), if_neg (by rw [HC1.out]; simp), if_neg (by rw [HC2.out]; simp), if_neg (by rw [HC3.out]; simp)]
          have HC := HC.out
          rw [hq2] at HC hr
          simp only at HC hr
          have HC := Lib.hid HC
          have HRR := Lib.hid hr
          clear hq2 hr hq4
          go_wp2_with fail
          refine (HC.out).mono ?_
          rintro e w3 ⟨rfl, h3⟩
          have hr := HRR.out
          have HN := Lib.hid (pnode_ (ndC cn) h3)
          have HN := HN.out
          rw [hr] at HN
          have HN := Lib.hid HN
          clear h3 hr
          go_wp2_with fail
          refine (HN.out).mono ?_
          rintro e w5 ⟨rfl, h5⟩
          have H5 := Lib.hid h5
          clear h5
          go_wp2
          go_ret
          exact ⟨rfl, H5.out⟩
end Go.Proofs.Ytfgmlgflfagdjaa.ps

/- The document's parser: compare; all rules. Printed by geny.py. -/
namespace Go.Proofs.Ytfgmlgflfagdjaa.ps
open Go.ChangeShapes Go.WideShapes Go.ChangeAt Go.RowKit Go.Proofs.Ytfgmlgflfagdjaa.lib Go.Proofs.Ytfgmlgflfagdjaa.val Go.Proofs.Ytfgmlgflfagdjaa.lx Go.Proofs.Ytfgmlgflfagdjaa.ev
set_option linter.unusedVariables false

theorem find_at {α : Type} {P : α → Bool} : ∀ {l : List α} {m : Nat} {x : α}, l[m]? = some x → P x = true → (∀ y ∈ l.take m, P y = false) → l.find? P = some x
  | [], m, x, h, _, _ => by cases h
  | a :: l, 0, x, h, hx, _ => by
    injection h with h
    subst h
    rw [List.find?_cons, hx]
  | a :: l, m + 1, x, h, hx, hn => by
    have ha : P a = false := hn a (by simp)
    rw [List.find?_cons, ha]
    exact find_at (l := l) (m := m) h hx (fun y hy => hn y (by rw [List.take_succ_cons]; exact List.mem_cons_of_mem _ hy))
theorem cmps_op : ∀ (m : Nat) (s : List UInt8) (op : Int), cmps[m]? = some (s, op) → op = 8 + (m : Int)
  | 0, _, _, h => by injection h with h; injection h with _ h; rw [← h]; rfl
  | 1, _, _, h => by injection h with h; injection h with _ h; rw [← h]; rfl
  | 2, _, _, h => by injection h with h; injection h with _ h; rw [← h]; rfl
  | 3, _, _, h => by injection h with h; injection h with _ h; rw [← h]; rfl
  | 4, _, _, h => by injection h with h; injection h with _ h; rw [← h]; rfl
  | 5, _, _, h => by injection h with h; injection h with _ h; rw [← h]; rfl
  | m + 6, _, _, h => by cases h
theorem cmps_cell : ∀ (m : Nat) (s : List UInt8) (op : Int), cmps[m]? = some (s, op) → (#[.string ⟨#[61]⟩, .string ⟨#[60, 62]⟩, .string ⟨#[60]⟩, .string ⟨#[60, 61]⟩, .string ⟨#[62]⟩, .string ⟨#[62, 61]⟩] : Array Value)[m]? = some (.string ⟨s.toArray⟩)
  | 0, _, _, h => by injection h with h; injection h with h _; rw [← h]; rfl
  | 1, _, _, h => by injection h with h; injection h with h _; rw [← h]; rfl
  | 2, _, _, h => by injection h with h; injection h with h _; rw [← h]; rfl
  | 3, _, _, h => by injection h with h; injection h with h _; rw [← h]; rfl
  | 4, _, _, h => by injection h with h; injection h with h _; rw [← h]; rfl
  | 5, _, _, h => by injection h with h; injection h with h _; rw [← h]; rfl
  | m + 6, _, _, h => by cases h
set_option maxRecDepth 1000000 in
set_option maxHeartbeats 4000000 in
theorem pcompare_ (W : List Wd) (f : Nat) (hs : RuleC 87 W 4 f) : RuleC 83 W 3 (f + 1) := by
  intro w0 w g Aw cw p h hn
  have HS := Lib.hid hs
  clear hs
  obtain ⟨Ae, ce, hp⟩ := h
  have hW := hp.wok
  have HO := Lib.hid (on_pr hW f 4)
  have HKA := Lib.hid (fun (q : Ps) (s : List UInt8) (h : okIs W s q = true) => (on_step hW (okIs_k h).2.1).lt)
  have HR := Lib.hid (show pr W (f + 1) 3 p = if okIs W [105, 115] (pr W f 4 p).2 = true then nodeP (nd2 5 (pr W f 4 p).1 0) (mustP W [110, 117, 108, 108] (stepP (pr W f 4 p).2)) else cmpP W (pr W f 4) (pr W f 4 p).1 (pr W f 4 p).2 by conv => lhs; unfold pr)
  obtain ⟨R, hR⟩ : ∃ R, pr W (f + 1) 3 p = R := ⟨_, rfl⟩
  rw [hR]
  have HR := HR.out
  rw [hR] at HR
  have hc := HS.out w0 w g Aw cw p ⟨_, _, hp⟩ (by omega)
  have ho := HO.out p hp.lt
  obtain ⟨⟨a0, p1⟩, hp1⟩ : ∃ X, pr W f 4 p = X := ⟨_, rfl⟩
  rw [hp1] at hc HR ho
  simp only at hc HR ho
  have HC := Lib.hid hc
  have hol := ho.le
  have hlt := hp.lt
  have hp1l := ho.lt
  obtain ⟨ok, hok⟩ : ∃ b, okIs W [105, 115] p1 = b := ⟨_, rfl⟩
  rw [hok] at HR
  have HOK := Lib.hid hok
  have HRR := Lib.hid HR
  clear hc hp1 HR hR ho hp hok
  go_enter Try.func83, Try.ntmps83
  go_wp2_with fail
  refine (HC.out).mono ?_
  rintro e w2 ⟨rfl, A2, c2, h2⟩
  have HI := Lib.hid (pis_ [105, 115] h2)
  have HI := HI.out
  rw [HOK.out] at HI
  have HI := Lib.hid HI
  clear h2
  go_wp2_with fail
  refine (HI.out).mono ?_
  rintro e w3 ⟨rfl, h3⟩
  clear HI
  cases ok with
  | true =>
    have h3 : PrB w0 w3 g W Aw cw (stepP p1) A2 c2 := h3
    have hr := HRR.out
    rw [if_pos rfl] at hr
    have hal : Below w3.heap.size w3 (w3.alloc (.cells #[.string ⟨#[110, 117, 108, 108]⟩] 9)) := (Below.refl _ _).alloc (Nat.le_refl _) _
    have HM := Lib.hid (pmust_ [110, 117, 108, 108] (some ⟨w3.heap.size, 0, none⟩) 1 (h3.ext hal) (Row.of_blk (Blk.new w3 _ _) (Nat.zero_le _) 1 1 (Nat.le_refl _)))
    have HR3 := Lib.hid hr
    clear h3 hal hr
    go_wp2_with fail
    refine (HM.out).mono ?_
    rintro e w4 ⟨rfl, h4⟩
    have HN := Lib.hid (pnode_ (nd2 5 a0 0) h4)
    have HN := HN.out
    rw [← HR3.out] at HN
    have HN := Lib.hid HN
    clear h4
    go_wp2_with fail
    refine (HN.out).mono ?_
    rintro e w5 ⟨rfl, h5⟩
    have H5 := Lib.hid h5
    clear h5
    go_wp2
    go_ret
    exact ⟨rfl, H5.out⟩
  | false =>
    have h3 : PrB w0 w3 g W Aw cw p1 A2 c2 := h3
    have hr := HRR.out
    rw [if_neg (by simp)] at hr
    have HR3 := Lib.hid (hr.trans (show cmpP W (pr W f 4) a0 p1 = match cmps.find? (fun x => okIs W x.1 p1) with
      | some x => nodeP (nd2 x.2 a0 (pr W f 4 (stepP p1)).1) (pr W f 4 (stepP p1)).2
      | none => (a0, p1) from rfl))
    clear hr
    go_upto_region 6 with fail
    obtain ⟨W5, hW_, hb5, BO⟩ : ∃ W_, W_ = (w3.alloc (.cells #[.string ⟨#[61]⟩, .string ⟨#[60, 62]⟩, .string ⟨#[60]⟩, .string ⟨#[60, 61]⟩, .string ⟨#[62]⟩, .string ⟨#[62, 61]⟩] 9)) ∧ Below w3.heap.size w3 W_ ∧ Blk W_ (w3.heap.size) 9 #[.string ⟨#[61]⟩, .string ⟨#[60, 62]⟩, .string ⟨#[60]⟩, .string ⟨#[60, 61]⟩, .string ⟨#[62]⟩, .string ⟨#[62, 61]⟩] :=
      ⟨_, rfl, ((Below.refl _ _).alloc (Nat.le_refl _) _), (blk_new_at w3 (w3.heap.size) _ _ (by simp))⟩
    rw [← hW_]
    clear hW_
    have h5 := h3.ext hb5
    have hgb := h3.blk.lt
    obtain ⟨gb, hgb2⟩ : ∃ gb, w3.heap.size = gb := ⟨_, rfl⟩
    rw [hgb2] at BO hgb ⊢
    clear hgb2 hb5 h3
    go_wp2_with fail
    go_loopw [5] (fun i wr => ∃ m : Nat, i = .int .i64 m ∧ m ≤ 6 ∧ PrB w0 wr g W Aw cw p1 A2 c2 ∧ Blk wr gb 9 #[.string ⟨#[61]⟩, .string ⟨#[60, 62]⟩, .string ⟨#[60]⟩, .string ⟨#[60, 61]⟩, .string ⟨#[62]⟩, .string ⟨#[62, 61]⟩] ∧ Hid (∀ x ∈ cmps.take m, okIs W x.1 p1 = false)) (fun i _ => 6 - (intOf i).toNat)
    case atStart => exact ⟨0, rfl, Nat.zero_le _, h5, BO, Lib.hid (by simp)⟩
    case round =>
      clear h5 BO
      obtain ⟨m, rfl, hm, hq, BO, HNO⟩ := hrel
      rcases Nat.lt_or_ge m 6 with hlt6 | hge
      case inr =>
        have hd : decide ((m : Int) < 6) = false := by simp; omega
        have hr : R = (a0, p1) := by
          rw [HR3.out]
          have : cmps.find? (fun x => okIs W x.1 p1) = none := by
            rw [List.find?_eq_none]
            intro x hx
            have := HNO.out x (by rw [List.take_of_length_le (show cmps.length ≤ m from hge)]; exact hx)
            simp [this]
          rw [this]
        subst hr
        have HQ := Lib.hid hq
        clear hq BO hge
        go_wp2
        go_ret
        exact ⟨rfl, _, _, HQ.out⟩
      have hd : decide ((m : Int) < 6) = true := by simp; omega
      have hm6 : (m : Int) < 6 := by omega
      obtain ⟨⟨s, op⟩, hsx⟩ : ∃ x, cmps[m]? = some x := ⟨_, List.getElem?_eq_getElem (show m < cmps.length from hlt6)⟩
      have hcell : wr.cell? ⟨gb, m, none⟩ = some (.string ⟨s.toArray⟩) := (BO.cell m).trans (cmps_cell m s op hsx)
      obtain rfl := cmps_op m s op hsx
      have HSX := Lib.hid hsx
      have HI := Lib.hid (pis2_ s hq)
      obtain ⟨ok, hok⟩ : ∃ b, okIs W s p1 = b := ⟨_, rfl⟩
      have HOK2 := Lib.hid hok
      have HI := HI.out
      rw [hok] at HI
      have HI := Lib.hid HI
      have hbl := BO.lt
      have HBO := Lib.hid BO
      clear hok hq hsx BO
      go_wp2_with fail
      refine (HI.out).mono ?_
      rintro e w4 ⟨rfl, h4, hfr⟩
      clear hcell
      cases ok with
      | false =>
        have H4 := Lib.hid (show PrB w0 w4 g W Aw cw p1 A2 c2 from h4)
        have BO4 := Lib.hid (show Blk w4 gb 9 #[.string ⟨#[61]⟩, .string ⟨#[60, 62]⟩, .string ⟨#[60]⟩, .string ⟨#[60, 61]⟩, .string ⟨#[62]⟩, .string ⟨#[62, 61]⟩] from (hfr gb hbl (by omega)).trans HBO.out)
        clear h4 hfr
        go_wp2
        go_roundw
        case rel => exact ⟨m + 1, by go_num, by omega, H4.out, BO4.out, Lib.hid (fun x hx => by
          rw [List.take_add_one, HSX.out, Option.toList_some] at hx
          rcases List.mem_append.1 hx with hx | hx
          · exact HNO.out x hx
          · rw [List.mem_singleton.1 hx]; exact HOK2.out)⟩
        case measure => simp [intOf]; omega
      | true =>
        have h4 : PrB w0 w4 g W Aw cw (stepP p1) A2 c2 := h4
        have hsl := HKA.out p1 s HOK2.out
        have hc := HS.out w0 w4 g Aw cw (stepP p1) ⟨_, _, h4⟩ (by show (W.length - (p1.at_ + 1)) * 9 + (9 - 4) ≤ f; omega)
        have hr := HR3.out
        rw [find_at HSX.out HOK2.out HNO.out] at hr
        simp only at hr
        obtain ⟨⟨b, q2⟩, hq2⟩ : ∃ X, pr W f 4 (stepP p1) = X := ⟨_, rfl⟩
        rw [hq2] at hc hr
        simp only at hc hr
        have HC2 := Lib.hid hc
        have HL2 := Lib.hid hr
        clear hc hq2 hr h4 hsl hfr
        go_wp2_with fail
        refine (HC2.out).mono ?_
        rintro e w6 ⟨rfl, A4, c4, h6⟩
        have HN := Lib.hid (pnode_ (nd2 (8 + (m : Int)) a0 b) h6)
        have HN := HN.out
        rw [← HL2.out] at HN
        have HN := Lib.hid HN
        clear h6
        go_wp2_with fail
        refine (HN.out).mono ?_
        rintro e w7 ⟨rfl, h7⟩
        have H7 := Lib.hid h7
        clear h7
        go_wp2
        go_ret
        exact ⟨rfl, H7.out⟩
/-- all the rules, whatever is left to go -/
theorem rules_ (W : List Wd) : ∀ f : Nat, RuleC 46 W 0 f ∧ RuleC 63 W 1 f ∧ RuleC 74 W 2 f ∧ RuleC 83 W 3 f ∧ RuleC 87 W 4 f ∧ RuleC 90 W 5 f ∧ RuleC 91 W 6 f ∧ RuleC 92 W 7 f
  | 0 => ⟨fun _ _ _ _ _ _ _ hn => absurd hn (by omega), fun _ _ _ _ _ _ _ hn => absurd hn (by omega), fun _ _ _ _ _ _ _ hn => absurd hn (by omega), fun _ _ _ _ _ _ _ hn => absurd hn (by omega), fun _ _ _ _ _ _ _ hn => absurd hn (by omega), fun _ _ _ _ _ _ _ hn => absurd hn (by omega), fun _ _ _ _ _ _ _ hn => absurd hn (by omega), fun _ _ _ _ _ _ _ hn => absurd hn (by omega)⟩
  | f + 1 => by
    obtain ⟨h0, h1, h2, h3, h4, h5, h6, h7⟩ := rules_ W f
    exact ⟨por_ W f h1, pand_ W f h2, pnot_ W f h2 h3, pcompare_ W f h4, psum_ W f h5, pmul_ W f h6, pneg_ W f h6 h7, pone_ W f h0⟩
end Go.Proofs.Ytfgmlgflfagdjaa.ps

/- The document's parser: expr. Printed by geny.py. -/
namespace Go.Proofs.Ytfgmlgflfagdjaa.ps
open Go.ChangeShapes Go.WideShapes Go.ChangeAt Go.RowKit Go.Proofs.Ytfgmlgflfagdjaa.lib Go.Proofs.Ytfgmlgflfagdjaa.val Go.Proofs.Ytfgmlgflfagdjaa.lx Go.Proofs.Ytfgmlgflfagdjaa.ev
set_option linter.unusedVariables false

theorem stepL_small {l r : List UInt8} {w : Wd} (h : stepL l = .put w r) : w.s.length ≤ l.length + 60 := by
  cases l with
  | nil => cases h
  | cons c l =>
    rw [stepL] at h
    by_cases h1 : blankB c = true
    · rw [if_pos h1] at h; cases h
    rw [if_neg h1] at h
    by_cases h2 : letB c = true
    · rw [if_pos h2] at h
      injection h with h _
      subst h
      have := tw_bound nameB (c :: l)
      show ((c :: l).takeWhile nameB).length ≤ _
      omega
    rw [if_neg h2] at h
    by_cases h3 : digB c = true
    · rw [if_pos h3] at h
      unfold numSt at h
      split at h
      · injection h with h _; subst h; exact Nat.zero_le _
      · cases h
    rw [if_neg h3] at h
    by_cases h4 : c = 39
    · rw [if_pos h4] at h
      unfold textSt at h
      split at h
      · rename_i h0
        injection h with h _
        subst h
        have := textL_short l [] h0
        show (textL l []).2.1.length ≤ _
        omega
      · cases h
    rw [if_neg h4] at h
    by_cases h5 : twoB (c :: l) = true
    · rw [if_pos h5] at h
      injection h with h _
      subst h
      show ((c :: l).take 2).length ≤ _
      have := List.length_take_le 2 (c :: l)
      omega
    rw [if_neg h5] at h
    by_cases h6 : signB c = true
    · rw [if_pos h6] at h
      injection h with h _
      subst h
      show 1 ≤ _
      omega
    · rw [if_neg h6] at h; cases h
theorem goL_small : ∀ (f : Nat) (l : List UInt8) (out : List Wd) (B : Nat), l.length + 60 ≤ B → (∀ w ∈ out, w.s.length ≤ B) → ∀ w ∈ (goL f l out).2, w.s.length ≤ B
  | 0, [], out, B, _, ho => ho
  | f + 1, [], out, B, _, ho => ho
  | 0, c :: l, out, B, _, _ => fun w hw => by cases hw
  | f + 1, c :: l, out, B, hB, ho => by
    have hl := stepL_lt c l
    unfold goL
    cases hs : stepL (c :: l) with
    | skip r =>
      rw [hs] at hl
      simp only [St.lt] at hl
      exact goL_small f r out B (by omega) ho
    | put w r =>
      rw [hs] at hl
      simp only [St.lt] at hl
      refine goL_small f r _ B (by omega) (fun x hx => ?_)
      rcases List.mem_append.1 hx with hx | hx
      · exact ho x hx
      · rw [List.mem_singleton.1 hx]
        have := stepL_small hs
        omega
    | err e => intro w hw; cases hw
theorem goL_count' : ∀ (f : Nat) (l : List UInt8) (out : List Wd), (goL f l out).2.length ≤ out.length + l.length
  | 0, [], out => by show out.length ≤ _; simp
  | f + 1, [], out => by show out.length ≤ _; simp
  | 0, c :: l, out => by show 0 ≤ _; omega
  | f + 1, c :: l, out => by
    have hl := stepL_lt c l
    unfold goL
    cases hs : stepL (c :: l) with
    | skip r =>
      rw [hs] at hl
      have := goL_count' f r out
      simp only [St.lt, List.length_cons] at *
      omega
    | put w r =>
      rw [hs] at hl
      have := goL_count' f r (out ++ [w])
      simp only [St.lt, List.length_cons, List.length_append, List.length_nil] at *
      omega
    | err e => show 0 ≤ _; omega
/-- what Words says of a text that has words -/
def exprP (W : List Wd) (p : Ps) : Int × Ps := pr W (W.length * 9 + 9) 0 ⟨p.at_, p.err, []⟩
set_option maxRecDepth 1000000 in
set_option maxHeartbeats 4000000 in
theorem pexpr_ {w0 w : World} {g : Nat} {W : List Wd} {Aw : Option Addr} {cw : Nat} {p : Ps} {Ae : Option Addr} {ce : Nat} (h : PrB w0 w g W Aw cw p Ae ce) :
    Calls Try.prog 32 #[.pointer (some ⟨g, 0, none⟩)] w fun e w' => ∃ A c, e = .returned (.slice A (exprP W p).2.e.length c) ∧ PrB w0 w' g W Aw cw (exprP W p).2 A c := by
  have h5 : PrB w0 (w.setCell ⟨g, 3, none⟩ (.slice none 0 0)) g W Aw cw ⟨p.at_, p.err, []⟩ none 0 :=
    ⟨h.below.setCell (Nat.le_refl _) _, h.hg, h.row, by simpa using h.blk.set_ 3 (.slice none 0 0), World.ownsRow_nil _ _ _ _, h.lt, Nat.zero_le _, h.wok, h.wl, h.ws⟩
  have HC := Lib.hid ((rules_ W (W.length * 9 + 9)).1 w0 _ g Aw cw ⟨p.at_, p.err, []⟩ ⟨_, _, h5⟩ (by show (W.length - p.at_) * 9 + (9 - 0) ≤ _; omega))
  have q := four h.blk (Below.refl _ _)
  have f3 := h.blk.frozen 3
  clear h5 h
  obtain ⟨R, hR⟩ : ∃ R, exprP W p = R := ⟨_, rfl⟩
  have HC := HC.out
  rw [show pr W (W.length * 9 + 9) 0 ⟨p.at_, p.err, []⟩ = R from hR] at HC
  rw [hR]
  have HC := Lib.hid HC
  clear hR
  go_enter Try.func32, Try.ntmps32
  go_wp2_with fail
  clear q f3
  refine (HC.out).mono ?_
  rintro e w3 ⟨rfl, A3, c3, h3⟩
  have q := four h3.blk (Below.refl _ _)
  have H3 := Lib.hid h3
  clear h3
  go_wp2
  go_ret
  exact ⟨A3, c3, rfl, H3.out⟩
end Go.Proofs.Ytfgmlgflfagdjaa.ps

/- The document's Expr. Printed by geny.py. -/
namespace Go.Proofs.Ytfgmlgflfagdjaa.ps
open Go.ChangeShapes Go.WideShapes Go.ChangeAt Go.RowKit Go.Proofs.Ytfgmlgflfagdjaa.lib Go.Proofs.Ytfgmlgflfagdjaa.val Go.Proofs.Ytfgmlgflfagdjaa.lx Go.Proofs.Ytfgmlgflfagdjaa.ev
set_option linter.unusedVariables false

/-- a text read as an expression -/
def endP (W : List Wd) (q : Ps) : Ps := if q.err = 0 ∧ (wAt W q).k ≠ 0 then failP 6 q else q
def outP (q : Ps) : Int × List Nd := if q.err ≠ 0 then (q.err, []) else (0, q.e)
def exprL (l : List UInt8) : Int × List Nd := if (wordsL l).1 ≠ 0 then ((wordsL l).1, []) else outP (endP (wordsL l).2 (exprP (wordsL l).2 ⟨0, 0, []⟩).2)
theorem wlist_ok {l : List UInt8} (h : (wordsL l).1 = 0) : WOk (wordsL l).2 ∧ (wordsL l).2.length ≤ 1000 ∧ ∀ x ∈ (wordsL l).2, x.s.length ≤ 1000 := by
  unfold wordsL at h ⊢
  split at h
  · cases h
  · next h6 =>
    rw [if_neg h6]
    split at h
    · next hz =>
      rw [if_pos hz]
      have hc := goL_count' l.length l []
      have hs := goL_small l.length l [] 1000 (by omega) (fun _ h => by cases h)
      refine ⟨⟨by simp, fun i w hi hk => ?_⟩, ?_, fun x hx => ?_⟩
      · rw [List.length_append, List.length_singleton]
        rcases Nat.lt_or_ge i (lexL l []).2.length with hlt | hge
        · omega
        · rw [List.getElem?_append_right hge] at hi
          cases hj : i - (lexL l []).2.length with
          | zero =>
            rw [hj] at hi
            injection hi with hi
            subst hi
            exact absurd rfl hk
          | succ j => rw [hj] at hi; cases hi
      · rw [List.length_append, List.length_singleton]
        show (goL l.length l []).2.length + 1 ≤ 1000
        simp only [List.length_nil] at hc
        omega
      · rcases List.mem_append.1 hx with hx | hx
        · exact hs x hx
        · rw [List.mem_singleton.1 hx]; exact Nat.zero_le _
    · next hz => exact absurd h hz
theorem wlist_err {l : List UInt8} (h : (wordsL l).1 ≠ 0) : (wordsL l).2 = [] := by
  unfold wordsL at h ⊢
  split
  · rfl
  · next h6 =>
    rw [if_neg h6] at h
    split
    · next hz => rw [if_pos hz] at h; exact absurd rfl h
    · rfl
/-- what Expr answers -/
def ExprP (r : Int × List Nd) (w : World) (e : Ending) (w' : World) : Prop := ∃ A n c, n = r.2.length ∧ e = .returned (.tuple #[.slice A n c, .int .i64 r.1]) ∧ w'.ownsRow w.heap.size 36 7 (.slice A n c) n (flatK encNd r.2) ∧ Below w.heap.size w w'
set_option maxRecDepth 1000000 in
set_option maxHeartbeats 4000000 in
theorem rexpr_ (s : ByteArray) (l : List UInt8) (hs : Str s l) (hl : l.length ≤ 100000) (w : World) :
    Calls Try.prog 15 #[.string s] w (ExprP (exprL l) w) := by
  have HW := Lib.hid (rwords_ s l hs hl w)
  obtain ⟨R, hR⟩ : ∃ R, exprL l = R := ⟨_, rfl⟩
  rw [hR]
  have HR := Lib.hid (show (if (wordsL l).1 ≠ 0 then ((wordsL l).1, []) else outP (endP (wordsL l).2 (exprP (wordsL l).2 ⟨0, 0, []⟩).2)) = R from hR)
  have HOK := Lib.hid (fun (h : (wordsL l).1 = 0) => wlist_ok h)
  obtain ⟨⟨x, W⟩, hx⟩ : ∃ X, wordsL l = X := ⟨_, rfl⟩
  have HW := HW.out
  have HR := HR.out
  have HOK := HOK.out
  rw [hx] at HW HR HOK
  simp only at HR HOK
  have HW := Lib.hid HW
  have HR := Lib.hid HR
  have HOK := Lib.hid HOK
  clear hx hR hs hl
  go_enter Try.func15, Try.ntmps15
  go_wp2_with fail
  refine (HW.out).mono ?_
  rintro e w2 ⟨v, rfl, hown, hb2⟩
  simp only at hown ⊢
  by_cases he : x = 0
  case neg =>
    have hd : (x != 0) = true := by simpa using he
    obtain rfl : (x, []) = R := by rw [← HR.out, if_pos he]
    clear he hown
    go_wp2
    exact bodyPost_ret (v := .tuple #[.slice none 0 0, .int .i64 x]) (by simp [results, Try.results15, go_sem]; try rfl) rfl ⟨none, 0, 0, rfl, rfl, World.ownsRow_nil _ _ _ _, hb2⟩
  subst he
  obtain ⟨hwok, hwl, hws⟩ := HOK.out rfl
  have hr := HR.out
  rw [if_neg (by simp)] at hr
  obtain ⟨A, c, rfl⟩ := own_sl9 hown
  have hrow : Row w2 0 A W.length c (cellsW W) := (Row.of_own hown).base (Nat.zero_le _)
  go_upto_region 5 with fail
  obtain ⟨W3, hW_, hb3, BP⟩ : ∃ W_, W_ = (w2.alloc (.cells #[.slice A W.length c, .int .i64 0, .int .i64 0, .slice none 0 0] 72)) ∧ Below w2.heap.size w2 W_ ∧ Blk W_ (w2.heap.size) 72 #[.slice A W.length c, .int .i64 0, .int .i64 0, .slice none 0 0] :=
    ⟨_, rfl, ((Below.refl _ _).alloc (Nat.le_refl _) _), (blk_new_at w2 (w2.heap.size) _ _ (by simp))⟩
  rw [← hW_]
  clear hW_
  obtain ⟨g, hg, hg1⟩ : ∃ g, w2.heap.size = g ∧ w2.heap.size ≤ g := ⟨_, rfl, Nat.le_refl _⟩
  have hb3' := hb3
  rw [hg] at BP hb3' ⊢
  have hp : PrB w2 W3 g W A c ⟨0, 0, []⟩ none 0 := ⟨hb3', hg1, hrow, BP, World.ownsRow_nil _ _ _ _, hwok.pos, Nat.zero_le _, hwok, hwl, hws⟩
  have HE := Lib.hid (pexpr_ hp)
  obtain ⟨⟨z, q⟩, hq⟩ : ∃ X, exprP W ⟨0, 0, []⟩ = X := ⟨_, rfl⟩
  have HE := HE.out
  rw [hq] at HE hr
  simp only at HE hr
  have HE := Lib.hid HE
  have hbg := Below.trans hb2 (Below.mono hb3 hb2.size)
  have hwg : w.heap.size ≤ g := by rw [← hg]; exact hb2.size
  have HRR := Lib.hid hr
  clear hq hp hr hb3 hb3' hg hg1 BP hown hrow hwok hwl hws
  go_wp2_with fail
  refine (HE.out).mono ?_
  rintro e w4 ⟨A4, c4, rfl, h4⟩
  obtain ⟨bA, oA, rfl, _, _, hcells⟩ := h4.word
  obtain ⟨k, hk⟩ : ∃ k, (wAt W q).k = k := ⟨_, rfl⟩
  have hb4 := h4.blk
  have hql := h4.lt
  have c1 : (q.at_ : Int) < (W.length : Int) := by omega
  rw [hk] at hcells
  have HKW := Lib.hid hk
  have H4 := Lib.hid h4
  clear hk h4
  go_wp2_with fail
  have D := fun w' (h : Below w4.heap.size w4.drew w') => four hb4 (Below.trans (Below.refl _ _).drew h)
  have DW := fun w' (h : Below w4.heap.size w4.drew w') => hcells w' (Below.trans (Below.refl _ _).drew h)
  have hdr := (Below.refl w4.heap.size w4).drew
  by_cases he : q.err = 0
  case neg =>
    have hd : (q.err == 0) = false := by simpa using he
    have hd2 : (q.err != 0) = true := by simpa using he
    obtain rfl : (q.err, []) = R := by
      have h1 : endP W q = q := by unfold endP; rw [if_neg (by rintro ⟨h, _⟩; exact he h)]
      rw [← HRR.out, h1]
      unfold outP
      rw [if_pos he]
    refine wp_region_one [(0, true), (1, true), (2, true), (3, true), (4, true), (5, true), (6, true), (7, true), (8, true), (9, true), (10, true), (11, true), (12, true), (13, true), (14, true), (15, true), (16, true), (17, true), (18, true)] (by kernel_rfl) (by kernel_rfl) (by kernel_rfl) (by decide) ?_
    repeat ((with_reducible show wpPerm _ _ _ _ ((_, true) :: _) _ _); (first | (refine wpPerm_on (v := ?_) rfl rfl (wanted_free rfl) (fun w' hS => ?_) ?_; rotate_left; (focus (go_simp; (try with_reducible rfl); done)); try simp only [List.setIfInBounds_toArray, List.set_cons_zero, List.set_cons_succ]) | (refine wpPerm_on (v := ?_) rfl rfl (wanted_yes rfl rfl rfl) (fun w' hS => ?_) ?_; rotate_left; (focus (go_simp; (try with_reducible rfl); done)); try simp only [List.setIfInBounds_toArray, List.set_cons_zero, List.set_cons_succ]) | (refine wpPerm_off rfl rfl (wanted_no rfl rfl rfl) ?_; try simp only [List.setIfInBounds_toArray, List.set_cons_zero, List.set_cons_succ]) | (refine wpPerm_off rfl rfl (wanted_undef rfl rfl rfl) ?_; try simp only [List.setIfInBounds_toArray, List.set_cons_zero, List.set_cons_succ])))
    refine wpPerm_done ?_
    clear D DW he
    have H5 := Lib.hid (H4.out.ext hdr)
    generalize w4.drew = w5 at *
    have q5 := four H5.out.blk (Below.refl _ _)
    go_wp2_with fail
    have D := fun w' (h : Below w5.heap.size w5.drew w') => four H5.out.blk (Below.trans (Below.refl _ _).drew h)
    refine wp_region_one [(0, true), (1, true), (2, true), (3, true), (4, true), (5, true)] (by kernel_rfl) (by kernel_rfl) (by kernel_rfl) (by decide) ?_
    repeat ((with_reducible show wpPerm _ _ _ _ ((_, true) :: _) _ _); (first | (refine wpPerm_on (v := ?_) rfl rfl (wanted_free rfl) (fun w' hS => ?_) ?_; rotate_left; (focus (go_simp; (try with_reducible rfl); done)); try simp only [List.setIfInBounds_toArray, List.set_cons_zero, List.set_cons_succ]) | (refine wpPerm_on (v := ?_) rfl rfl (wanted_yes rfl rfl rfl) (fun w' hS => ?_) ?_; rotate_left; (focus (go_simp; (try with_reducible rfl); done)); try simp only [List.setIfInBounds_toArray, List.set_cons_zero, List.set_cons_succ]) | (refine wpPerm_off rfl rfl (wanted_no rfl rfl rfl) ?_; try simp only [List.setIfInBounds_toArray, List.set_cons_zero, List.set_cons_succ]) | (refine wpPerm_off rfl rfl (wanted_undef rfl rfl rfl) ?_; try simp only [List.setIfInBounds_toArray, List.set_cons_zero, List.set_cons_succ])))
    refine wpPerm_done ?_
    clear D q5
    have hbf := Below.trans hb2 (Below.mono (H5.out.below.drew) hwg)
    generalize w5.drew = w6 at *
    go_wp2
    exact bodyPost_ret (v := .tuple #[.slice none 0 0, .int .i64 q.err]) (by simp [results, Try.results15, go_sem]; try rfl) rfl ⟨none, 0, 0, rfl, rfl, World.ownsRow_nil _ _ _ _, hbf⟩
  have hd : (q.err == 0) = true := by simpa using he
  by_cases hk0 : k = 0
  case neg =>
    have hd3 : (k != 0) = true := by simpa using hk0
    have hfe : failP 6 q = ⟨q.at_, 6, q.e⟩ := by unfold failP; rw [if_pos he]
    obtain rfl : ((6 : Int), []) = R := by
      have h1 : endP W q = failP 6 q := by unfold endP; rw [if_pos ⟨he, by rw [HKW.out]; exact hk0⟩]
      rw [← HRR.out, h1, hfe]
      unfold outP
      rw [if_pos (show (6 : Int) ≠ 0 by decide)]
    refine wp_region_one [(0, true), (1, true), (2, true), (3, true), (4, true), (5, true), (6, true), (7, true), (8, true), (9, true), (10, true), (11, true), (12, true), (13, true), (14, true), (15, true), (16, true), (17, true), (18, true)] (by kernel_rfl) (by kernel_rfl) (by kernel_rfl) (by decide) ?_
    repeat ((with_reducible show wpPerm _ _ _ _ ((_, true) :: _) _ _); (first | (refine wpPerm_on (v := ?_) rfl rfl (wanted_free rfl) (fun w' hS => ?_) ?_; rotate_left; (focus (go_simp; (try with_reducible rfl); done)); try simp only [List.setIfInBounds_toArray, List.set_cons_zero, List.set_cons_succ]) | (refine wpPerm_on (v := ?_) rfl rfl (wanted_yes rfl rfl rfl) (fun w' hS => ?_) ?_; rotate_left; (focus (go_simp; (try with_reducible rfl); done)); try simp only [List.setIfInBounds_toArray, List.set_cons_zero, List.set_cons_succ]) | (refine wpPerm_off rfl rfl (wanted_no rfl rfl rfl) ?_; try simp only [List.setIfInBounds_toArray, List.set_cons_zero, List.set_cons_succ]) | (refine wpPerm_off rfl rfl (wanted_undef rfl rfl rfl) ?_; try simp only [List.setIfInBounds_toArray, List.set_cons_zero, List.set_cons_succ])))
    refine wpPerm_done ?_
    clear D DW hk0
    have HF := Lib.hid (pfail_ 6 (H4.out.ext hdr))
    have HFE := Lib.hid hfe
    clear hfe he hcells hb4
    go_wp2_with fail
    refine (HF.out).mono ?_
    rintro e w5 ⟨rfl, h5⟩
    rw [HFE.out] at h5
    have H5 := Lib.hid h5
    clear h5 hd
    have hd2 : ((6 : Int) != 0) = true := rfl
    have q5 := four H5.out.blk (Below.refl _ _)
    go_wp2_with fail
    have D := fun w' (h : Below w5.heap.size w5.drew w') => four H5.out.blk (Below.trans (Below.refl _ _).drew h)
    refine wp_region_one [(0, true), (1, true), (2, true), (3, true), (4, true), (5, true)] (by kernel_rfl) (by kernel_rfl) (by kernel_rfl) (by decide) ?_
    repeat ((with_reducible show wpPerm _ _ _ _ ((_, true) :: _) _ _); (first | (refine wpPerm_on (v := ?_) rfl rfl (wanted_free rfl) (fun w' hS => ?_) ?_; rotate_left; (focus (go_simp; (try with_reducible rfl); done)); try simp only [List.setIfInBounds_toArray, List.set_cons_zero, List.set_cons_succ]) | (refine wpPerm_on (v := ?_) rfl rfl (wanted_yes rfl rfl rfl) (fun w' hS => ?_) ?_; rotate_left; (focus (go_simp; (try with_reducible rfl); done)); try simp only [List.setIfInBounds_toArray, List.set_cons_zero, List.set_cons_succ]) | (refine wpPerm_off rfl rfl (wanted_no rfl rfl rfl) ?_; try simp only [List.setIfInBounds_toArray, List.set_cons_zero, List.set_cons_succ]) | (refine wpPerm_off rfl rfl (wanted_undef rfl rfl rfl) ?_; try simp only [List.setIfInBounds_toArray, List.set_cons_zero, List.set_cons_succ])))
    refine wpPerm_done ?_
    clear D q5
    have hbf := Below.trans hb2 (Below.mono (H5.out.below.drew) hwg)
    generalize w5.drew = w6 at *
    go_wp2
    exact bodyPost_ret (v := .tuple #[.slice none 0 0, .int .i64 6]) (by simp [results, Try.results15, go_sem]; try rfl) rfl ⟨none, 0, 0, rfl, rfl, World.ownsRow_nil _ _ _ _, hbf⟩
  have hd3 : (k != 0) = false := by simpa using hk0
  have hd2 : (q.err != 0) = false := by simpa using he
  obtain rfl : ((0 : Int), q.e) = R := by
    have h1 : endP W q = q := by unfold endP; rw [if_neg (by rintro ⟨_, h⟩; exact h (by rw [HKW.out]; exact hk0))]
    rw [← HRR.out, h1]
    unfold outP
    rw [if_neg (by simpa using he)]
  refine wp_region_one [(0, true), (1, true), (2, true), (3, true), (4, true), (5, true), (6, true), (7, true), (8, true), (9, true), (10, true), (11, true), (12, true), (13, true), (14, true), (15, true), (16, true), (17, true), (18, true)] (by kernel_rfl) (by kernel_rfl) (by kernel_rfl) (by decide) ?_
  repeat ((with_reducible show wpPerm _ _ _ _ ((_, true) :: _) _ _); (first | (refine wpPerm_on (v := ?_) rfl rfl (wanted_free rfl) (fun w' hS => ?_) ?_; rotate_left; (focus (go_simp; (try with_reducible rfl); done)); try simp only [List.setIfInBounds_toArray, List.set_cons_zero, List.set_cons_succ]) | (refine wpPerm_on (v := ?_) rfl rfl (wanted_yes rfl rfl rfl) (fun w' hS => ?_) ?_; rotate_left; (focus (go_simp; (try with_reducible rfl); done)); try simp only [List.setIfInBounds_toArray, List.set_cons_zero, List.set_cons_succ]) | (refine wpPerm_off rfl rfl (wanted_no rfl rfl rfl) ?_; try simp only [List.setIfInBounds_toArray, List.set_cons_zero, List.set_cons_succ]) | (refine wpPerm_off rfl rfl (wanted_undef rfl rfl rfl) ?_; try simp only [List.setIfInBounds_toArray, List.set_cons_zero, List.set_cons_succ])))
  refine wpPerm_done ?_
  clear D DW hk0 he
  have H5 := Lib.hid (H4.out.ext hdr)
  generalize w4.drew = w5 at *
  have q5 := four H5.out.blk (Below.refl _ _)
  go_wp2
  exact bodyPost_ret (v := .tuple #[.slice A4 q.e.length c4, .int .i64 0]) (by simp [results, Try.results15, go_sem]; try rfl) rfl ⟨A4, _, c4, rfl, rfl, lib.own_base H5.out.own (by omega), Below.trans hb2 (Below.mono H5.out.below hwg)⟩
end Go.Proofs.Ytfgmlgflfagdjaa.ps
