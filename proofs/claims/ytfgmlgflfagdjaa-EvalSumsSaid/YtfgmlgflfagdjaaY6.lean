/- The document's parser: name, column. Printed by geny.py. -/
import Derived.Test.YtfgmlgflfagdjaaY4
import Derived.Test.YtfgmlgflfagdjaaY5
namespace Go.Proofs.Ytfgmlgflfagdjaa.ps
open Go.ChangeShapes Go.WideShapes Go.ChangeAt Go.RowKit Go.Proofs.Ytfgmlgflfagdjaa.lib Go.Proofs.Ytfgmlgflfagdjaa.val Go.Proofs.Ytfgmlgflfagdjaa.lx Go.Proofs.Ytfgmlgflfagdjaa.ev
set_option linter.unusedVariables false

theorem nameP_len {W : List Wd} {p : Ps} : (nameP W p).1.length ≤ 12 := by
  unfold nameP
  split
  · next h =>
    unfold nameIs nameOk at h
    simp only [Bool.and_eq_true, decide_eq_true_eq] at h
    exact h.2.2.2.1
  · exact Nat.zero_le _
theorem app_mk (a b : List UInt8) : (⟨a.toArray⟩ : ByteArray) ++ ⟨b.toArray⟩ = ⟨(a ++ b).toArray⟩ := by
  apply ByteArray.ext
  simp
set_option maxRecDepth 1000000 in
set_option maxHeartbeats 4000000 in
theorem pname_ {w0 w : World} {g : Nat} {W : List Wd} {Aw : Option Addr} {cw : Nat} {p : Ps} {Ae : Option Addr} {ce : Nat} (h : PrB w0 w g W Aw cw p Ae ce) :
    Calls Try.prog 94 #[.pointer (some ⟨g, 0, none⟩)] w fun e w' => e = .returned (.string ⟨(nameP W p).1.toArray⟩) ∧ PrB w0 w' g W Aw cw (nameP W p).2 Ae ce := by
  have H := Lib.hid h
  have hb := h.blk
  obtain ⟨bA, oA, rfl, hbl, hmem, hcells⟩ := h.word
  have hlt := h.lt
  have hwl := h.wl
  have hxl := h.ws _ hmem
  have c1 : (p.at_ : Int) < (W.length : Int) := by omega
  obtain ⟨x, hx⟩ : ∃ x, wAt W p = x := ⟨_, rfl⟩
  rw [hx] at hcells hxl
  have HX := Lib.hid hx
  have HQ := Lib.hid (show nameIs W p = (decide (p.err = 0) && (decide (x.k = 1) && nameOk x.s)) by rw [← hx]; rfl)
  have HP := Lib.hid (show nameP W p = if nameIs W p = true then (x.s, stepP p) else ([], failP 6 p) by rw [← hx]; rfl)
  obtain ⟨R, hR⟩ : ∃ R, nameP W p = R := ⟨_, rfl⟩
  rw [hR]
  have HR := Lib.hid (HP.out.symm.trans hR)
  clear h hx hmem hR HP
  go_enter Try.func94, Try.ntmps94
  go_wp2_with fail
  have D := fun w' (h : Below w.heap.size w.drew w') => four hb (Below.trans (Below.refl _ _).drew h)
  have DW := fun w' (h : Below w.heap.size w.drew w') => hcells w' (Below.trans (Below.refl _ _).drew h)
  refine wp_region_one [(0, true), (1, true), (2, true), (3, true), (4, true), (5, true), (6, true), (7, true), (8, true), (9, true), (10, false), (11, false)] (by kernel_rfl) (by kernel_rfl) (by kernel_rfl) (by decide) ?_
  repeat ((with_reducible show wpPerm _ _ _ _ ((_, true) :: _) _ _); (first | (refine wpPerm_on (v := ?_) rfl rfl (wanted_free rfl) (fun w' hS => ?_) ?_; rotate_left; (focus (go_simp; (try with_reducible rfl); done)); try simp only [List.setIfInBounds_toArray, List.set_cons_zero, List.set_cons_succ]) | (refine wpPerm_on (v := ?_) rfl rfl (wanted_yes rfl rfl rfl) (fun w' hS => ?_) ?_; rotate_left; (focus (go_simp; (try with_reducible rfl); done)); try simp only [List.setIfInBounds_toArray, List.set_cons_zero, List.set_cons_succ]) | (refine wpPerm_off rfl rfl (wanted_no rfl rfl rfl) ?_; try simp only [List.setIfInBounds_toArray, List.set_cons_zero, List.set_cons_succ]) | (refine wpPerm_off rfl rfl (wanted_undef rfl rfl rfl) ?_; try simp only [List.setIfInBounds_toArray, List.set_cons_zero, List.set_cons_succ])))
  clear D DW
  refine wpPerm_do rfl (wanted_free rfl) (fun K hK => ?_); go_simp
  have hba : Below w.heap.size w.drew (w.drew.alloc (.cells #[.int .i64 0, .int .i64 0, .string ⟨#[]⟩] 74)) := Below.alloc (Below.refl w.heap.size w.drew) (Nat.le_refl w.drew.heap.size) _
  refine hK.out _ _ hba ?_
  clear hK K
  refine wpPerm_do rfl (wanted_free rfl) (fun K hK => ?_); go_simp
  obtain ⟨wE, hwE, BE, hbe⟩ : ∃ wE, wE = (w.alloc (.cells #[.int .i64 x.k, .int .i64 x.n, .string ⟨x.s.toArray⟩] 74)).drew ∧ Blk wE w.heap.size 74 #[.int .i64 x.k, .int .i64 x.n, .string ⟨x.s.toArray⟩] ∧ Below w.heap.size w.drew wE :=
    ⟨_, rfl, Blk.new w _ _, Below.alloc (Below.refl w.heap.size w.drew) (Nat.le_refl w.drew.heap.size) _⟩
  rw [← hwE]
  clear hwE hba
  refine hK.out _ _ hbe ?_
  clear hK K
  refine wpPerm_done ?_
  have hbE := Below.trans ((Below.refl w.heap.size w).drew) hbe
  have HE := Lib.hid (H.out.ext hbE)
  have hgx : g < w.heap.size := H.out.blk.lt
  clear hbe H
  obtain ⟨ge, hge⟩ : ∃ ge, w.heap.size = ge := ⟨_, rfl⟩
  rw [hge] at BE hgx ⊢
  clear hge hb hcells hbE
  have qe := BE.three (Below.refl _ _)
  have hb := HE.out.blk
  have q := four hb (Below.refl _ _)
  clear hb
  by_cases he : p.err = 0
  case neg =>
    have hd : (p.err != 0) = true := by simpa using he
    obtain rfl : ([], failP 6 p) = R := by rw [← HR.out, HQ.out, decide_eq_false he]; rfl
    clear he
    go_wp2_with fail
    refine (pfail_ 6 HE.out).mono ?_
    rintro e w3 ⟨rfl, h3⟩
    have H3 := Lib.hid h3
    clear h3
    go_wp2
    go_ret
    exact ⟨rfl, H3.out⟩
  have hd : (p.err != 0) = false := by simpa using he
  have HEE := Lib.hid he
  clear he
  by_cases hk : x.k = 1
  case neg =>
    have k1 : (x.k != 1) = true := by simpa using hk
    obtain rfl : ([], failP 6 p) = R := by rw [← HR.out, HQ.out, decide_eq_false hk]; simp
    clear hk
    go_wp2_with fail
    refine (pfail_ 6 HE.out).mono ?_
    rintro e w3 ⟨rfl, h3⟩
    have H3 := Lib.hid h3
    clear h3
    go_wp2
    go_ret
    exact ⟨rfl, H3.out⟩
  have k1 : (x.k != 1) = false := by simpa using hk
  have HK := Lib.hid hk
  clear hk
  go_wp2_with fail
  refine (rname_ _ x.s ⟨rfl⟩ hxl _).mono ?_
  rintro e w2 ⟨rfl, hb2⟩
  have HE := Lib.hid (HE.out.ext hb2)
  have BE := BE.ext hb2
  clear qe q hb2
  have HKK := Lib.hid (show (wAt W p).k ≠ 0 by rw [HX.out, HK.out]; decide)
  obtain ⟨nk, hnk⟩ : ∃ b, nameOk x.s = b := ⟨_, rfl⟩
  rw [hnk]
  have HNK := Lib.hid hnk
  clear hnk
  cases nk with
  | false =>
    obtain rfl : ([], failP 6 p) = R := by rw [← HR.out, HQ.out, HNK.out]; simp
    go_wp2_with fail
    refine (pfail_ 6 HE.out).mono ?_
    rintro e w3 ⟨rfl, h3⟩
    have H3 := Lib.hid h3
    clear h3
    go_wp2
    go_ret
    exact ⟨rfl, H3.out⟩
  | true =>
    obtain rfl : (x.s, stepP p) = R := by rw [← HR.out, HQ.out, HNK.out, decide_eq_true HEE.out, decide_eq_true HK.out]; rfl
    have hb := HE.out.blk
    have q := four hb (Below.refl _ _)
    have f1 := hb.frozen 1
    have qe := BE.three (Below.refl _ _)
    clear hb
    go_upto_region 6 with fail
    have HS := Lib.hid (HE.out.step HKK.out)
    have BE := BE.far (p := ⟨g, 1, none⟩) (show ge ≠ g by omega) (.int .i64 ((p.at_ : Int) + 1))
    clear q f1 qe
    generalize w2.setCell ⟨g, 1, none⟩ (.int .i64 ((p.at_ : Int) + 1)) = w5 at *
    have qe := BE.three (Below.refl _ _)
    go_wp2
    go_ret
    exact ⟨rfl, HS.out⟩
set_option maxRecDepth 1000000 in
set_option maxHeartbeats 4000000 in
theorem pcol_ {w0 w : World} {g : Nat} {W : List Wd} {Aw : Option Addr} {cw : Nat} {p : Ps} {Ae : Option Addr} {ce : Nat} (h : PrB w0 w g W Aw cw p Ae ce) :
    Calls Try.prog 93 #[.pointer (some ⟨g, 0, none⟩)] w fun e w' => e = .returned (.string ⟨(colP W p).1.toArray⟩) ∧ PrB w0 w' g W Aw cw (colP W p).2 Ae ce := by
  have H1 := Lib.hid (pname_ h)
  have HC := Lib.hid (show colP W p = if okIs W [46] (nameP W p).2 = true then ((nameP W p).1 ++ [46] ++ (nameP W (stepP (nameP W p).2)).1, (nameP W (stepP (nameP W p).2)).2) else nameP W p from rfl)
  have hl1 := nameP_len (W := W) (p := p)
  obtain ⟨⟨s1, p1⟩, hp1⟩ : ∃ R, nameP W p = R := ⟨_, rfl⟩
  obtain ⟨C, hC⟩ : ∃ C, colP W p = C := ⟨_, rfl⟩
  have HC := HC.out
  have H1 := H1.out
  rw [hC] at HC ⊢
  rw [hp1] at H1 HC hl1
  simp only at H1 HC hl1
  have H1 := Lib.hid H1
  have HC := Lib.hid HC
  clear h hp1 hC
  go_enter Try.func93, Try.ntmps93
  go_wp2_with fail
  refine (H1.out).mono ?_
  rintro e w2 ⟨rfl, h2⟩
  have HI := Lib.hid (pis_ [46] h2)
  clear h2
  obtain ⟨ok, hok⟩ : ∃ b, okIs W [46] p1 = b := ⟨_, rfl⟩
  have HI := HI.out
  have HC := HC.out
  rw [hok] at HI HC
  have HI := Lib.hid HI
  clear hok
  go_wp2_with fail
  refine (HI.out).mono ?_
  rintro e w3 ⟨rfl, h3⟩
  cases ok with
  | false =>
    rw [if_neg (by simp)] at HC
    subst HC
    have H3 := Lib.hid (show PrB w0 w3 g W Aw cw p1 Ae ce from h3)
    clear h3
    go_wp2
    go_ret
    exact ⟨rfl, H3.out⟩
  | true =>
    rw [if_pos rfl] at HC
    have H4 := Lib.hid (pname_ (show PrB w0 w3 g W Aw cw (stepP p1) Ae ce from h3))
    have hl2 := nameP_len (W := W) (p := stepP p1)
    obtain ⟨⟨s2, p2⟩, hp2⟩ : ∃ R, nameP W (stepP p1) = R := ⟨_, rfl⟩
    have H4 := H4.out
    rw [hp2] at H4 HC hl2
    simp only at H4 HC hl2
    have H4 := Lib.hid H4
    subst HC
    clear h3 hp2
    have z1 : (ByteArray.mk s1.toArray).size = s1.length := size_mk s1
    have z2 : (ByteArray.mk s2.toArray).size = s2.length := size_mk s2
    have n1 : ¬ (9223372036854775807 < s1.length + 1) := by omega
    go_wp2_with fail
    refine (H4.out).mono ?_
    rintro e w4 ⟨rfl, h4⟩
    have H5 := Lib.hid h4
    clear h4
    have z3 : ((⟨s1.toArray⟩ : ByteArray) ++ ⟨#[46]⟩).size = s1.length + 1 := by rw [show (⟨#[46]⟩ : ByteArray) = ⟨[46].toArray⟩ from rfl, app_mk, size_mk, List.length_append]; rfl
    have n2 : ¬ (9223372036854775807 < s1.length + 1 + s2.length) := by omega
    have HS := Lib.hid (show (⟨s1.toArray⟩ : ByteArray) ++ ⟨#[46]⟩ ++ ⟨s2.toArray⟩ = ⟨(s1 ++ 46 :: s2).toArray⟩ by rw [show s1 ++ 46 :: s2 = s1 ++ [46] ++ s2 by simp, ← app_mk, ← app_mk])
    go_wp2
    go_ret
    exact ⟨congrArg (fun b => Ending.returned (.string b)) HS.out, H5.out⟩
end Go.Proofs.Ytfgmlgflfagdjaa.ps
