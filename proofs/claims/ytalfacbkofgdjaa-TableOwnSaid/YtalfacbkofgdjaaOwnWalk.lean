/- TableOwn: the walk. Printed by genown.py. -/
import Derived.Test.YtalfacbkofgdjaaV1
import Derived.Test.YtalfacbkofgdjaaT
namespace Go.Proofs.Ytalfacbkofgdjaa.tb
open Go.ChangeShapes Go.WideShapes Go.ChangeAt Go.RowKit Go.Proofs.Ytalfacbkofgdjaa.lib Go.Proofs.Ytalfacbkofgdjaa.val
set_option linter.unusedVariables false

theorem Below.setC {B : Nat} {w w' : World} (h : Below B w w') (p : Addr) (v : Value) (hp : B ≤ p.block) : Below B w (w'.setCell p v) :=
  ⟨h.os, h.tape, h.output, by simpa [World.setCell] using h.size, fun k hk => (Below.heap_setCell _ _ _ _ (by omega)).trans (h.block k hk)⟩
set_option maxRecDepth 1000000 in
set_option maxHeartbeats 8000000 in
theorem own_walk (s : ByteArray) (A : Option Addr) (n c : Nat) (l : List Col) (key : Int) (only : Bool) (m q : Int) (w : World) (hs : s.size ≤ maxLen) (hC : Cs w 0 A n c l) (hn : n ≤ maxLen) (hp : ∀ x ∈ l, RawC x) (hkey : ok64 key) (hm : ok64 m) (hq : ok64 q) :
    Calls Try.prog 6 #[.agg #[.string s, .slice A n c, .int .i64 key, .bool only], .int .i64 m, .int .i64 q] w fun e W' => e = .returned (.bool true) ∧ Below w.heap.size w W' := by
  obtain ⟨hm1, hm2⟩ := hm
  obtain ⟨hq1, hq2⟩ := hq
  go_enter Try.func6, Try.ntmps6
  go_upto_region 1 with fail
  obtain ⟨W0, hW_, hbW0, BS⟩ : ∃ W_, W_ = (w.alloc (.cells #[.string s, .slice A n c, .int .i64 key, .bool only] 24)) ∧ Below w.heap.size w W_ ∧ Blk W_ (w.heap.size) 24 #[.string s, .slice A n c, .int .i64 key, .bool only] :=
    ⟨_, rfl, ((Below.refl _ _).alloc (Nat.le_refl _) _), (blk_new_at w (w.heap.size) _ _ (by simp))⟩
  rw [← hW_]
  clear hW_
  go_wp2_with fail
  refine (known_ _).mono ?_
  rintro e w1 ⟨rfl, hb1⟩
  have hbw1 := Below.trans hbW0 (Below.mono hb1 hbW0.size)
  have BS := BS.ext hb1
  clear hbW0 hb1
  have q := four BS (Below.refl _ _)
  go_wp2_with fail
  refine (few9_ s A n c l key only _ hs (hC.ext hbw1) hn (fun x hx => (hp x hx).s)).mono ?_
  rintro e w2 ⟨⟨b, rfl⟩, hb2⟩
  have hbw2 := Below.trans hbw1 (Below.mono hb2 hbw1.size)
  have BS := BS.ext hb2
  clear hbw1 hb2 q
  by_cases hbt : b = true
  case neg =>
    obtain rfl : b = false := by cases b with | false => rfl | true => exact absurd rfl hbt
    go_wp2
    go_ret
    exact ⟨rfl, hbw2⟩
  subst hbt
  have q := four BS (Below.refl _ _)
  go_wp2_with fail
  refine (good9_ s A n c l key only _ (hC.ext hbw2) hn hp hkey).mono ?_
  rintro e w3 ⟨A7, c7, rfl, hC7, hF7, hb3⟩
  have hbw3 := Below.trans hbw2 (Below.mono hb3 hbw2.size)
  have hS : SOk (goodS l key only) := good_ok l key only
  generalize goodS l key only = S at *
  clear hbw2 hb3 q BS
  have h6 := hS.six
  have hn7 : S.cols.length ≤ 100 := by omega
  simp only [schA]
  go_wp2_with fail
  obtain ⟨W, hW_, hbW1, B7⟩ : ∃ W_, W_ = (w3.alloc (.cells #[.string S.name, .slice A7 S.cols.length c7, .int .i64 S.key, .bool S.only] 24)) ∧ Below w3.heap.size w3 W_ ∧ Blk W_ (w3.heap.size) 24 #[.string S.name, .slice A7 S.cols.length c7, .int .i64 S.key, .bool S.only] :=
    ⟨_, rfl, ((Below.refl _ _).alloc (Nat.le_refl _) _), (blk_new_at w3 (w3.heap.size) _ _ (by simp))⟩
  rw [← hW_]
  clear hW_
  have hbW := Below.trans hbw3 (Below.mono hbW1 hbw3.size)
  have hCs : Hid (∀ w', Below w3.heap.size w3 w' → Cs w' 0 A7 S.cols.length c7 S.cols) := Lib.hid (fun w' h => (hC7.ext h).base (Nat.zero_le _))
  have hz7 := B7.lt
  clear hC7 hF7
  refine (fit_ S _ A7 S.cols.length c7 m _ (hCs.out _ hbW1) hn7 hS.kinds hm1 hm2).mono ?_
  rintro e w5 ⟨Ar, cr, rfl, hown5, hb5⟩
  obtain ⟨kv, hri⟩ := row_i hS m
  obtain ⟨r, hr⟩ : ∃ r, fitL S.cols m = r := ⟨_, rfl⟩
  rw [hr] at hown5 hri
  have HR := Lib.hid hr
  clear hr
  have B7 := B7.ext hb5
  have hbg5 := Below.trans hbW1 (Below.mono hb5 hbW1.size)
  have hbw5 := Below.trans hbW (Below.mono hb5 hbW.size)
  have Hri := Lib.hid hri
  have hkl : S.key < S.cols.length := hS.key
  have hki : (S.key : Int) < (S.cols.length : Int) := by omega
  have hpos : 0 < S.cols.length := hS.pos
  obtain ⟨br, rfl, hbr1, hbr2⟩ := own_some hown5 hpos
  have hVr : Vs w5 0 _ S.cols.length cr r := (Vs.of_own hown5).base (Nat.zero_le _)
  have HO5 := Lib.hid hown5
  have hz5 := hb5.size
  clear hri hown5 hb5 hbW1
  have q7 := four B7 (Below.refl _ _)
  go_wp2_with fail
  clear q7
  refine (put_ S [] r _ A7 S.cols.length c7 none 0 0 0 _ S.cols.length cr _ (hCs.out _ hbg5) (Rs.nil _ 0) (.inl rfl) hVr Hri.out.small hS.ok0 hn7 (by decide) (by omega)).mono ?_
  rw [put_nil Hri.out.fit]
  rintro e w6 ⟨v, rfl, hT6, hb6⟩
  obtain ⟨A9, n9, c9, A10, n10, c10, rfl, hC9, hR9, hF9⟩ := hT6
  simp only [tabA]
  have hbg6 := Below.trans hbg5 (Below.mono hb6 hbg5.size)
  have B7 := B7.ext hb6
  have HO6 := Lib.hid (own_ext HO5.out hb6)
  have hz6 := hb6.size
  clear hVr HO5
  have q7 := fun o => four B7 ((Below.refl _ _).alloc (Nat.le_refl _) o)
  go_wp2_with fail
  clear q7
  obtain ⟨W6, hW_, hb6a, B9⟩ : ∃ W_, W_ = (w6.alloc (.cells #[.string S.name, .slice A9 n9 c9, .int .i64 S.key, .bool S.only, .slice A10 n10 c10] 32)) ∧ Below w6.heap.size w6 W_ ∧ Blk W_ (w6.heap.size) 32 #[.string S.name, .slice A9 n9 c9, .int .i64 S.key, .bool S.only, .slice A10 n10 c10] :=
    ⟨_, rfl, ((Below.refl _ _).alloc (Nat.le_refl _) _), (blk_new_at w6 (w6.heap.size) _ _ (by simp))⟩
  rw [← hW_]
  clear hW_
  have hbg6 := Below.trans hbg6 (Below.mono hb6a hbg6.size)
  have B9l := B9.lt
  refine (fit_ S 0 A7 S.cols.length c7 m _ (hCs.out _ hbg6) hn7 hS.kinds hm1 hm2).mono ?_
  rintro e w8 ⟨Aw, cw, rfl, hown8, hb8⟩
  rw [HR.out] at hown8
  have hb68 := Below.trans hb6a (Below.mono hb8 hb6a.size)
  have hbg8 := Below.trans hbg6 (Below.mono hb8 hbg6.size)
  have B7 := B7.ext hb68
  have B9 := B9.ext hb8
  have hC9 := hC9.ext hb68
  have hR9 := hR9.ext hb68
  have HO8 := Lib.hid (own_ext HO6.out hb68)
  have HWS := Lib.hid hown8
  have hz8 := hb68.size
  have hz9 : w6.heap.size < W6.heap.size := by have := B9.lt; have := hb6a.size; first | omega | (have := B9l; omega)
  clear hown8 hb8 hb6a hb68 HO6 HR
  go_wp2_with fail
  go_loopw [12] (fun i wr => ∃ (k : Nat) (xs : List V), i = .int .i64 k ∧ k ≤ S.cols.length ∧ wr.ownsRow W.heap.size 39 3 (.slice (some ⟨br, 0, none⟩) S.cols.length cr) S.cols.length (cellsV xs) ∧ w8.grownBy wr (some br)) (fun i _ => S.cols.length - (intOf i).toNat)
  case atStart => exact ⟨0, r, rfl, Nat.zero_le _, HO8.out, grown_refl _ _⟩
  case round =>
    obtain ⟨k, xs, rfl, hk, hown, hgr⟩ := hrel
    rcases Nat.lt_or_ge k S.cols.length with hlt | hge
    case inl =>
      have hd1 : decide ((k : Int) < (S.cols.length : Int)) = true := by simp; omega
      have hkn : (k : Int) < (S.cols.length : Int) := by omega
      have hxl := own_len hown
      obtain ⟨x, hx⟩ : ∃ x, xs[k]? = some x := ⟨_, List.getElem?_eq_getElem (by rw [hxl]; exact hlt)⟩
      obtain ⟨⟨q0, q1, q2⟩, f0, f1, f2⟩ := own_six hown hx
      obtain ⟨wx, hwx0, hownx, hgrx, hlowx⟩ := own_set hown k (by rw [hxl]; exact hlt) ⟨2, q, ByteArray.empty⟩
      have hwx : wx = ((wr.setCell ⟨br, k * 3, none⟩ (.int .i64 2)).setCell ⟨br, k * 3 + 1, none⟩ (.int .i64 q)).setCell ⟨br, k * 3 + 2, none⟩ (.string ⟨#[]⟩) := hwx0
      have HWX := Lib.hid hwx
      have HOX := Lib.hid hownx
      clear hwx hwx0 hxl hx hown hownx
      go_upto_region 11 with fail
      rw [← HWX.out]
      clear q0 q1 q2 f0 f1 f2 HWX
      go_wp2
      go_roundw
      case rel => exact ⟨k + 1, _, by go_num, by omega, HOX.out, grown_trans hgr hgrx⟩
      case measure => simp [intOf]; omega
    have hd1 : decide ((k : Int) < (S.cols.length : Int)) = false := by simp; omega
    have hd1n : decide (k < S.cols.length) = false := by simp; omega
    have hwz := hgr.size
    have B9 : Blk wr w6.heap.size 32 #[.string S.name, .slice A9 n9 c9, .int .i64 S.key, .bool S.only, .slice A10 n10 c10] := B9.grown hgr (by simp; omega)
    have B7 := B7.grown hgr (by simp; omega)
    have hC9 := (hC9.grownL hgr hbr2).base (Nat.zero_le _)
    have hR9 := (hR9.grownL hgr hbr2).base (Nat.zero_le _)
    have HWS := Lib.hid (HWS.out.kept hgr (by
      cases ho : (Value.slice Aw S.cols.length cw).ownBlock with
      | none => exact .inl rfl
      | some b =>
        have := (HWS.out.lt b ho).1
        exact .inr (by simp; omega)))
    have hbw := (Below.trans hbw3 (Below.mono hbg8 hbw3.size)).grown hgr (by have := hbw3.size; have := hbg8.size; omega) (fun b hb => by injection hb with hb; have := hbw3.size; omega)
    have hOk1 := Lib.hid (one_ok hS Hri.out)
    have hback := put_take (r := r) hS.ok0 (by rw [put_nil Hri.out.fit])
    rw [put_nil Hri.out.fit, Hri.out.keyOf] at hback
    have Hget := Lib.hid (fun w' (h : Below wr.heap.size wr w') => by
      have := get2_ S [r] kv 0 A9 n9 c9 A10 n10 c10 w' (hR9.ext h) hOk1.out hn7 (by simp)
      rw [hback.2.1, hback.2.2] at this
      exact this)
    have Hrange := Lib.hid (fun w' (h : Below wr.heap.size wr w') => by
      have := range2_ S [r] zV zV 0 A9 n9 c9 A10 n10 c10 w' (hR9.ext h) hOk1.out hn7 (by simp)
      rw [range_all hOk1.out] at this
      exact this)
    have hVw : Vs wr 0 Aw S.cols.length cw r := (Vs.of_own HWS.out).base (Nat.zero_le _)
    obtain ⟨bw, ow, rfl, _, _, _⟩ := hVw.1.some_ hpos
    have hrl := Lib.hid Hri.out.len
    clear hback hown hgr hC9 HWS HO8 hbr1 hbr2 hwz hbg8 hbg6 hbg5 hbw5 hbW
    go_wp2_with fail
    have D9 := fun w' (h : Below wr.heap.size wr.drew w') => five B9 (Below.trans (Below.refl _ _).drew h)
    have D7 := fun w' (h : Below wr.heap.size wr.drew w') => four B7 (Below.trans (Below.refl _ _).drew h)
    have Dr := fun w' (h : Below wr.heap.size wr.drew w') => (hVw.ext (Below.trans (Below.refl _ _).drew h)).at_ Hri.out.key
    refine wp_region_one [(0, true), (1, true), (2, true), (3, true), (4, true), (5, true), (6, false), (7, true), (8, true), (9, true), (10, true), (11, true)] (by kernel_rfl) (by kernel_rfl) (by kernel_rfl) (by decide) ?_
    repeat ((with_reducible show wpPerm _ _ _ _ ((_, true) :: _) _ _); (first | (refine wpPerm_on (v := ?_) rfl rfl (wanted_free rfl) (fun w' hS => ?_) ?_; rotate_left; (focus (go_simp; (try with_reducible rfl); done)); try simp only [List.setIfInBounds_toArray, List.set_cons_zero, List.set_cons_succ]) | (refine wpPerm_on (v := ?_) rfl rfl (wanted_yes rfl rfl rfl) (fun w' hS => ?_) ?_; rotate_left; (focus (go_simp; (try with_reducible rfl); done)); try simp only [List.setIfInBounds_toArray, List.set_cons_zero, List.set_cons_succ]) | (refine wpPerm_off rfl rfl (wanted_no rfl rfl rfl) ?_; try simp only [List.setIfInBounds_toArray, List.set_cons_zero, List.set_cons_succ]) | (refine wpPerm_off rfl rfl (wanted_undef rfl rfl rfl) ?_; try simp only [List.setIfInBounds_toArray, List.set_cons_zero, List.set_cons_succ])))
    refine wpPerm_do rfl (wanted_free rfl) (fun K hK => ?_); go_simp
    refine (Hget.out _ (Below.refl _ _).drew).mono ?_
    rintro e wa ⟨Ax, nx, cx, rfl, _, hownx, hba⟩
    refine hK.out _ _ hba ?_
    clear hK K
    repeat ((with_reducible show wpPerm _ _ _ _ ((_, true) :: _) _ _); (first | (refine wpPerm_on (v := ?_) rfl rfl (wanted_free rfl) (fun w' hS => ?_) ?_; rotate_left; (focus (go_simp; (try with_reducible rfl); done)); try simp only [List.setIfInBounds_toArray, List.set_cons_zero, List.set_cons_succ]) | (refine wpPerm_on (v := ?_) rfl rfl (wanted_yes rfl rfl rfl) (fun w' hS => ?_) ?_; rotate_left; (focus (go_simp; (try with_reducible rfl); done)); try simp only [List.setIfInBounds_toArray, List.set_cons_zero, List.set_cons_succ]) | (refine wpPerm_off rfl rfl (wanted_no rfl rfl rfl) ?_; try simp only [List.setIfInBounds_toArray, List.set_cons_zero, List.set_cons_succ]) | (refine wpPerm_off rfl rfl (wanted_undef rfl rfl rfl) ?_; try simp only [List.setIfInBounds_toArray, List.set_cons_zero, List.set_cons_succ])))
    refine wpPerm_done ?_
    clear D9 D7 Dr
    have hra := Below.trans (Below.refl _ wr).drew hba
    obtain rfl : S.cols.length = nx := by rw [← hrl.out]; exact own_len hownx
    obtain ⟨bx, rfl, hbx1, hbx2⟩ := own_some hownx hpos
    have HX := Lib.hid hownx
    have hrz : wr.heap.size ≤ bx := hbx1
    clear hownx hba hbx1
    have q9 := five B9 hra
    go_wp2_with fail
    clear q9
    refine (Hrange.out _ hra).mono ?_
    rintro e wb ⟨Al, cl, hs3, rfl, hRl, hHl, hEl, _, _, hbb⟩
    have hrb := Below.trans hra (Below.mono hbb hra.size)
    obtain ⟨bl, ol, rfl, _, _, _⟩ := hRl.some_ (by simp)
    obtain ⟨A0, c0, h0, hv0⟩ := hHl.at_ (show [r][0]? = some r from rfl)
    obtain ⟨A0', c0', h0', ho0⟩ := hEl.2 0 _ r h0 rfl
    injection h0' with e1 _ e2
    subst e1 e2
    have q0 := hRl.at_ h0
    rw [hrl.out] at q0 hv0 ho0
    obtain ⟨b0, rfl, _, _⟩ := own_some ho0 hpos
    have hb0 : wa.heap.size ≤ b0 := by obtain ⟨_, _, e, _, h, _⟩ := hv0.1.some_ hpos; injection e with e; injection e with e _ _; omega
    have HL0 := Lib.hid ho0
    have HX := Lib.hid (own_ext HX.out hbb)
    have hbn : b0 ≠ bx := by omega
    have hbn2 : bx ≠ b0 := by omega
    simp only [Nat.add_zero] at q0
    clear hHl hEl h0 hRl hv0 ho0
    obtain ⟨r0, hr0⟩ : ∃ v, r[0]? = some v := ⟨_, List.getElem?_eq_getElem (by rw [hrl.out]; exact hpos)⟩
    obtain ⟨⟨x0, x1, x2⟩, g0, g1, g2⟩ := own_six HX.out hr0
    obtain ⟨⟨l0, l1, l2⟩, f0, f1, f2⟩ := own_six HL0.out hr0
    simp only [Nat.zero_mul, Nat.zero_add] at x0 x1 x2 g0 g1 g2 l0 l1 l2 f0 f1 f2
    have hd0 : (0 : Int) < (S.cols.length : Int) := by omega
    clear hr0
    go_upto_region 18 with fail
    clear x0 x1 x2 g0 g1 g2 l0 l1 l2 f0 f1 f2 hd0
    obtain ⟨wc, hwc⟩ : ∃ wc, wc = ((((((wb.setCell ⟨b0, 0, none⟩ (.int .i64 2)).setCell ⟨b0, 1, none⟩ (.int .i64 q)).setCell ⟨b0, 2, none⟩ (.string ⟨#[]⟩)).setCell ⟨bx, 0, none⟩ (.int .i64 0)).setCell ⟨bx, 1, none⟩ (.int .i64 0)).setCell ⟨bx, 2, none⟩ (.string ⟨#[]⟩)) := ⟨_, rfl⟩
    have hbc : Below wr.heap.size wb wc := by
      have h1 : wr.heap.size ≤ b0 := Nat.le_trans hra.size hb0
      rw [hwc]
      exact Below.setC (Below.setC (Below.setC (Below.setC (Below.setC (Below.setC (Below.refl _ _) ⟨b0, 0, none⟩ _ h1) ⟨b0, 1, none⟩ _ h1) ⟨b0, 2, none⟩ _ h1) ⟨bx, 0, none⟩ _ hrz) ⟨bx, 1, none⟩ _ hrz) ⟨bx, 2, none⟩ _ hrz
    rw [← hwc]
    clear hwc
    have hrc := Below.trans hrb hbc
    have hrd : Below wr.heap.size wr wc.drew := hrc.drew
    have D9 := fun w' (h : Below wc.heap.size wc.drew w') => five B9 (Below.trans hrd (Below.mono h hrc.size))
    have D7 := fun w' (h : Below wc.heap.size wc.drew w') => four B7 (Below.trans hrd (Below.mono h hrc.size))
    have Dr := fun w' (h : Below wc.heap.size wc.drew w') => (hVw.ext (Below.trans hrd (Below.mono h hrc.size))).at_ Hri.out.key
    refine wp_region_one [(0, true), (1, true), (2, true), (3, true), (4, true), (5, true), (6, false), (7, true), (8, true), (9, true), (10, true), (11, true)] (by kernel_rfl) (by kernel_rfl) (by kernel_rfl) (by decide) ?_
    repeat ((with_reducible show wpPerm _ _ _ _ ((_, true) :: _) _ _); (first | (refine wpPerm_on (v := ?_) rfl rfl (wanted_free rfl) (fun w' hS => ?_) ?_; rotate_left; (focus (go_simp; (try with_reducible rfl); done)); try simp only [List.setIfInBounds_toArray, List.set_cons_zero, List.set_cons_succ]) | (refine wpPerm_on (v := ?_) rfl rfl (wanted_yes rfl rfl rfl) (fun w' hS => ?_) ?_; rotate_left; (focus (go_simp; (try with_reducible rfl); done)); try simp only [List.setIfInBounds_toArray, List.set_cons_zero, List.set_cons_succ]) | (refine wpPerm_off rfl rfl (wanted_no rfl rfl rfl) ?_; try simp only [List.setIfInBounds_toArray, List.set_cons_zero, List.set_cons_succ]) | (refine wpPerm_off rfl rfl (wanted_undef rfl rfl rfl) ?_; try simp only [List.setIfInBounds_toArray, List.set_cons_zero, List.set_cons_succ])))
    refine wpPerm_do rfl (wanted_free rfl) (fun K hK => ?_); go_simp
    refine (Hget.out _ hrd).mono ?_
    rintro e wd ⟨Ay, ny, cy, rfl, hVy, _, hbd⟩
    refine hK.out _ _ hbd ?_
    clear hK K
    repeat ((with_reducible show wpPerm _ _ _ _ ((_, true) :: _) _ _); (first | (refine wpPerm_on (v := ?_) rfl rfl (wanted_free rfl) (fun w' hS => ?_) ?_; rotate_left; (focus (go_simp; (try with_reducible rfl); done)); try simp only [List.setIfInBounds_toArray, List.set_cons_zero, List.set_cons_succ]) | (refine wpPerm_on (v := ?_) rfl rfl (wanted_yes rfl rfl rfl) (fun w' hS => ?_) ?_; rotate_left; (focus (go_simp; (try with_reducible rfl); done)); try simp only [List.setIfInBounds_toArray, List.set_cons_zero, List.set_cons_succ]) | (refine wpPerm_off rfl rfl (wanted_no rfl rfl rfl) ?_; try simp only [List.setIfInBounds_toArray, List.set_cons_zero, List.set_cons_succ]) | (refine wpPerm_off rfl rfl (wanted_undef rfl rfl rfl) ?_; try simp only [List.setIfInBounds_toArray, List.set_cons_zero, List.set_cons_succ])))
    refine wpPerm_done ?_
    clear D9 D7 Dr
    have hre := Below.trans hrd (Below.mono hbd hrc.size)
    have hny : ny ≤ 100000 := by rw [← hVy.2, hrl.out]; omega
    go_wp2_with fail
    refine (rrowSame_ r _ 0 Ay _ ny cy S.cols.length cw _ hny hVy (hVw.ext hre)).mono ?_
    rintro e we ⟨rfl, hbe⟩
    have hbwe := Below.trans (Below.trans hbw (Below.mono hre hbw.size)) (Below.mono hbe (by have := hbw.size; have := hre.size; omega))
    go_wp2
    go_ret
    exact ⟨rfl, hbwe⟩
end Go.Proofs.Ytalfacbkofgdjaa.tb
