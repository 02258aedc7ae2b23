/- The walk of EvalCompares. (Printed by gencmp.py.) -/
import Derived.Test.YtfgmlgflfagdjaaCmpPlain
namespace Go.Proofs.Ytfgmlgflfagdjaa.ev
open Go.ChangeShapes Go.WideShapes Go.ChangeAt Go.RowKit Go.Proofs.Ytfgmlgflfagdjaa.lib Go.Proofs.Ytfgmlgflfagdjaa.val
set_option linter.unusedVariables false

theorem six0 {w : World} {g : Nat} {t : TypeId} {x0 x1 x2 x3 x4 x5 x6 x7 x8 x9 x10 x11 : Value} (h : Blk w g t #[x0, x1, x2, x3, x4, x5, x6, x7, x8, x9, x10, x11]) :
    w.cell? ⟨g, 0, none⟩ = some x0 ∧ w.cell? ⟨g, 1, none⟩ = some x1 ∧ w.cell? ⟨g, 2, none⟩ = some x2 ∧ w.cell? ⟨g, 3, none⟩ = some x3 ∧ w.cell? ⟨g, 4, none⟩ = some x4 ∧ w.cell? ⟨g, 5, none⟩ = some x5 :=
  ⟨h.cell 0, h.cell 1, h.cell 2, h.cell 3, h.cell 4, h.cell 5⟩
theorem six1 {w : World} {g : Nat} {t : TypeId} {x0 x1 x2 x3 x4 x5 x6 x7 x8 x9 x10 x11 : Value} (h : Blk w g t #[x0, x1, x2, x3, x4, x5, x6, x7, x8, x9, x10, x11]) :
    w.cell? ⟨g, 6, none⟩ = some x6 ∧ w.cell? ⟨g, 7, none⟩ = some x7 ∧ w.cell? ⟨g, 8, none⟩ = some x8 ∧ w.cell? ⟨g, 9, none⟩ = some x9 ∧ w.cell? ⟨g, 10, none⟩ = some x10 ∧ w.cell? ⟨g, 11, none⟩ = some x11 :=
  ⟨h.cell 6, h.cell 7, h.cell 8, h.cell 9, h.cell 10, h.cell 11⟩
theorem ok0 : ok64 0 := by unfold ok64; omega
theorem ans_cell (c : Int) (r : Nat) (hr : r < 6) : (#[.bool (c == 0), .bool (c != 0), .bool (decide (c < 0)), .bool (decide (c ≤ 0)), .bool (decide (0 < c)), .bool (decide (0 ≤ c))] : Array Value)[r]? = some (.bool (opcode (8 + (r : Int)) c 0)) := by
  have : r = 0 ∨ r = 1 ∨ r = 2 ∨ r = 3 ∨ r = 4 ∨ r = 5 := by omega
  rcases this with rfl | rfl | rfl | rfl | rfl | rfl <;> rfl
theorem cmp_fine {u v : V} (op : Int) (ho : op ≠ 2) (hu : u.s.size ≤ maxLen) (hv : v.s.size ≤ maxLen) (gu : ok64 u.n) (gv : ok64 v.n) : ∀ n ∈ [nv u, nv v, nb op 0 1], n.op ≠ 2 ∧ n.v.s.size ≤ maxLen ∧ ok64 n.v.n := by
  intro n hn
  simp only [List.mem_cons, List.not_mem_nil, or_false] at hn
  rcases hn with rfl | rfl | rfl
  · exact ⟨show (1 : Int) ≠ 2 by decide, hu, gu⟩
  · exact ⟨show (1 : Int) ≠ 2 by decide, hv, gv⟩
  · exact ⟨ho, show ByteArray.empty.size ≤ maxLen by decide, ok0⟩
theorem rcmp_r (u v : V) (c : Int) (hc : rcmpV u v = c) (w : World) (ha : u.s.size ≤ maxLen) (hb : v.s.size ≤ maxLen) :
    Calls Try.prog 29 #[.agg #[.int .i64 u.k, .int .i64 u.n, .string u.s], .agg #[.int .i64 v.k, .int .i64 v.n, .string v.s]] w fun e w' => e = .returned (.int .i64 c) ∧ Below w.heap.size w w' := by
  subst hc; exact rcmp_ u v w ha hb

set_option maxRecDepth 1000000 in
set_option maxHeartbeats 4000000 in
theorem cmp_walk (a b : Int) (s t : ByteArray) (op : Int) (w : World) (ha : ok64 a) (hb : ok64 b) (ho : ok64 op) (hs0 : s.size ≤ maxLen) (ht0 : t.size ≤ maxLen) :
    Calls Try.prog 8 #[.int .i64 a, .int .i64 b, .string s, .string t, .int .i64 op] w fun e w' => e = .returned (.bool true) ∧ Below w.heap.size w w' := by
  unfold maxLen at hs0 ht0
  by_cases hs : s.size ≤ 40
  rotate_left
  · have hd : decide ((40 : Int) < (s.size : Int)) = true := by simp; omega
    go_enter Try.func8, Try.ntmps8
    go_wp2_with fail
    refine (known _).mono ?_
    rintro e w1 ⟨rfl, hb1⟩
    go_wp2
    go_ret
    exact ⟨rfl, hb1⟩
  by_cases ht : t.size ≤ 40
  rotate_left
  · have hd : decide ((40 : Int) < (t.size : Int)) = true := by simp; omega
    have hd2 : decide ((40 : Int) < (s.size : Int)) = false := by simp; omega
    go_enter Try.func8, Try.ntmps8
    go_wp2_with fail
    refine (known _).mono ?_
    rintro e w1 ⟨rfl, hb1⟩
    go_wp2
    go_ret
    exact ⟨rfl, hb1⟩
  have hd : decide ((40 : Int) < (t.size : Int)) = false := by simp; omega
  have hd2 : decide ((40 : Int) < (s.size : Int)) = false := by simp; omega
  obtain ⟨r, hr, hr6⟩ : ∃ r : Nat, op % 6 = r ∧ r < 6 := ⟨(op % 6).toNat, by omega, by omega⟩
  have HR := Lib.hid hr
  have hr7 : (r : Int) < 6 := by omega
  clear hr
  go_enter Try.func8, Try.ntmps8
  go_wp2_with fail
  refine (known _).mono ?_
  rintro e w1 ⟨rfl, hb1⟩
  go_wp2_with fail
  obtain ⟨W, hW_, hbW, BR⟩ : ∃ W_, W_ = (w1.alloc (.cells #[.int .i64 2, .int .i64 a, .string ⟨#[]⟩, .int .i64 2, .int .i64 b, .string ⟨#[]⟩, .int .i64 3, .int .i64 0, .string s, .int .i64 3, .int .i64 0, .string t] 60)) ∧ Below w1.heap.size w1 W_ ∧ Blk W_ (w1.heap.size) 60 #[.int .i64 2, .int .i64 a, .string ⟨#[]⟩, .int .i64 2, .int .i64 b, .string ⟨#[]⟩, .int .i64 3, .int .i64 0, .string s, .int .i64 3, .int .i64 0, .string t] :=
    ⟨_, rfl, ((Below.refl _ _).alloc (Nat.le_refl _) _), (blk_new_at w1 (w1.heap.size) _ _ (by simp))⟩
  rw [← hW_]
  clear hW_
  go_loopw [12] (fun i wr => ∃ k : Nat, k ≤ 2 ∧ i = .int .i64 k ∧ Below W.heap.size W wr) (fun i _ => 2 - (intOf i).toNat)
  case atStart => exact ⟨0, by omega, rfl, Below.refl _ _⟩
  case round =>
    obtain ⟨k, hk2, rfl, hbk⟩ := hrel
    rcases (show k = 0 ∨ k = 1 ∨ k = 2 by omega) with rfl | rfl | rfl
    · obtain ⟨c, hc⟩ : ∃ c, rcmpV (⟨2, a, ByteArray.empty⟩ : V) (⟨2, b, ByteArray.empty⟩ : V) = c := ⟨_, rfl⟩
      obtain ⟨bv, hbv⟩ : ∃ bv, opcode (8 + (r : Int)) c 0 = bv := ⟨_, rfl⟩
      obtain ⟨nn, hnn⟩ : ∃ nn : Int, (if bv then 1 else 0) = nn := ⟨_, rfl⟩
      have HEV := Lib.hid (show EvV [nv (⟨2, a, ByteArray.empty⟩ : V), nv (⟨2, b, ByteArray.empty⟩ : V), nb (8 + (r : Int)) 0 1] = .tuple #[.agg #[.int .i64 1, .int .i64 nn, .string ⟨#[]⟩], .int .i64 0] by
        rw [evCmp (8 + (r : Int)) (u := (⟨2, a, ByteArray.empty⟩ : V)) (v := (⟨2, b, ByteArray.empty⟩ : V)) ⟨by omega, by omega⟩ (.inl ⟨rfl, rfl⟩) (.inl ⟨rfl, rfl⟩) rfl, hc, hbv, hnn])
      have HANS := Lib.hid (show (#[.bool (c == 0), .bool (c != 0), .bool (decide (c < 0)), .bool (decide (c ≤ 0)), .bool (decide (0 < c)), .bool (decide (0 ≤ c))] : Array Value)[r]? = some (.bool bv) by rw [← hbv]; exact ans_cell c r hr6)
      have HNN := Lib.hid hnn
      have HC := Lib.hid hc
      have HF := Lib.hid (cmp_fine (u := (⟨2, a, ByteArray.empty⟩ : V)) (v := (⟨2, b, ByteArray.empty⟩ : V)) (8 + (r : Int)) (by omega) (by show ByteArray.empty.size ≤ maxLen; decide) (by show ByteArray.empty.size ≤ maxLen; decide) ha hb)
      clear hc hbv hnn
      have D := fun w' (h : Below wr.heap.size wr.drew w') => six0 (BR.ext (bch0 hbk (Below.trans (Below.refl _ _).drew h)))
      go_wp2_with fail
      refine wp_region_one [(0, true), (1, true), (2, true), (3, true), (4, true), (5, true), (6, true), (7, true), (8, true), (9, true), (10, false), (11, true)] (by kernel_rfl) (by kernel_rfl) (by kernel_rfl) (by decide) ?_
      repeat ((with_reducible show wpPerm _ _ _ _ ((_, true) :: _) _ _); (first | (refine wpPerm_on (v := ?_) rfl rfl (wanted_free rfl) (fun w' hS => ?_) ?_; rotate_left; (focus (go_simp; (try with_reducible rfl); done)); try simp only [List.setIfInBounds_toArray, List.set_cons_zero, List.set_cons_succ]) | (refine wpPerm_on (v := ?_) rfl rfl (wanted_yes rfl rfl rfl) (fun w' hS => ?_) ?_; rotate_left; (focus (go_simp; (try with_reducible rfl); done)); try simp only [List.setIfInBounds_toArray, List.set_cons_zero, List.set_cons_succ]) | (refine wpPerm_off rfl rfl (wanted_no rfl rfl rfl) ?_; try simp only [List.setIfInBounds_toArray, List.set_cons_zero, List.set_cons_succ]) | (refine wpPerm_off rfl rfl (wanted_undef rfl rfl rfl) ?_; try simp only [List.setIfInBounds_toArray, List.set_cons_zero, List.set_cons_succ])))
      refine wpPerm_do rfl (wanted_free rfl) (fun K hK => ?_); go_simp
      refine (rcmp_r ⟨2, a, ⟨#[]⟩⟩ ⟨2, b, ⟨#[]⟩⟩ c HC.out _ (by show (⟨#[]⟩ : ByteArray).size ≤ maxLen; decide) (by show (⟨#[]⟩ : ByteArray).size ≤ maxLen; decide)).mono ?_
      rintro e w3 ⟨rfl, hb3⟩
      refine hK.out _ _ (show Below wr.heap.size wr.drew w3 from hb3) ?_
      clear hK K
      repeat ((with_reducible show wpPerm _ _ _ _ ((_, true) :: _) _ _); (first | (refine wpPerm_on (v := ?_) rfl rfl (wanted_free rfl) (fun w' hS => ?_) ?_; rotate_left; (focus (go_simp; (try with_reducible rfl); done)); try simp only [List.setIfInBounds_toArray, List.set_cons_zero, List.set_cons_succ]) | (refine wpPerm_on (v := ?_) rfl rfl (wanted_yes rfl rfl rfl) (fun w' hS => ?_) ?_; rotate_left; (focus (go_simp; (try with_reducible rfl); done)); try simp only [List.setIfInBounds_toArray, List.set_cons_zero, List.set_cons_succ]) | (refine wpPerm_off rfl rfl (wanted_no rfl rfl rfl) ?_; try simp only [List.setIfInBounds_toArray, List.set_cons_zero, List.set_cons_succ]) | (refine wpPerm_off rfl rfl (wanted_undef rfl rfl rfl) ?_; try simp only [List.setIfInBounds_toArray, List.set_cons_zero, List.set_cons_succ])))
      refine wpPerm_done ?_
      clear D
      have hbk3 : Below W.heap.size W w3 := bch0 hbk (Below.trans (Below.refl _ _).drew hb3)
      go_wp2_with fail
      obtain ⟨W3, hW_, hbW3, BB⟩ : ∃ W_, W_ = (w3.alloc (.cells #[.bool (c == 0), .bool (c != 0), .bool (decide (c < 0)), .bool (decide (c ≤ 0)), .bool (decide (0 < c)), .bool (decide (0 ≤ c))] 4)) ∧ Below w3.heap.size w3 W_ ∧ Blk W_ (w3.heap.size) 4 #[.bool (c == 0), .bool (c != 0), .bool (decide (c < 0)), .bool (decide (c ≤ 0)), .bool (decide (0 < c)), .bool (decide (0 ≤ c))] :=
        ⟨_, rfl, ((Below.refl _ _).alloc (Nat.le_refl _) _), (blk_new_at w3 (w3.heap.size) _ _ (by simp))⟩
      rw [← hW_]
      clear hW_
      refine (withinr _ _ _ HR.out _ (by decide) (by decide) ho).mono ?_
      rintro e w4 ⟨rfl, rfl⟩
      have qw : W3.cell? ⟨w3.heap.size, r, none⟩ = some (.bool bv) := (BB.cell r).trans HANS.out
      have D := fun w' (h : Below W3.heap.size W3.drew w') => six0 (BR.ext (bch0 (bch0 hbk3 hbW3) (Below.trans (Below.refl _ _).drew h)))
      go_wp2_with fail
      clear qw
      refine wp_region_mix1 ⟨21, 15, fun g => .pointer (some ⟨g, 0, none⟩), .cells #[.int .i64 0, .int .i64 0, .string ⟨#[]⟩] 30⟩
        [(0, true), (1, true), (2, true), (3, true), (4, true), (5, true), (6, true), (7, true), (8, true), (9, true), (10, true), (11, true), (12, true)] [(13, false), (14, true), (15, true), (16, false), (17, false), (18, true), (19, true), (20, true)] [(22, false), (23, true)] (by kernel_rfl) (by kernel_rfl) ?_
      repeat ((with_reducible show wpI _ _ _ _ _ ((_, true) :: _) _ _); (first | (refine wpI_on (v := ?_) rfl rfl (wanted_free rfl) (fun w' hS => ?_) ?_; rotate_left; (focus (go_simp; (try with_reducible rfl); done)); try simp only [List.setIfInBounds_toArray, List.set_cons_zero, List.set_cons_succ]) | (refine wpI_on (v := ?_) rfl rfl (wanted_yes rfl rfl rfl) (fun w' hS => ?_) ?_; rotate_left; (focus (go_simp; (try with_reducible rfl); done)); try simp only [List.setIfInBounds_toArray, List.set_cons_zero, List.set_cons_succ]) | (refine wpI_off rfl rfl (wanted_no rfl rfl rfl) ?_; try simp only [List.setIfInBounds_toArray, List.set_cons_zero, List.set_cons_succ]) | (refine wpI_off rfl rfl (wanted_undef rfl rfl rfl) ?_; try simp only [List.setIfInBounds_toArray, List.set_cons_zero, List.set_cons_succ])))
      refine wpI_done ⟨?_, ?_⟩
      · intro t ht
        simp only [List.mem_cons, List.not_mem_nil, or_false] at ht
        subst ht
        exact ⟨_, rfl, rfl, wanted_free rfl, fun w => by go_simp⟩
      clear D
      refine wpI_do rfl (wanted_free rfl) (fun wI hI hSI K hK => ?_); go_simp
      refine (withinr _ _ _ HR.out _ (by decide) (by decide) ho).mono ?_
      rintro e w5 ⟨rfl, rfl⟩
      refine hK.out _ _ (Below.refl _ _) ?_
      clear hK K
      repeat ((with_reducible show wpI _ _ _ _ _ ((_, true) :: _) _ _); (first | (refine wpI_on (v := ?_) rfl rfl (wanted_free rfl) (fun w' hS => ?_) ?_; rotate_left; (focus (go_simp; (try with_reducible rfl); done)); try simp only [List.setIfInBounds_toArray, List.set_cons_zero, List.set_cons_succ]) | (refine wpI_on (v := ?_) rfl rfl (wanted_yes rfl rfl rfl) (fun w' hS => ?_) ?_; rotate_left; (focus (go_simp; (try with_reducible rfl); done)); try simp only [List.setIfInBounds_toArray, List.set_cons_zero, List.set_cons_succ]) | (refine wpI_off rfl rfl (wanted_no rfl rfl rfl) ?_; try simp only [List.setIfInBounds_toArray, List.set_cons_zero, List.set_cons_succ]) | (refine wpI_off rfl rfl (wanted_undef rfl rfl rfl) ?_; try simp only [List.setIfInBounds_toArray, List.set_cons_zero, List.set_cons_succ])))
      refine wpI_do rfl (wanted_free rfl) (fun wI hI hSI K hK => ?_); go_simp
      refine hK.out _ _ ((Below.refl _ _).alloc (Nat.le_refl _) _) ?_
      clear hK K
      have BE := Blk.new wI 36 #[.int .i64 1, .int .i64 0, .int .i64 0, .int .i64 2, .int .i64 a, .string ⟨#[]⟩, .string ⟨#[]⟩, .int .i64 1, .int .i64 0, .int .i64 0, .int .i64 2, .int .i64 b, .string ⟨#[]⟩, .string ⟨#[]⟩, .int .i64 (IntKind.i64.wrap (8 + (r : Int))), .int .i64 0, .int .i64 1, .int .i64 0, .int .i64 0, .string ⟨#[]⟩, .string ⟨#[]⟩]
      have e8 : IntKind.i64.wrap (8 + (r : Int)) = 8 + (r : Int) := IntWalk.i64_in _ ⟨by omega, by omega⟩
      refine wpI_do rfl (wanted_free rfl) (fun wI hI hSI K hK => ?_); go_simp
      have BE := BE.ext hI
      refine (ValueB [nv (⟨2, a, ByteArray.empty⟩ : V), nv (⟨2, b, ByteArray.empty⟩ : V), nb (8 + (r : Int)) 0 1] _ _ 3 3 _ _ _ _ HEV.out rfl BE (by rw [e8]; rfl) HF.out).mono ?_
      rintro e w6 ⟨rfl, hb6⟩
      refine hK.out _ _ hb6 ?_
      clear hK K
      repeat ((with_reducible show wpI _ _ _ _ _ ((_, true) :: _) _ _); (first | (refine wpI_on (v := ?_) rfl rfl (wanted_free rfl) (fun w' hS => ?_) ?_; rotate_left; (focus (go_simp; (try with_reducible rfl); done)); try simp only [List.setIfInBounds_toArray, List.set_cons_zero, List.set_cons_succ]) | (refine wpI_on (v := ?_) rfl rfl (wanted_yes rfl rfl rfl) (fun w' hS => ?_) ?_; rotate_left; (focus (go_simp; (try with_reducible rfl); done)); try simp only [List.setIfInBounds_toArray, List.set_cons_zero, List.set_cons_succ]) | (refine wpI_off rfl rfl (wanted_no rfl rfl rfl) ?_; try simp only [List.setIfInBounds_toArray, List.set_cons_zero, List.set_cons_succ]) | (refine wpI_off rfl rfl (wanted_undef rfl rfl rfl) ?_; try simp only [List.setIfInBounds_toArray, List.set_cons_zero, List.set_cons_succ])))
      refine wpI_done ?_
      intro g1 wf he hb hlo1 hhi1 hat1
      try simp only [List.setIfInBounds_toArray, List.set_cons_zero, List.set_cons_succ]
      have B1 : Blk wf g1 30 #[.int .i64 0, .int .i64 0, .string ⟨#[]⟩] := hat1
      clear hat1 BE
      have q := B1.three (Below.refl _ _)
      have f := B1.free3
      refine wpPerm_do rfl (wanted_free rfl) (fun K hK => ?_); go_simp
      clear q f
      obtain ⟨wA, hw, B1, hbw, hfar, hsz⟩ := B1.set3 (.int .i64 1) (.int .i64 nn) (.string ⟨#[]⟩)
      rw [← hw]
      clear hw
      have hb := Below.trans hb (hbw _ hlo1)
      refine hK.out _ _ hb ?_
      clear hK K
      repeat ((with_reducible show wpPerm _ _ _ _ ((_, true) :: _) _ _); (first | (refine wpPerm_on (v := ?_) rfl rfl (wanted_free rfl) (fun w' hS => ?_) ?_; rotate_left; (focus (go_simp; (try with_reducible rfl); done)); try simp only [List.setIfInBounds_toArray, List.set_cons_zero, List.set_cons_succ]) | (refine wpPerm_on (v := ?_) rfl rfl (wanted_yes rfl rfl rfl) (fun w' hS => ?_) ?_; rotate_left; (focus (go_simp; (try with_reducible rfl); done)); try simp only [List.setIfInBounds_toArray, List.set_cons_zero, List.set_cons_succ]) | (refine wpPerm_off rfl rfl (wanted_no rfl rfl rfl) ?_; try simp only [List.setIfInBounds_toArray, List.set_cons_zero, List.set_cons_succ]) | (refine wpPerm_off rfl rfl (wanted_undef rfl rfl rfl) ?_; try simp only [List.setIfInBounds_toArray, List.set_cons_zero, List.set_cons_succ])))
      refine wpPerm_done ?_
      have hbF : Below W.heap.size W wA := bch0 (bch0 hbk3 hbW3) (Below.trans (Below.refl _ _).drew hb)
      have q1 := B1.three (Below.refl _ _)
      have hcase : (bv = true ∧ nn = 1) ∨ (bv = false ∧ nn = 0) := by
        have := HNN.out
        cases bv
        · exact .inr ⟨rfl, this.symm⟩
        · exact .inl ⟨rfl, this.symm⟩
      clear HNN HANS HEV
      rcases hcase with ⟨rfl, rfl⟩ | ⟨rfl, rfl⟩
      all_goals
        go_wp2_with fail
        clear q1
        go_roundw
        case rel => exact ⟨1, by omega, by go_num, hbF⟩
        case measure => simp [intOf]
    · obtain ⟨c, hc⟩ : ∃ c, rcmpV (⟨3, 0, s⟩ : V) (⟨3, 0, t⟩ : V) = c := ⟨_, rfl⟩
      obtain ⟨bv, hbv⟩ : ∃ bv, opcode (8 + (r : Int)) c 0 = bv := ⟨_, rfl⟩
      obtain ⟨nn, hnn⟩ : ∃ nn : Int, (if bv then 1 else 0) = nn := ⟨_, rfl⟩
      have HEV := Lib.hid (show EvV [nv (⟨3, 0, s⟩ : V), nv (⟨3, 0, t⟩ : V), nb (8 + (r : Int)) 0 1] = .tuple #[.agg #[.int .i64 1, .int .i64 nn, .string ⟨#[]⟩], .int .i64 0] by
        rw [evCmp (8 + (r : Int)) (u := (⟨3, 0, s⟩ : V)) (v := (⟨3, 0, t⟩ : V)) ⟨by omega, by omega⟩ (.inr ⟨rfl, rfl, hs⟩) (.inr ⟨rfl, rfl, ht⟩) rfl, hc, hbv, hnn])
      have HANS := Lib.hid (show (#[.bool (c == 0), .bool (c != 0), .bool (decide (c < 0)), .bool (decide (c ≤ 0)), .bool (decide (0 < c)), .bool (decide (0 ≤ c))] : Array Value)[r]? = some (.bool bv) by rw [← hbv]; exact ans_cell c r hr6)
      have HNN := Lib.hid hnn
      have HC := Lib.hid hc
      have HF := Lib.hid (cmp_fine (u := (⟨3, 0, s⟩ : V)) (v := (⟨3, 0, t⟩ : V)) (8 + (r : Int)) (by omega) (by show s.size ≤ maxLen; unfold maxLen; omega) (by show t.size ≤ maxLen; unfold maxLen; omega) ok0 ok0)
      clear hc hbv hnn
      have D := fun w' (h : Below wr.heap.size wr.drew w') => six1 (BR.ext (bch0 hbk (Below.trans (Below.refl _ _).drew h)))
      go_wp2_with fail
      refine wp_region_one [(0, true), (1, true), (2, true), (3, true), (4, true), (5, true), (6, true), (7, true), (8, true), (9, true), (10, false), (11, true)] (by kernel_rfl) (by kernel_rfl) (by kernel_rfl) (by decide) ?_
      repeat ((with_reducible show wpPerm _ _ _ _ ((_, true) :: _) _ _); (first | (refine wpPerm_on (v := ?_) rfl rfl (wanted_free rfl) (fun w' hS => ?_) ?_; rotate_left; (focus (go_simp; (try with_reducible rfl); done)); try simp only [List.setIfInBounds_toArray, List.set_cons_zero, List.set_cons_succ]) | (refine wpPerm_on (v := ?_) rfl rfl (wanted_yes rfl rfl rfl) (fun w' hS => ?_) ?_; rotate_left; (focus (go_simp; (try with_reducible rfl); done)); try simp only [List.setIfInBounds_toArray, List.set_cons_zero, List.set_cons_succ]) | (refine wpPerm_off rfl rfl (wanted_no rfl rfl rfl) ?_; try simp only [List.setIfInBounds_toArray, List.set_cons_zero, List.set_cons_succ]) | (refine wpPerm_off rfl rfl (wanted_undef rfl rfl rfl) ?_; try simp only [List.setIfInBounds_toArray, List.set_cons_zero, List.set_cons_succ])))
      refine wpPerm_do rfl (wanted_free rfl) (fun K hK => ?_); go_simp
      refine (rcmp_r ⟨3, 0, s⟩ ⟨3, 0, t⟩ c HC.out _ (by show s.size ≤ maxLen; unfold maxLen; omega) (by show t.size ≤ maxLen; unfold maxLen; omega)).mono ?_
      rintro e w3 ⟨rfl, hb3⟩
      refine hK.out _ _ (show Below wr.heap.size wr.drew w3 from hb3) ?_
      clear hK K
      repeat ((with_reducible show wpPerm _ _ _ _ ((_, true) :: _) _ _); (first | (refine wpPerm_on (v := ?_) rfl rfl (wanted_free rfl) (fun w' hS => ?_) ?_; rotate_left; (focus (go_simp; (try with_reducible rfl); done)); try simp only [List.setIfInBounds_toArray, List.set_cons_zero, List.set_cons_succ]) | (refine wpPerm_on (v := ?_) rfl rfl (wanted_yes rfl rfl rfl) (fun w' hS => ?_) ?_; rotate_left; (focus (go_simp; (try with_reducible rfl); done)); try simp only [List.setIfInBounds_toArray, List.set_cons_zero, List.set_cons_succ]) | (refine wpPerm_off rfl rfl (wanted_no rfl rfl rfl) ?_; try simp only [List.setIfInBounds_toArray, List.set_cons_zero, List.set_cons_succ]) | (refine wpPerm_off rfl rfl (wanted_undef rfl rfl rfl) ?_; try simp only [List.setIfInBounds_toArray, List.set_cons_zero, List.set_cons_succ])))
      refine wpPerm_done ?_
      clear D
      have hbk3 : Below W.heap.size W w3 := bch0 hbk (Below.trans (Below.refl _ _).drew hb3)
      go_wp2_with fail
      obtain ⟨W3, hW_, hbW3, BB⟩ : ∃ W_, W_ = (w3.alloc (.cells #[.bool (c == 0), .bool (c != 0), .bool (decide (c < 0)), .bool (decide (c ≤ 0)), .bool (decide (0 < c)), .bool (decide (0 ≤ c))] 4)) ∧ Below w3.heap.size w3 W_ ∧ Blk W_ (w3.heap.size) 4 #[.bool (c == 0), .bool (c != 0), .bool (decide (c < 0)), .bool (decide (c ≤ 0)), .bool (decide (0 < c)), .bool (decide (0 ≤ c))] :=
        ⟨_, rfl, ((Below.refl _ _).alloc (Nat.le_refl _) _), (blk_new_at w3 (w3.heap.size) _ _ (by simp))⟩
      rw [← hW_]
      clear hW_
      refine (withinr _ _ _ HR.out _ (by decide) (by decide) ho).mono ?_
      rintro e w4 ⟨rfl, rfl⟩
      have qw : W3.cell? ⟨w3.heap.size, r, none⟩ = some (.bool bv) := (BB.cell r).trans HANS.out
      have D := fun w' (h : Below W3.heap.size W3.drew w') => six1 (BR.ext (bch0 (bch0 hbk3 hbW3) (Below.trans (Below.refl _ _).drew h)))
      go_wp2_with fail
      clear qw
      refine wp_region_mix1 ⟨21, 15, fun g => .pointer (some ⟨g, 0, none⟩), .cells #[.int .i64 0, .int .i64 0, .string ⟨#[]⟩] 30⟩
        [(0, true), (1, true), (2, true), (3, true), (4, true), (5, true), (6, true), (7, true), (8, true), (9, true), (10, true), (11, true), (12, true)] [(13, false), (14, true), (15, true), (16, false), (17, false), (18, true), (19, true), (20, true)] [(22, false), (23, true)] (by kernel_rfl) (by kernel_rfl) ?_
      repeat ((with_reducible show wpI _ _ _ _ _ ((_, true) :: _) _ _); (first | (refine wpI_on (v := ?_) rfl rfl (wanted_free rfl) (fun w' hS => ?_) ?_; rotate_left; (focus (go_simp; (try with_reducible rfl); done)); try simp only [List.setIfInBounds_toArray, List.set_cons_zero, List.set_cons_succ]) | (refine wpI_on (v := ?_) rfl rfl (wanted_yes rfl rfl rfl) (fun w' hS => ?_) ?_; rotate_left; (focus (go_simp; (try with_reducible rfl); done)); try simp only [List.setIfInBounds_toArray, List.set_cons_zero, List.set_cons_succ]) | (refine wpI_off rfl rfl (wanted_no rfl rfl rfl) ?_; try simp only [List.setIfInBounds_toArray, List.set_cons_zero, List.set_cons_succ]) | (refine wpI_off rfl rfl (wanted_undef rfl rfl rfl) ?_; try simp only [List.setIfInBounds_toArray, List.set_cons_zero, List.set_cons_succ])))
      refine wpI_done ⟨?_, ?_⟩
      · intro t ht
        simp only [List.mem_cons, List.not_mem_nil, or_false] at ht
        subst ht
        exact ⟨_, rfl, rfl, wanted_free rfl, fun w => by go_simp⟩
      clear D
      refine wpI_do rfl (wanted_free rfl) (fun wI hI hSI K hK => ?_); go_simp
      refine (withinr _ _ _ HR.out _ (by decide) (by decide) ho).mono ?_
      rintro e w5 ⟨rfl, rfl⟩
      refine hK.out _ _ (Below.refl _ _) ?_
      clear hK K
      repeat ((with_reducible show wpI _ _ _ _ _ ((_, true) :: _) _ _); (first | (refine wpI_on (v := ?_) rfl rfl (wanted_free rfl) (fun w' hS => ?_) ?_; rotate_left; (focus (go_simp; (try with_reducible rfl); done)); try simp only [List.setIfInBounds_toArray, List.set_cons_zero, List.set_cons_succ]) | (refine wpI_on (v := ?_) rfl rfl (wanted_yes rfl rfl rfl) (fun w' hS => ?_) ?_; rotate_left; (focus (go_simp; (try with_reducible rfl); done)); try simp only [List.setIfInBounds_toArray, List.set_cons_zero, List.set_cons_succ]) | (refine wpI_off rfl rfl (wanted_no rfl rfl rfl) ?_; try simp only [List.setIfInBounds_toArray, List.set_cons_zero, List.set_cons_succ]) | (refine wpI_off rfl rfl (wanted_undef rfl rfl rfl) ?_; try simp only [List.setIfInBounds_toArray, List.set_cons_zero, List.set_cons_succ])))
      refine wpI_do rfl (wanted_free rfl) (fun wI hI hSI K hK => ?_); go_simp
      refine hK.out _ _ ((Below.refl _ _).alloc (Nat.le_refl _) _) ?_
      clear hK K
      have BE := Blk.new wI 36 #[.int .i64 1, .int .i64 0, .int .i64 0, .int .i64 3, .int .i64 0, .string s, .string ⟨#[]⟩, .int .i64 1, .int .i64 0, .int .i64 0, .int .i64 3, .int .i64 0, .string t, .string ⟨#[]⟩, .int .i64 (IntKind.i64.wrap (8 + (r : Int))), .int .i64 0, .int .i64 1, .int .i64 0, .int .i64 0, .string ⟨#[]⟩, .string ⟨#[]⟩]
      have e8 : IntKind.i64.wrap (8 + (r : Int)) = 8 + (r : Int) := IntWalk.i64_in _ ⟨by omega, by omega⟩
      refine wpI_do rfl (wanted_free rfl) (fun wI hI hSI K hK => ?_); go_simp
      have BE := BE.ext hI
      refine (ValueB [nv (⟨3, 0, s⟩ : V), nv (⟨3, 0, t⟩ : V), nb (8 + (r : Int)) 0 1] _ _ 3 3 _ _ _ _ HEV.out rfl BE (by rw [e8]; rfl) HF.out).mono ?_
      rintro e w6 ⟨rfl, hb6⟩
      refine hK.out _ _ hb6 ?_
      clear hK K
      repeat ((with_reducible show wpI _ _ _ _ _ ((_, true) :: _) _ _); (first | (refine wpI_on (v := ?_) rfl rfl (wanted_free rfl) (fun w' hS => ?_) ?_; rotate_left; (focus (go_simp; (try with_reducible rfl); done)); try simp only [List.setIfInBounds_toArray, List.set_cons_zero, List.set_cons_succ]) | (refine wpI_on (v := ?_) rfl rfl (wanted_yes rfl rfl rfl) (fun w' hS => ?_) ?_; rotate_left; (focus (go_simp; (try with_reducible rfl); done)); try simp only [List.setIfInBounds_toArray, List.set_cons_zero, List.set_cons_succ]) | (refine wpI_off rfl rfl (wanted_no rfl rfl rfl) ?_; try simp only [List.setIfInBounds_toArray, List.set_cons_zero, List.set_cons_succ]) | (refine wpI_off rfl rfl (wanted_undef rfl rfl rfl) ?_; try simp only [List.setIfInBounds_toArray, List.set_cons_zero, List.set_cons_succ])))
      refine wpI_done ?_
      intro g1 wf he hb hlo1 hhi1 hat1
      try simp only [List.setIfInBounds_toArray, List.set_cons_zero, List.set_cons_succ]
      have B1 : Blk wf g1 30 #[.int .i64 0, .int .i64 0, .string ⟨#[]⟩] := hat1
      clear hat1 BE
      have q := B1.three (Below.refl _ _)
      have f := B1.free3
      refine wpPerm_do rfl (wanted_free rfl) (fun K hK => ?_); go_simp
      clear q f
      obtain ⟨wA, hw, B1, hbw, hfar, hsz⟩ := B1.set3 (.int .i64 1) (.int .i64 nn) (.string ⟨#[]⟩)
      rw [← hw]
      clear hw
      have hb := Below.trans hb (hbw _ hlo1)
      refine hK.out _ _ hb ?_
      clear hK K
      repeat ((with_reducible show wpPerm _ _ _ _ ((_, true) :: _) _ _); (first | (refine wpPerm_on (v := ?_) rfl rfl (wanted_free rfl) (fun w' hS => ?_) ?_; rotate_left; (focus (go_simp; (try with_reducible rfl); done)); try simp only [List.setIfInBounds_toArray, List.set_cons_zero, List.set_cons_succ]) | (refine wpPerm_on (v := ?_) rfl rfl (wanted_yes rfl rfl rfl) (fun w' hS => ?_) ?_; rotate_left; (focus (go_simp; (try with_reducible rfl); done)); try simp only [List.setIfInBounds_toArray, List.set_cons_zero, List.set_cons_succ]) | (refine wpPerm_off rfl rfl (wanted_no rfl rfl rfl) ?_; try simp only [List.setIfInBounds_toArray, List.set_cons_zero, List.set_cons_succ]) | (refine wpPerm_off rfl rfl (wanted_undef rfl rfl rfl) ?_; try simp only [List.setIfInBounds_toArray, List.set_cons_zero, List.set_cons_succ])))
      refine wpPerm_done ?_
      have hbF : Below W.heap.size W wA := bch0 (bch0 hbk3 hbW3) (Below.trans (Below.refl _ _).drew hb)
      have q1 := B1.three (Below.refl _ _)
      have hcase : (bv = true ∧ nn = 1) ∨ (bv = false ∧ nn = 0) := by
        have := HNN.out
        cases bv
        · exact .inr ⟨rfl, this.symm⟩
        · exact .inl ⟨rfl, this.symm⟩
      clear HNN HANS HEV
      rcases hcase with ⟨rfl, rfl⟩ | ⟨rfl, rfl⟩
      all_goals
        go_wp2_with fail
        clear q1
        go_roundw
        case rel => exact ⟨2, by omega, by go_num, hbF⟩
        case measure => simp [intOf]
    · go_wp2
      go_ret
      exact ⟨rfl, bch0 hb1 (bch0 hbW hbk)⟩
end Go.Proofs.Ytfgmlgflfagdjaa.ev
