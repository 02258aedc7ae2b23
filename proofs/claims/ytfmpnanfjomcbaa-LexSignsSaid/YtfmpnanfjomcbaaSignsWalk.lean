/- The walk of LexSigns. -/
import Derived.Test.YtfmpnanfjomcbaaNumsPlain
namespace Go.Proofs.Ytfmpnanfjomcbaa.lx
open Go.ChangeShapes Go.WideShapes Go.ChangeAt Go.RowKit Go.Proofs.Ytfmpnanfjomcbaa.lib
set_option linter.unusedVariables false

def sgs : List UInt8 := [40, 41, 44, 46, 42, 61, 60, 62, 43, 45]
theorem sgs_sign {x : UInt8} {i : Nat} (h : sgs[i]? = some x) : signB x = true := by
  have : x ∈ sgs := List.mem_of_getElem? h
  unfold signB
  rw [List.contains_iff_mem]
  exact this
theorem words_pair (x y : UInt8) (hx : signB x = true) (hy : signB y = true) (h : twoB [x, y] = false) : wordsL [x, y] = (0, [⟨4, 0, [x]⟩, ⟨4, 0, [y]⟩, endW]) := by
  have hl := sign_cases x
  rw [hx] at hl
  simp at hl
  obtain ⟨⟨⟨h1, h2⟩, h3⟩, h4⟩ := hl
  have e1 : stepL [x, y] = .put ⟨4, 0, [x]⟩ [y] := by
    rw [stepL, if_neg (by rw [h1]; decide), if_neg (by rw [h2]; decide), if_neg (by rw [h3]; decide), if_neg h4, if_neg (by rw [h]; decide), if_pos hx]
  have e2 : stepL [y] = .put ⟨4, 0, [y]⟩ [] := step_rend ⟨4, 0, [y]⟩ [] (.inr (.inr (.inr ⟨rfl, rfl, .inl ⟨y, rfl, hy⟩⟩))) (fun c q e => by cases e)
  unfold wordsL
  rw [if_neg (by simp), lexL_put [] e1, lexL_put _ e2, lexL_nil]
  rfl
theorem words_apart (x y : UInt8) (hx : signB x = true) (hy : signB y = true) : wordsL [x, 32, y] = (0, [⟨4, 0, [x]⟩, ⟨4, 0, [y]⟩, endW]) := by
  have e1 : stepL [x, 32, y] = .put ⟨4, 0, [x]⟩ [32, y] := step_rend ⟨4, 0, [x]⟩ [32, y] (.inr (.inr (.inr ⟨rfl, rfl, .inl ⟨x, rfl, hx⟩⟩))) (fun c q e => by injection e with e _; subst e; rfl)
  have e2 : stepL [y] = .put ⟨4, 0, [y]⟩ [] := step_rend ⟨4, 0, [y]⟩ [] (.inr (.inr (.inr ⟨rfl, rfl, .inl ⟨y, rfl, hy⟩⟩))) (fun c q e => by cases e)
  have e3 : stepL [32, y] = .skip [y] := rfl
  unfold wordsL
  rw [if_neg (by simp), lexL_put [] e1, lexL_skip _ e3, lexL_put _ e2, lexL_nil]
  rfl
theorem words_two (x y : UInt8) (h : twoB [x, y] = true) : wordsL [x, y] = (0, [⟨4, 0, [x, y]⟩, endW]) := by
  have e1 : stepL [x, y] = .put ⟨4, 0, [x, y]⟩ [] := step_rend ⟨4, 0, [x, y]⟩ [] (.inr (.inr (.inr ⟨rfl, rfl, .inr ⟨x, y, rfl, h⟩⟩))) (fun c q e => by cases e)
  unfold wordsL
  rw [if_neg (by simp), lexL_put [] e1, lexL_nil]
  rfl
def sgV : Array Value := #[.string ⟨#[40]⟩, .string ⟨#[41]⟩, .string ⟨#[44]⟩, .string ⟨#[46]⟩, .string ⟨#[42]⟩, .string ⟨#[61]⟩, .string ⟨#[60]⟩, .string ⟨#[62]⟩, .string ⟨#[43]⟩, .string ⟨#[45]⟩]
theorem sgV_at {i : Nat} {x : UInt8} (h : sgs[i]? = some x) : sgV[i]? = some (.string ⟨#[x]⟩) := by
  have e : sgV = (sgs.map fun c => Value.string ⟨#[c]⟩).toArray := rfl
  rw [e]
  simp [h]

set_option maxRecDepth 1000000 in
set_option maxHeartbeats 4000000 in
theorem signs_no (a b : Int) (i j : Nat) (x y : UInt8) (w : World) (ha : Hid (a % 10 = i)) (hb : Hid (b % 10 = j)) (hi : i < 10) (hj : j < 10) (hx : Hid (sgs[i]? = some x)) (hy : Hid (sgs[j]? = some y)) (h2 : Hid (twoB [x, y] = false))
    (pa1 : -9223372036854775808 ≤ a) (pa2 : a ≤ 9223372036854775807) (pb1 : -9223372036854775808 ≤ b) (pb2 : b ≤ 9223372036854775807) :
    Calls Try.prog 7 #[.int .i64 a, .int .i64 b] w fun e w' => e = .returned (.bool true) ∧ Below w.heap.size w w' := by
  obtain ⟨X, hX⟩ : ∃ X : ByteArray, X = ⟨#[x]⟩ := ⟨_, rfl⟩
  obtain ⟨Y, hY⟩ : ∃ Y : ByteArray, Y = ⟨#[y]⟩ := ⟨_, rfl⟩
  have sX : X.size ≤ 1 := by rw [hX]; exact Nat.le_refl _
  have sY : Y.size ≤ 1 := by rw [hY]; exact Nat.le_refl _
  have sXY : (X ++ Y).size ≤ 2 := by rw [ByteArray.size_append]; omega
  have sX_ : (X ++ ByteArray.mk #[32]).size ≤ 2 := by rw [ByteArray.size_append]; show _ + 1 ≤ _; omega
  have sXY_ : (X ++ ByteArray.mk #[32] ++ Y).size ≤ 3 := by rw [ByteArray.size_append]; omega
  have hmx : (1000 : Nat) ≤ maxLen := by decide
  have HX := Lib.hid hX
  have HY := Lib.hid hY
  have P1 := Lib.hid (words_pair x y (sgs_sign hx.out) (sgs_sign hy.out) h2.out)
  have P2 := Lib.hid (words_apart x y (sgs_sign hx.out) (sgs_sign hy.out))
  have L1 : Hid ((X ++ Y).data.toList = [x, y]) := Lib.hid (by rw [hX, hY]; rfl)
  have L2 : Hid ((X ++ ByteArray.mk #[32] ++ Y).data.toList = [x, 32, y]) := Lib.hid (by rw [hX, hY]; rfl)
  have CX := fun (w' : World) (g : Nat) (h : Blk w' g 9 sgV) => (show w'.cell? ⟨g, i, none⟩ = some (.string X) by rw [h.cell, sgV_at hx.out, hX])
  have CY := fun (w' : World) (g : Nat) (h : Blk w' g 9 sgV) => (show w'.cell? ⟨g, j, none⟩ = some (.string Y) by rw [h.cell, sgV_at hy.out, hY])
  have hi1 : (i : Int) < 10 := by omega
  have hj1 : (j : Int) < 10 := by omega
  have HCX := Lib.hid CX
  have HCY := Lib.hid CY
  obtain ⟨b1, hb1'⟩ : ∃ b1, ((X ++ Y).toList == [60, 62]) = b1 := ⟨_, rfl⟩
  obtain ⟨b2, hb2'⟩ : ∃ b2, ((X ++ Y).toList == [60, 61]) = b2 := ⟨_, rfl⟩
  obtain ⟨b3, hb3'⟩ : ∃ b3, ((X ++ Y).toList == [62, 61]) = b3 := ⟨_, rfl⟩
  have HB : Hid ((b1 || b2 || b3) = false) := Lib.hid (by
    rw [← hb1', ← hb2', ← hb3', ByteArray.toList_eq, hX, hY, ← h2.out]
    show (([x, y] == [60, 62]) || ([x, y] == [60, 61]) || ([x, y] == [62, 61])) = _
    unfold twoB
    simp)
  have T1 := Lib.hid hb1'
  have T2 := Lib.hid hb2'
  have T3 := Lib.hid hb3'
  clear hX hY CX CY hb1' hb2' hb3'
  go_enter Try.func7, Try.ntmps7
  go_wp2_with fail
  refine (known _).mono ?_
  rintro e w1 ⟨rfl, hb1⟩
  go_wp2_with fail
  obtain ⟨W, hW_, hbW, B1⟩ : ∃ W_, W_ = (w1.alloc (.cells #[.string ⟨#[40]⟩, .string ⟨#[41]⟩, .string ⟨#[44]⟩, .string ⟨#[46]⟩, .string ⟨#[42]⟩, .string ⟨#[61]⟩, .string ⟨#[60]⟩, .string ⟨#[62]⟩, .string ⟨#[43]⟩, .string ⟨#[45]⟩] 9)) ∧ Below w1.heap.size w1 W_ ∧ Blk W_ (w1.heap.size) 9 #[.string ⟨#[40]⟩, .string ⟨#[41]⟩, .string ⟨#[44]⟩, .string ⟨#[46]⟩, .string ⟨#[42]⟩, .string ⟨#[61]⟩, .string ⟨#[60]⟩, .string ⟨#[62]⟩, .string ⟨#[43]⟩, .string ⟨#[45]⟩] :=
    ⟨_, rfl, ((Below.refl _ _).alloc (Nat.le_refl _) _), (blk_new_at w1 (w1.heap.size) _ _ (by simp))⟩
  rw [← hW_]
  clear hW_
  have D := fun w' (h : Below W.heap.size W.drew w') => HCX.out w' w1.heap.size (B1.ext (Below.trans (Below.refl _ _).drew h))
  have D2 := fun w' (h : Below W.heap.size W.drew w') => HCY.out w' w1.heap.size (B1.ext (Below.trans (Below.refl _ _).drew h))
  refine wp_region_one [(0, true), (1, true), (5, true), (6, true), (2, false), (3, true), (4, true), (7, false), (8, true), (9, true), (10, true), (11, true)] (by kernel_rfl) (by kernel_rfl) (by kernel_rfl) (by decide) ?_
  repeat ((with_reducible show wpPerm _ _ _ _ ((_, true) :: _) _ _); (first | (refine wpPerm_on (v := ?_) rfl rfl (wanted_free rfl) (fun w' hS => ?_) ?_; rotate_left; (focus (go_simp; (try with_reducible rfl); done)); try simp only [Act.put, List.setIfInBounds_toArray, List.set_cons_zero, List.set_cons_succ]) | (refine wpPerm_on (v := ?_) rfl rfl (wanted_yes rfl rfl rfl) (fun w' hS => ?_) ?_; rotate_left; (focus (go_simp; (try with_reducible rfl); done)); try simp only [Act.put, List.setIfInBounds_toArray, List.set_cons_zero, List.set_cons_succ]) | (refine wpPerm_off rfl rfl (wanted_no rfl rfl rfl) ?_; try simp only [Act.put, List.setIfInBounds_toArray, List.set_cons_zero, List.set_cons_succ]) | (refine wpPerm_off rfl rfl (wanted_undef rfl rfl rfl) ?_; try simp only [Act.put, List.setIfInBounds_toArray, List.set_cons_zero, List.set_cons_succ])))
  refine wpPerm_do rfl (wanted_free rfl) (fun K hK => ?_); go_simp
  refine (within a 10 i ha.out _ (by decide) (by decide) pa1 pa2).mono ?_
  rintro e w3 ⟨rfl, rfl⟩
  refine hK.out _ _ (Below.refl _ _) ?_
  clear hK K
  repeat ((with_reducible show wpPerm _ _ _ _ ((_, true) :: _) _ _); (first | (refine wpPerm_on (v := ?_) rfl rfl (wanted_free rfl) (fun w' hS => ?_) ?_; rotate_left; (focus (go_simp; (try with_reducible rfl); done)); try simp only [Act.put, List.setIfInBounds_toArray, List.set_cons_zero, List.set_cons_succ]) | (refine wpPerm_on (v := ?_) rfl rfl (wanted_yes rfl rfl rfl) (fun w' hS => ?_) ?_; rotate_left; (focus (go_simp; (try with_reducible rfl); done)); try simp only [Act.put, List.setIfInBounds_toArray, List.set_cons_zero, List.set_cons_succ]) | (refine wpPerm_off rfl rfl (wanted_no rfl rfl rfl) ?_; try simp only [Act.put, List.setIfInBounds_toArray, List.set_cons_zero, List.set_cons_succ]) | (refine wpPerm_off rfl rfl (wanted_undef rfl rfl rfl) ?_; try simp only [Act.put, List.setIfInBounds_toArray, List.set_cons_zero, List.set_cons_succ])))
  refine wpPerm_do rfl (wanted_free rfl) (fun K hK => ?_); go_simp
  refine (within b 10 j hb.out _ (by decide) (by decide) pb1 pb2).mono ?_
  rintro e w3 ⟨rfl, rfl⟩
  refine hK.out _ _ (Below.refl _ _) ?_
  clear hK K
  repeat ((with_reducible show wpPerm _ _ _ _ ((_, true) :: _) _ _); (first | (refine wpPerm_on (v := ?_) rfl rfl (wanted_free rfl) (fun w' hS => ?_) ?_; rotate_left; (focus (go_simp; (try with_reducible rfl); done)); try simp only [Act.put, List.setIfInBounds_toArray, List.set_cons_zero, List.set_cons_succ]) | (refine wpPerm_on (v := ?_) rfl rfl (wanted_yes rfl rfl rfl) (fun w' hS => ?_) ?_; rotate_left; (focus (go_simp; (try with_reducible rfl); done)); try simp only [Act.put, List.setIfInBounds_toArray, List.set_cons_zero, List.set_cons_succ]) | (refine wpPerm_off rfl rfl (wanted_no rfl rfl rfl) ?_; try simp only [Act.put, List.setIfInBounds_toArray, List.set_cons_zero, List.set_cons_succ]) | (refine wpPerm_off rfl rfl (wanted_undef rfl rfl rfl) ?_; try simp only [Act.put, List.setIfInBounds_toArray, List.set_cons_zero, List.set_cons_succ])))
  refine wpPerm_done ?_
  clear D D2
  go_wp2_with fail
  refine (words0 _ _ _ 3 _ L1.out P1.out rfl (by omega) (by omega)).mono ?_
  rintro r w3 ⟨g, c, rfl, hW, hb3⟩
  go_wp2_with fail
  refine (words0 _ _ _ 3 _ L2.out P2.out rfl (by omega) (by omega)).mono ?_
  rintro r w4 ⟨g4, c4, rfl, hW4, hb4⟩
  have q0 : w4.cell? ⟨g, 0, none⟩ = some (.int .i64 4) := ((hW.ext hb4).at_ (i := 0) rfl).1
  have q1 : w4.cell? ⟨g4, 2, none⟩ = some (.string X) := by rw [HX.out]; exact (hW4.at_ (i := 0) rfl).2.2
  have q2 : w4.cell? ⟨g4, 5, none⟩ = some (.string Y) := by rw [HY.out]; exact (hW4.at_ (i := 1) rfl).2.2
  have eX : (X.toList == X.toList) = true := beq_self_eq_true _
  have eY : (Y.toList == Y.toList) = true := beq_self_eq_true _
  have t1 := T1.out
  have t2 := T2.out
  have t3 := T3.out
  have hB := HB.out
  obtain ⟨⟨rfl, rfl⟩, rfl⟩ : (b1 = false ∧ b2 = false) ∧ b3 = false := by simpa using hB
  clear hB
  go_wp2
  go_ret
  exact ⟨rfl, bch0 hb1 (bch0 hbW (bch0 (Below.trans (Below.refl _ _).drew hb3) hb4))⟩

set_option maxRecDepth 1000000 in
set_option maxHeartbeats 4000000 in
theorem signs_yes (a b : Int) (i j : Nat) (x y : UInt8) (w : World) (ha : Hid (a % 10 = i)) (hb : Hid (b % 10 = j)) (hi : i < 10) (hj : j < 10) (hx : Hid (sgs[i]? = some x)) (hy : Hid (sgs[j]? = some y)) (h2 : Hid (twoB [x, y] = true))
    (pa1 : -9223372036854775808 ≤ a) (pa2 : a ≤ 9223372036854775807) (pb1 : -9223372036854775808 ≤ b) (pb2 : b ≤ 9223372036854775807) :
    Calls Try.prog 7 #[.int .i64 a, .int .i64 b] w fun e w' => e = .returned (.bool true) ∧ Below w.heap.size w w' := by
  obtain ⟨X, hX⟩ : ∃ X : ByteArray, X = ⟨#[x]⟩ := ⟨_, rfl⟩
  obtain ⟨Y, hY⟩ : ∃ Y : ByteArray, Y = ⟨#[y]⟩ := ⟨_, rfl⟩
  have sX : X.size ≤ 1 := by rw [hX]; exact Nat.le_refl _
  have sY : Y.size ≤ 1 := by rw [hY]; exact Nat.le_refl _
  have sXY : (X ++ Y).size ≤ 2 := by rw [ByteArray.size_append]; omega
  have sX_ : (X ++ ByteArray.mk #[32]).size ≤ 2 := by rw [ByteArray.size_append]; show _ + 1 ≤ _; omega
  have sXY_ : (X ++ ByteArray.mk #[32] ++ Y).size ≤ 3 := by rw [ByteArray.size_append]; omega
  have hmx : (1000 : Nat) ≤ maxLen := by decide
  have HX := Lib.hid hX
  have HY := Lib.hid hY
  have P1 := Lib.hid (words_two x y h2.out)
  have P2 := Lib.hid (words_apart x y (sgs_sign hx.out) (sgs_sign hy.out))
  have L1 : Hid ((X ++ Y).data.toList = [x, y]) := Lib.hid (by rw [hX, hY]; rfl)
  have L2 : Hid ((X ++ ByteArray.mk #[32] ++ Y).data.toList = [x, 32, y]) := Lib.hid (by rw [hX, hY]; rfl)
  have CX := fun (w' : World) (g : Nat) (h : Blk w' g 9 sgV) => (show w'.cell? ⟨g, i, none⟩ = some (.string X) by rw [h.cell, sgV_at hx.out, hX])
  have CY := fun (w' : World) (g : Nat) (h : Blk w' g 9 sgV) => (show w'.cell? ⟨g, j, none⟩ = some (.string Y) by rw [h.cell, sgV_at hy.out, hY])
  have hi1 : (i : Int) < 10 := by omega
  have hj1 : (j : Int) < 10 := by omega
  have HCX := Lib.hid CX
  have HCY := Lib.hid CY
  obtain ⟨b1, hb1'⟩ : ∃ b1, ((X ++ Y).toList == [60, 62]) = b1 := ⟨_, rfl⟩
  obtain ⟨b2, hb2'⟩ : ∃ b2, ((X ++ Y).toList == [60, 61]) = b2 := ⟨_, rfl⟩
  obtain ⟨b3, hb3'⟩ : ∃ b3, ((X ++ Y).toList == [62, 61]) = b3 := ⟨_, rfl⟩
  have HB : Hid ((b1 || b2 || b3) = true) := Lib.hid (by
    rw [← hb1', ← hb2', ← hb3', ByteArray.toList_eq, hX, hY, ← h2.out]
    show (([x, y] == [60, 62]) || ([x, y] == [60, 61]) || ([x, y] == [62, 61])) = _
    unfold twoB
    simp)
  have T1 := Lib.hid hb1'
  have T2 := Lib.hid hb2'
  have T3 := Lib.hid hb3'
  clear hX hY CX CY hb1' hb2' hb3'
  go_enter Try.func7, Try.ntmps7
  go_wp2_with fail
  refine (known _).mono ?_
  rintro e w1 ⟨rfl, hb1⟩
  go_wp2_with fail
  obtain ⟨W, hW_, hbW, B1⟩ : ∃ W_, W_ = (w1.alloc (.cells #[.string ⟨#[40]⟩, .string ⟨#[41]⟩, .string ⟨#[44]⟩, .string ⟨#[46]⟩, .string ⟨#[42]⟩, .string ⟨#[61]⟩, .string ⟨#[60]⟩, .string ⟨#[62]⟩, .string ⟨#[43]⟩, .string ⟨#[45]⟩] 9)) ∧ Below w1.heap.size w1 W_ ∧ Blk W_ (w1.heap.size) 9 #[.string ⟨#[40]⟩, .string ⟨#[41]⟩, .string ⟨#[44]⟩, .string ⟨#[46]⟩, .string ⟨#[42]⟩, .string ⟨#[61]⟩, .string ⟨#[60]⟩, .string ⟨#[62]⟩, .string ⟨#[43]⟩, .string ⟨#[45]⟩] :=
    ⟨_, rfl, ((Below.refl _ _).alloc (Nat.le_refl _) _), (blk_new_at w1 (w1.heap.size) _ _ (by simp))⟩
  rw [← hW_]
  clear hW_
  have D := fun w' (h : Below W.heap.size W.drew w') => HCX.out w' w1.heap.size (B1.ext (Below.trans (Below.refl _ _).drew h))
  have D2 := fun w' (h : Below W.heap.size W.drew w') => HCY.out w' w1.heap.size (B1.ext (Below.trans (Below.refl _ _).drew h))
  refine wp_region_one [(0, true), (1, true), (5, true), (6, true), (2, false), (3, true), (4, true), (7, false), (8, true), (9, true), (10, true), (11, true)] (by kernel_rfl) (by kernel_rfl) (by kernel_rfl) (by decide) ?_
  repeat ((with_reducible show wpPerm _ _ _ _ ((_, true) :: _) _ _); (first | (refine wpPerm_on (v := ?_) rfl rfl (wanted_free rfl) (fun w' hS => ?_) ?_; rotate_left; (focus (go_simp; (try with_reducible rfl); done)); try simp only [Act.put, List.setIfInBounds_toArray, List.set_cons_zero, List.set_cons_succ]) | (refine wpPerm_on (v := ?_) rfl rfl (wanted_yes rfl rfl rfl) (fun w' hS => ?_) ?_; rotate_left; (focus (go_simp; (try with_reducible rfl); done)); try simp only [Act.put, List.setIfInBounds_toArray, List.set_cons_zero, List.set_cons_succ]) | (refine wpPerm_off rfl rfl (wanted_no rfl rfl rfl) ?_; try simp only [Act.put, List.setIfInBounds_toArray, List.set_cons_zero, List.set_cons_succ]) | (refine wpPerm_off rfl rfl (wanted_undef rfl rfl rfl) ?_; try simp only [Act.put, List.setIfInBounds_toArray, List.set_cons_zero, List.set_cons_succ])))
  refine wpPerm_do rfl (wanted_free rfl) (fun K hK => ?_); go_simp
  refine (within a 10 i ha.out _ (by decide) (by decide) pa1 pa2).mono ?_
  rintro e w3 ⟨rfl, rfl⟩
  refine hK.out _ _ (Below.refl _ _) ?_
  clear hK K
  repeat ((with_reducible show wpPerm _ _ _ _ ((_, true) :: _) _ _); (first | (refine wpPerm_on (v := ?_) rfl rfl (wanted_free rfl) (fun w' hS => ?_) ?_; rotate_left; (focus (go_simp; (try with_reducible rfl); done)); try simp only [Act.put, List.setIfInBounds_toArray, List.set_cons_zero, List.set_cons_succ]) | (refine wpPerm_on (v := ?_) rfl rfl (wanted_yes rfl rfl rfl) (fun w' hS => ?_) ?_; rotate_left; (focus (go_simp; (try with_reducible rfl); done)); try simp only [Act.put, List.setIfInBounds_toArray, List.set_cons_zero, List.set_cons_succ]) | (refine wpPerm_off rfl rfl (wanted_no rfl rfl rfl) ?_; try simp only [Act.put, List.setIfInBounds_toArray, List.set_cons_zero, List.set_cons_succ]) | (refine wpPerm_off rfl rfl (wanted_undef rfl rfl rfl) ?_; try simp only [Act.put, List.setIfInBounds_toArray, List.set_cons_zero, List.set_cons_succ])))
  refine wpPerm_do rfl (wanted_free rfl) (fun K hK => ?_); go_simp
  refine (within b 10 j hb.out _ (by decide) (by decide) pb1 pb2).mono ?_
  rintro e w3 ⟨rfl, rfl⟩
  refine hK.out _ _ (Below.refl _ _) ?_
  clear hK K
  repeat ((with_reducible show wpPerm _ _ _ _ ((_, true) :: _) _ _); (first | (refine wpPerm_on (v := ?_) rfl rfl (wanted_free rfl) (fun w' hS => ?_) ?_; rotate_left; (focus (go_simp; (try with_reducible rfl); done)); try simp only [Act.put, List.setIfInBounds_toArray, List.set_cons_zero, List.set_cons_succ]) | (refine wpPerm_on (v := ?_) rfl rfl (wanted_yes rfl rfl rfl) (fun w' hS => ?_) ?_; rotate_left; (focus (go_simp; (try with_reducible rfl); done)); try simp only [Act.put, List.setIfInBounds_toArray, List.set_cons_zero, List.set_cons_succ]) | (refine wpPerm_off rfl rfl (wanted_no rfl rfl rfl) ?_; try simp only [Act.put, List.setIfInBounds_toArray, List.set_cons_zero, List.set_cons_succ]) | (refine wpPerm_off rfl rfl (wanted_undef rfl rfl rfl) ?_; try simp only [Act.put, List.setIfInBounds_toArray, List.set_cons_zero, List.set_cons_succ])))
  refine wpPerm_done ?_
  clear D D2
  go_wp2_with fail
  refine (words0 _ _ _ 2 _ L1.out P1.out rfl (by omega) (by omega)).mono ?_
  rintro r w3 ⟨g, c, rfl, hW, hb3⟩
  go_wp2_with fail
  refine (words0 _ _ _ 3 _ L2.out P2.out rfl (by omega) (by omega)).mono ?_
  rintro r w4 ⟨g4, c4, rfl, hW4, hb4⟩
  have q0 : w4.cell? ⟨g, 0, none⟩ = some (.int .i64 4) := ((hW.ext hb4).at_ (i := 0) rfl).1
  have q3 : w4.cell? ⟨g, 2, none⟩ = some (.string (X ++ Y)) := by
    have e : X ++ Y = ⟨[x, y].toArray⟩ := by rw [HX.out, HY.out]; rfl
    rw [e]
    exact ((hW.ext hb4).at_ (i := 0) rfl).2.2
  have q1 : w4.cell? ⟨g4, 2, none⟩ = some (.string X) := by rw [HX.out]; exact (hW4.at_ (i := 0) rfl).2.2
  have q2 : w4.cell? ⟨g4, 5, none⟩ = some (.string Y) := by rw [HY.out]; exact (hW4.at_ (i := 1) rfl).2.2
  have eX : (X.toList == X.toList) = true := beq_self_eq_true _
  have eY : (Y.toList == Y.toList) = true := beq_self_eq_true _
  have eXY : ((X ++ Y).toList == (X ++ Y).toList) = true := beq_self_eq_true _
  have t1 := T1.out
  have t2 := T2.out
  have t3 := T3.out
  have hB := HB.out
  have hcs : b1 = true ∨ (b1 = false ∧ b2 = true) ∨ (b1 = false ∧ b2 = false ∧ b3 = true) := by
    cases b1 <;> cases b2 <;> cases b3 <;> simp at hB ⊢
  clear hB
  rcases hcs with rfl | ⟨rfl, rfl⟩ | ⟨rfl, rfl, rfl⟩
  all_goals
    go_wp2
    go_ret
    exact ⟨rfl, bch0 hb1 (bch0 hbW (bch0 (Below.trans (Below.refl _ _).drew hb3) hb4))⟩

theorem signs_walk (a b : Int) (w : World) (ha : -9223372036854775808 ≤ a ∧ a ≤ 9223372036854775807) (hb : -9223372036854775808 ≤ b ∧ b ≤ 9223372036854775807) :
    Calls Try.prog 7 #[.int .i64 a, .int .i64 b] w fun e w' => e = .returned (.bool true) ∧ Below w.heap.size w w' := by
  have hi : (a % 10).toNat < sgs.length := by show _ < 10; omega
  have hj : (b % 10).toNat < sgs.length := by show _ < 10; omega
  have hx := List.getElem?_eq_getElem hi
  have hy := List.getElem?_eq_getElem hj
  cases h : twoB [sgs[(a % 10).toNat], sgs[(b % 10).toNat]] with
  | false => exact signs_no a b (a % 10).toNat (b % 10).toNat _ _ w (Lib.hid (by omega)) (Lib.hid (by omega)) hi hj (Lib.hid hx) (Lib.hid hy) (Lib.hid h) ha.1 ha.2 hb.1 hb.2
  | true => exact signs_yes a b (a % 10).toNat (b % 10).toNat _ _ w (Lib.hid (by omega)) (Lib.hid (by omega)) hi hj (Lib.hid hx) (Lib.hid hy) (Lib.hid h) ha.1 ha.2 hb.1 hb.2
end Go.Proofs.Ytfmpnanfjomcbaa.lx
