/- Contracts of the value seat, second part: bare, Check, known. -/
import Derived.Test.YtfgmlgflfagdjaaA
namespace Go.Proofs.Ytfgmlgflfagdjaa.val
open Go.ChangeShapes Go.WideShapes Go.ChangeAt Go.RowKit Go.Proofs.Ytfgmlgflfagdjaa.lib
set_option linter.unusedVariables false

def bareN (k n : Int) : Int := if k = 1 ∨ k = 2 then n else 0
def bareS (k : Int) (s : ByteArray) : ByteArray := if k = 3 then s else ByteArray.empty

theorem bare (k n : Int) (s : ByteArray) (w : World) :
    Calls Try.prog 66 #[.agg #[.int .i64 k, .int .i64 n, .string s]] w fun e w' => e = .returned (.agg #[.int .i64 k, .int .i64 (bareN k n), .string (bareS k s)]) ∧ Below w.heap.size w w' := by
  go_enter Try.func66, Try.ntmps66
  go_wp2
  · have h : k = 3 := by simpa using ‹(k == 3) = true›
    exact bodyPost_ret (v := .agg #[.int .i64 k, .int .i64 0, .string s]) (by simp [results, Try.results66, go_sem]) rfl
      ⟨by rw [bareN, bareS, if_neg (by omega), if_pos h], (((Below.refl _ _).alloc (Nat.le_refl _) _).alloc (by simp) _).alloc (by simp; omega) _⟩
  · have h : k = 1 := by simpa using ‹(k == 1) = true›
    exact bodyPost_ret (v := .agg #[.int .i64 k, .int .i64 n, .string ByteArray.empty]) (by simp [results, Try.results66, go_sem]; rfl) rfl
      ⟨by rw [bareN, bareS, if_pos (by omega), if_neg (by omega)], (((Below.refl _ _).alloc (Nat.le_refl _) _).alloc (by simp) _).alloc (by simp; omega) _⟩
  · have h : k = 2 := by simpa using ‹(k == 2) = true›
    exact bodyPost_ret (v := .agg #[.int .i64 k, .int .i64 n, .string ByteArray.empty]) (by simp [results, Try.results66, go_sem]; rfl) rfl
      ⟨by rw [bareN, bareS, if_pos (by omega), if_neg (by omega)], (((Below.refl _ _).alloc (Nat.le_refl _) _).alloc (by simp) _).alloc (by simp; omega) _⟩
  · have h1 : ¬ k = 1 := by simpa using ‹(k == 1) = false›
    have h2 : ¬ k = 2 := by simpa using ‹(k == 2) = false›
    have h3 : ¬ k = 3 := by simpa using ‹(k == 3) = false›
    exact bodyPost_ret (v := .agg #[.int .i64 k, .int .i64 0, .string ByteArray.empty]) (by simp [results, Try.results66, go_sem]; rfl) rfl
      ⟨by rw [bareN, bareS, if_neg (by omega), if_neg (by omega)], (((Below.refl _ _).alloc (Nat.le_refl _) _).alloc (by simp) _).alloc (by simp; omega) _⟩

/-- are two values the same? -/
def vEq (k n : Int) (s : ByteArray) (k' n' : Int) (s' : ByteArray) : Bool := k == k' && (n == n' && s == s')
theorem eqlV (k n : Int) (s : ByteArray) (k' n' : Int) (s' : ByteArray) (w : World) :
    (binOp .eql 30 (.agg #[.int .i64 k, .int .i64 n, .string s]) (.agg #[.int .i64 k', .int .i64 n', .string s'])).run Try.prog w = .ok (.bool (vEq k n s k' n' s')) w := by
  unfold vEq
  rw [beq_toListBytes]
  cases h1 : k == k' <;> cases h2 : n == n' <;> cases h3 : s.toList == s'.toList <;> go_simp
theorem neqV (k n : Int) (s : ByteArray) (k' n' : Int) (s' : ByteArray) (w : World) :
    (binOp .neq 30 (.agg #[.int .i64 k, .int .i64 n, .string s]) (.agg #[.int .i64 k', .int .i64 n', .string s'])).run Try.prog w = .ok (.bool (!vEq k n s k' n' s')) w := by
  unfold vEq
  rw [beq_toListBytes]
  cases h1 : k == k' <;> cases h2 : n == n' <;> cases h3 : s.toList == s'.toList <;> go_simp

/-- what Check says -/
def chk (k n : Int) (s : ByteArray) : Int := if k < 0 ∨ 3 < k then 3 else if vEq k n s k (bareN k n) (bareS k s) = false ∨ (k = 1 ∧ n ≠ 0 ∧ n ≠ 1) then 1 else if 60 < s.size then 5 else 0

set_option maxHeartbeats 1000000 in
theorem check1 (k n : Int) (s : ByteArray) (w : World) (hs : s.size ≤ maxLen) (hk : 0 ≤ k) (hk3 : k ≤ 3) (hv : vEq k n s k (bareN k n) (bareS k s) = false) :
    Calls Try.prog 48 #[.agg #[.int .i64 k, .int .i64 n, .string s]] w fun e w' => e = .returned (.int .i64 (chk k n s)) ∧ Below w.heap.size w w' := by
  unfold maxLen at hs
  have hne := fun W => neqV k n s k (bareN k n) (bareS k s) W
  go_enter Try.func48, Try.ntmps48
  go_wp2_with fail
  obtain ⟨W, hW, hB, hWs, c0, c1, c2⟩ : ∃ W, W = w.alloc (.cells #[.int .i64 k, .int .i64 n, .string s] 30) ∧
      Below w.heap.size w W ∧ w.heap.size < W.heap.size ∧ (∀ w', Below W.heap.size W.drew w' → w'.cell? ⟨w.heap.size, 0, none⟩ = some (.int .i64 k)) ∧ (∀ w', Below W.heap.size W.drew w' → w'.cell? ⟨w.heap.size, 1, none⟩ = some (.int .i64 n)) ∧
      (∀ w', Below W.heap.size W.drew w' → w'.cell? ⟨w.heap.size, 2, none⟩ = some (.string s)) :=
    ⟨_, rfl, (Below.refl _ _).alloc (Nat.le_refl _) _, by simp, fun w' h => (h.cell (p := ⟨_, _, _⟩) (by simp)).trans (by simp [go_sem]), fun w' h => (h.cell (p := ⟨_, _, _⟩) (by simp)).trans (by simp [go_sem]), fun w' h => (h.cell (p := ⟨_, _, _⟩) (by simp)).trans (by simp [go_sem])⟩
  rw [← hW]
  clear hW
  refine wp_region_one [(0, true), (1, true), (2, false), (3, true), (4, true), (5, true), (6, true), (7, true), (8, true), (9, true), (10, true), (11, true), (12, true), (13, true), (14, true), (15, true), (16, true), (17, true), (18, true), (19, true)] (by kernel_rfl) (by kernel_rfl) (by kernel_rfl) (by decide) ?_
  repeat ((with_reducible show wpPerm _ _ _ _ ((_, true) :: _) _ _); (first | (refine wpPerm_on (v := ?_) rfl rfl (wanted_free rfl) (fun w' hS => ?_) ?_; rotate_left; (focus (go_simp; (try with_reducible rfl); done)); try simp only [List.setIfInBounds_toArray, List.set_cons_zero, List.set_cons_succ]) | (refine wpPerm_on (v := ?_) rfl rfl (wanted_yes rfl rfl rfl) (fun w' hS => ?_) ?_; rotate_left; (focus (go_simp; (try with_reducible rfl); done)); try simp only [List.setIfInBounds_toArray, List.set_cons_zero, List.set_cons_succ]) | (refine wpPerm_off rfl rfl (wanted_no rfl rfl rfl) ?_; try simp only [List.setIfInBounds_toArray, List.set_cons_zero, List.set_cons_succ]) | (refine wpPerm_off rfl rfl (wanted_undef rfl rfl rfl) ?_; try simp only [List.setIfInBounds_toArray, List.set_cons_zero, List.set_cons_succ])))
  refine wpPerm_do rfl (wanted_free rfl) (fun K hK => ?_); go_simp
  refine (bare _ _ _ _).mono ?_
  rintro e w1 ⟨rfl, hb1⟩
  refine hK.out _ _ (Below.trans (Below.refl _ _) hb1) ?_
  clear hK K
  repeat ((with_reducible show wpPerm _ _ _ _ ((_, true) :: _) _ _); (first | (refine wpPerm_on (v := ?_) rfl rfl (wanted_free rfl) (fun w' hS => ?_) ?_; rotate_left; (focus (go_simp; (try with_reducible rfl); done)); try simp only [List.setIfInBounds_toArray, List.set_cons_zero, List.set_cons_succ]) | (refine wpPerm_on (v := ?_) rfl rfl (wanted_yes rfl rfl rfl) (fun w' hS => ?_) ?_; rotate_left; (focus (go_simp; (try with_reducible rfl); done)); try simp only [List.setIfInBounds_toArray, List.set_cons_zero, List.set_cons_succ]) | (refine wpPerm_off rfl rfl (wanted_no rfl rfl rfl) ?_; try simp only [List.setIfInBounds_toArray, List.set_cons_zero, List.set_cons_succ]) | (refine wpPerm_off rfl rfl (wanted_undef rfl rfl rfl) ?_; try simp only [List.setIfInBounds_toArray, List.set_cons_zero, List.set_cons_succ])))
  refine wpPerm_done ?_
  have hx2 := c2 w1 (Below.trans (Below.refl _ _) hb1)
  clear c0 c1 c2 hne
  go_wp2
  go_ret
  exact ⟨ret_int (by rw [chk, if_neg (by omega), if_pos (by simp [hv])]), (Below.trans hB (Below.mono (Below.trans (Below.refl _ _).drew hb1) (by show _ ≤ W.heap.size; omega)))⟩
set_option maxHeartbeats 1000000 in
theorem check2 (k n : Int) (s : ByteArray) (w : World) (hs : s.size ≤ maxLen) (hk : 0 ≤ k) (hk3 : k ≤ 3) (hv : vEq k n s k (bareN k n) (bareS k s) = true) (h1 : (k == 1) = false) :
    Calls Try.prog 48 #[.agg #[.int .i64 k, .int .i64 n, .string s]] w fun e w' => e = .returned (.int .i64 (chk k n s)) ∧ Below w.heap.size w w' := by
  unfold maxLen at hs
  have hne := fun W => neqV k n s k (bareN k n) (bareS k s) W
  go_enter Try.func48, Try.ntmps48
  go_wp2_with fail
  obtain ⟨W, hW, hB, hWs, c0, c1, c2⟩ : ∃ W, W = w.alloc (.cells #[.int .i64 k, .int .i64 n, .string s] 30) ∧
      Below w.heap.size w W ∧ w.heap.size < W.heap.size ∧ (∀ w', Below W.heap.size W.drew w' → w'.cell? ⟨w.heap.size, 0, none⟩ = some (.int .i64 k)) ∧ (∀ w', Below W.heap.size W.drew w' → w'.cell? ⟨w.heap.size, 1, none⟩ = some (.int .i64 n)) ∧
      (∀ w', Below W.heap.size W.drew w' → w'.cell? ⟨w.heap.size, 2, none⟩ = some (.string s)) :=
    ⟨_, rfl, (Below.refl _ _).alloc (Nat.le_refl _) _, by simp, fun w' h => (h.cell (p := ⟨_, _, _⟩) (by simp)).trans (by simp [go_sem]), fun w' h => (h.cell (p := ⟨_, _, _⟩) (by simp)).trans (by simp [go_sem]), fun w' h => (h.cell (p := ⟨_, _, _⟩) (by simp)).trans (by simp [go_sem])⟩
  rw [← hW]
  clear hW
  refine wp_region_one [(0, true), (1, true), (2, false), (3, true), (4, true), (5, true), (6, true), (7, true), (8, true), (9, true), (10, true), (11, true), (12, true), (13, true), (14, true), (15, true), (16, true), (17, true), (18, true), (19, true)] (by kernel_rfl) (by kernel_rfl) (by kernel_rfl) (by decide) ?_
  repeat ((with_reducible show wpPerm _ _ _ _ ((_, true) :: _) _ _); (first | (refine wpPerm_on (v := ?_) rfl rfl (wanted_free rfl) (fun w' hS => ?_) ?_; rotate_left; (focus (go_simp; (try with_reducible rfl); done)); try simp only [List.setIfInBounds_toArray, List.set_cons_zero, List.set_cons_succ]) | (refine wpPerm_on (v := ?_) rfl rfl (wanted_yes rfl rfl rfl) (fun w' hS => ?_) ?_; rotate_left; (focus (go_simp; (try with_reducible rfl); done)); try simp only [List.setIfInBounds_toArray, List.set_cons_zero, List.set_cons_succ]) | (refine wpPerm_off rfl rfl (wanted_no rfl rfl rfl) ?_; try simp only [List.setIfInBounds_toArray, List.set_cons_zero, List.set_cons_succ]) | (refine wpPerm_off rfl rfl (wanted_undef rfl rfl rfl) ?_; try simp only [List.setIfInBounds_toArray, List.set_cons_zero, List.set_cons_succ])))
  refine wpPerm_do rfl (wanted_free rfl) (fun K hK => ?_); go_simp
  refine (bare _ _ _ _).mono ?_
  rintro e w1 ⟨rfl, hb1⟩
  refine hK.out _ _ (Below.trans (Below.refl _ _) hb1) ?_
  clear hK K
  repeat ((with_reducible show wpPerm _ _ _ _ ((_, true) :: _) _ _); (first | (refine wpPerm_on (v := ?_) rfl rfl (wanted_free rfl) (fun w' hS => ?_) ?_; rotate_left; (focus (go_simp; (try with_reducible rfl); done)); try simp only [List.setIfInBounds_toArray, List.set_cons_zero, List.set_cons_succ]) | (refine wpPerm_on (v := ?_) rfl rfl (wanted_yes rfl rfl rfl) (fun w' hS => ?_) ?_; rotate_left; (focus (go_simp; (try with_reducible rfl); done)); try simp only [List.setIfInBounds_toArray, List.set_cons_zero, List.set_cons_succ]) | (refine wpPerm_off rfl rfl (wanted_no rfl rfl rfl) ?_; try simp only [List.setIfInBounds_toArray, List.set_cons_zero, List.set_cons_succ]) | (refine wpPerm_off rfl rfl (wanted_undef rfl rfl rfl) ?_; try simp only [List.setIfInBounds_toArray, List.set_cons_zero, List.set_cons_succ])))
  refine wpPerm_done ?_
  have hx2 := c2 w1 (Below.trans (Below.refl _ _) hb1)
  clear c0 c1 c2 hne
  by_cases h60 : 60 < s.size
  all_goals go_wp2
  all_goals go_ret
  · exact ⟨ret_int (by rw [chk, if_neg (by omega), if_neg (by simp [hv]; simp at h1; omega), if_pos h60]), (Below.trans hB (Below.mono (Below.trans (Below.refl _ _).drew hb1) (by show _ ≤ W.heap.size; omega)))⟩
  · exact ⟨ret_int (by rw [chk, if_neg (by omega), if_neg (by simp [hv]; simp at h1; omega), if_neg h60]), (Below.trans hB (Below.mono (Below.trans (Below.refl _ _).drew hb1) (by show _ ≤ W.heap.size; omega)))⟩
set_option maxHeartbeats 1000000 in
theorem check3 (k n : Int) (s : ByteArray) (w : World) (hs : s.size ≤ maxLen) (hk : 0 ≤ k) (hk3 : k ≤ 3) (hv : vEq k n s k (bareN k n) (bareS k s) = true) (h1 : (k == 1) = true) (h2 : (n != 0) = false) :
    Calls Try.prog 48 #[.agg #[.int .i64 k, .int .i64 n, .string s]] w fun e w' => e = .returned (.int .i64 (chk k n s)) ∧ Below w.heap.size w w' := by
  unfold maxLen at hs
  have hne := fun W => neqV k n s k (bareN k n) (bareS k s) W
  go_enter Try.func48, Try.ntmps48
  go_wp2_with fail
  obtain ⟨W, hW, hB, hWs, c0, c1, c2⟩ : ∃ W, W = w.alloc (.cells #[.int .i64 k, .int .i64 n, .string s] 30) ∧
      Below w.heap.size w W ∧ w.heap.size < W.heap.size ∧ (∀ w', Below W.heap.size W.drew w' → w'.cell? ⟨w.heap.size, 0, none⟩ = some (.int .i64 k)) ∧ (∀ w', Below W.heap.size W.drew w' → w'.cell? ⟨w.heap.size, 1, none⟩ = some (.int .i64 n)) ∧
      (∀ w', Below W.heap.size W.drew w' → w'.cell? ⟨w.heap.size, 2, none⟩ = some (.string s)) :=
    ⟨_, rfl, (Below.refl _ _).alloc (Nat.le_refl _) _, by simp, fun w' h => (h.cell (p := ⟨_, _, _⟩) (by simp)).trans (by simp [go_sem]), fun w' h => (h.cell (p := ⟨_, _, _⟩) (by simp)).trans (by simp [go_sem]), fun w' h => (h.cell (p := ⟨_, _, _⟩) (by simp)).trans (by simp [go_sem])⟩
  rw [← hW]
  clear hW
  refine wp_region_one [(0, true), (1, true), (2, false), (3, true), (4, true), (5, true), (6, true), (7, true), (8, true), (9, true), (10, true), (11, true), (12, true), (13, true), (14, true), (15, true), (16, true), (17, true), (18, true), (19, true)] (by kernel_rfl) (by kernel_rfl) (by kernel_rfl) (by decide) ?_
  repeat ((with_reducible show wpPerm _ _ _ _ ((_, true) :: _) _ _); (first | (refine wpPerm_on (v := ?_) rfl rfl (wanted_free rfl) (fun w' hS => ?_) ?_; rotate_left; (focus (go_simp; (try with_reducible rfl); done)); try simp only [List.setIfInBounds_toArray, List.set_cons_zero, List.set_cons_succ]) | (refine wpPerm_on (v := ?_) rfl rfl (wanted_yes rfl rfl rfl) (fun w' hS => ?_) ?_; rotate_left; (focus (go_simp; (try with_reducible rfl); done)); try simp only [List.setIfInBounds_toArray, List.set_cons_zero, List.set_cons_succ]) | (refine wpPerm_off rfl rfl (wanted_no rfl rfl rfl) ?_; try simp only [List.setIfInBounds_toArray, List.set_cons_zero, List.set_cons_succ]) | (refine wpPerm_off rfl rfl (wanted_undef rfl rfl rfl) ?_; try simp only [List.setIfInBounds_toArray, List.set_cons_zero, List.set_cons_succ])))
  refine wpPerm_do rfl (wanted_free rfl) (fun K hK => ?_); go_simp
  refine (bare _ _ _ _).mono ?_
  rintro e w1 ⟨rfl, hb1⟩
  refine hK.out _ _ (Below.trans (Below.refl _ _) hb1) ?_
  clear hK K
  repeat ((with_reducible show wpPerm _ _ _ _ ((_, true) :: _) _ _); (first | (refine wpPerm_on (v := ?_) rfl rfl (wanted_free rfl) (fun w' hS => ?_) ?_; rotate_left; (focus (go_simp; (try with_reducible rfl); done)); try simp only [List.setIfInBounds_toArray, List.set_cons_zero, List.set_cons_succ]) | (refine wpPerm_on (v := ?_) rfl rfl (wanted_yes rfl rfl rfl) (fun w' hS => ?_) ?_; rotate_left; (focus (go_simp; (try with_reducible rfl); done)); try simp only [List.setIfInBounds_toArray, List.set_cons_zero, List.set_cons_succ]) | (refine wpPerm_off rfl rfl (wanted_no rfl rfl rfl) ?_; try simp only [List.setIfInBounds_toArray, List.set_cons_zero, List.set_cons_succ]) | (refine wpPerm_off rfl rfl (wanted_undef rfl rfl rfl) ?_; try simp only [List.setIfInBounds_toArray, List.set_cons_zero, List.set_cons_succ])))
  refine wpPerm_done ?_
  have hx2 := c2 w1 (Below.trans (Below.refl _ _) hb1)
  clear c0 c1 c2 hne
  by_cases h60 : 60 < s.size
  all_goals go_wp2
  all_goals go_ret
  · exact ⟨ret_int (by rw [chk, if_neg (by omega), if_neg (by simp [hv]; simp at h1 h2; omega), if_pos h60]), (Below.trans hB (Below.mono (Below.trans (Below.refl _ _).drew hb1) (by show _ ≤ W.heap.size; omega)))⟩
  · exact ⟨ret_int (by rw [chk, if_neg (by omega), if_neg (by simp [hv]; simp at h1 h2; omega), if_neg h60]), (Below.trans hB (Below.mono (Below.trans (Below.refl _ _).drew hb1) (by show _ ≤ W.heap.size; omega)))⟩
set_option maxHeartbeats 1000000 in
theorem check4 (k n : Int) (s : ByteArray) (w : World) (hs : s.size ≤ maxLen) (hk : 0 ≤ k) (hk3 : k ≤ 3) (hv : vEq k n s k (bareN k n) (bareS k s) = true) (h1 : (k == 1) = true) (h2 : (n != 0) = true) (h3 : (n != 1) = false) :
    Calls Try.prog 48 #[.agg #[.int .i64 k, .int .i64 n, .string s]] w fun e w' => e = .returned (.int .i64 (chk k n s)) ∧ Below w.heap.size w w' := by
  unfold maxLen at hs
  have hne := fun W => neqV k n s k (bareN k n) (bareS k s) W
  go_enter Try.func48, Try.ntmps48
  go_wp2_with fail
  obtain ⟨W, hW, hB, hWs, c0, c1, c2⟩ : ∃ W, W = w.alloc (.cells #[.int .i64 k, .int .i64 n, .string s] 30) ∧
      Below w.heap.size w W ∧ w.heap.size < W.heap.size ∧ (∀ w', Below W.heap.size W.drew w' → w'.cell? ⟨w.heap.size, 0, none⟩ = some (.int .i64 k)) ∧ (∀ w', Below W.heap.size W.drew w' → w'.cell? ⟨w.heap.size, 1, none⟩ = some (.int .i64 n)) ∧
      (∀ w', Below W.heap.size W.drew w' → w'.cell? ⟨w.heap.size, 2, none⟩ = some (.string s)) :=
    ⟨_, rfl, (Below.refl _ _).alloc (Nat.le_refl _) _, by simp, fun w' h => (h.cell (p := ⟨_, _, _⟩) (by simp)).trans (by simp [go_sem]), fun w' h => (h.cell (p := ⟨_, _, _⟩) (by simp)).trans (by simp [go_sem]), fun w' h => (h.cell (p := ⟨_, _, _⟩) (by simp)).trans (by simp [go_sem])⟩
  rw [← hW]
  clear hW
  refine wp_region_one [(0, true), (1, true), (2, false), (3, true), (4, true), (5, true), (6, true), (7, true), (8, true), (9, true), (10, true), (11, true), (12, true), (13, true), (14, true), (15, true), (16, true), (17, true), (18, true), (19, true)] (by kernel_rfl) (by kernel_rfl) (by kernel_rfl) (by decide) ?_
  repeat ((with_reducible show wpPerm _ _ _ _ ((_, true) :: _) _ _); (first | (refine wpPerm_on (v := ?_) rfl rfl (wanted_free rfl) (fun w' hS => ?_) ?_; rotate_left; (focus (go_simp; (try with_reducible rfl); done)); try simp only [List.setIfInBounds_toArray, List.set_cons_zero, List.set_cons_succ]) | (refine wpPerm_on (v := ?_) rfl rfl (wanted_yes rfl rfl rfl) (fun w' hS => ?_) ?_; rotate_left; (focus (go_simp; (try with_reducible rfl); done)); try simp only [List.setIfInBounds_toArray, List.set_cons_zero, List.set_cons_succ]) | (refine wpPerm_off rfl rfl (wanted_no rfl rfl rfl) ?_; try simp only [List.setIfInBounds_toArray, List.set_cons_zero, List.set_cons_succ]) | (refine wpPerm_off rfl rfl (wanted_undef rfl rfl rfl) ?_; try simp only [List.setIfInBounds_toArray, List.set_cons_zero, List.set_cons_succ])))
  refine wpPerm_do rfl (wanted_free rfl) (fun K hK => ?_); go_simp
  refine (bare _ _ _ _).mono ?_
  rintro e w1 ⟨rfl, hb1⟩
  refine hK.out _ _ (Below.trans (Below.refl _ _) hb1) ?_
  clear hK K
  repeat ((with_reducible show wpPerm _ _ _ _ ((_, true) :: _) _ _); (first | (refine wpPerm_on (v := ?_) rfl rfl (wanted_free rfl) (fun w' hS => ?_) ?_; rotate_left; (focus (go_simp; (try with_reducible rfl); done)); try simp only [List.setIfInBounds_toArray, List.set_cons_zero, List.set_cons_succ]) | (refine wpPerm_on (v := ?_) rfl rfl (wanted_yes rfl rfl rfl) (fun w' hS => ?_) ?_; rotate_left; (focus (go_simp; (try with_reducible rfl); done)); try simp only [List.setIfInBounds_toArray, List.set_cons_zero, List.set_cons_succ]) | (refine wpPerm_off rfl rfl (wanted_no rfl rfl rfl) ?_; try simp only [List.setIfInBounds_toArray, List.set_cons_zero, List.set_cons_succ]) | (refine wpPerm_off rfl rfl (wanted_undef rfl rfl rfl) ?_; try simp only [List.setIfInBounds_toArray, List.set_cons_zero, List.set_cons_succ])))
  refine wpPerm_done ?_
  have hx2 := c2 w1 (Below.trans (Below.refl _ _) hb1)
  clear c0 c1 c2 hne
  by_cases h60 : 60 < s.size
  all_goals go_wp2
  all_goals go_ret
  · exact ⟨ret_int (by rw [chk, if_neg (by omega), if_neg (by simp [hv]; simp at h1 h2 h3; omega), if_pos h60]), (Below.trans hB (Below.mono (Below.trans (Below.refl _ _).drew hb1) (by show _ ≤ W.heap.size; omega)))⟩
  · exact ⟨ret_int (by rw [chk, if_neg (by omega), if_neg (by simp [hv]; simp at h1 h2 h3; omega), if_neg h60]), (Below.trans hB (Below.mono (Below.trans (Below.refl _ _).drew hb1) (by show _ ≤ W.heap.size; omega)))⟩
set_option maxHeartbeats 1000000 in
theorem check5 (k n : Int) (s : ByteArray) (w : World) (hs : s.size ≤ maxLen) (hk : 0 ≤ k) (hk3 : k ≤ 3) (hv : vEq k n s k (bareN k n) (bareS k s) = true) (h1 : (k == 1) = true) (h2 : (n != 0) = true) (h3 : (n != 1) = true) :
    Calls Try.prog 48 #[.agg #[.int .i64 k, .int .i64 n, .string s]] w fun e w' => e = .returned (.int .i64 (chk k n s)) ∧ Below w.heap.size w w' := by
  unfold maxLen at hs
  have hne := fun W => neqV k n s k (bareN k n) (bareS k s) W
  go_enter Try.func48, Try.ntmps48
  go_wp2_with fail
  obtain ⟨W, hW, hB, hWs, c0, c1, c2⟩ : ∃ W, W = w.alloc (.cells #[.int .i64 k, .int .i64 n, .string s] 30) ∧
      Below w.heap.size w W ∧ w.heap.size < W.heap.size ∧ (∀ w', Below W.heap.size W.drew w' → w'.cell? ⟨w.heap.size, 0, none⟩ = some (.int .i64 k)) ∧ (∀ w', Below W.heap.size W.drew w' → w'.cell? ⟨w.heap.size, 1, none⟩ = some (.int .i64 n)) ∧
      (∀ w', Below W.heap.size W.drew w' → w'.cell? ⟨w.heap.size, 2, none⟩ = some (.string s)) :=
    ⟨_, rfl, (Below.refl _ _).alloc (Nat.le_refl _) _, by simp, fun w' h => (h.cell (p := ⟨_, _, _⟩) (by simp)).trans (by simp [go_sem]), fun w' h => (h.cell (p := ⟨_, _, _⟩) (by simp)).trans (by simp [go_sem]), fun w' h => (h.cell (p := ⟨_, _, _⟩) (by simp)).trans (by simp [go_sem])⟩
  rw [← hW]
  clear hW
  refine wp_region_one [(0, true), (1, true), (2, false), (3, true), (4, true), (5, true), (6, true), (7, true), (8, true), (9, true), (10, true), (11, true), (12, true), (13, true), (14, true), (15, true), (16, true), (17, true), (18, true), (19, true)] (by kernel_rfl) (by kernel_rfl) (by kernel_rfl) (by decide) ?_
  repeat ((with_reducible show wpPerm _ _ _ _ ((_, true) :: _) _ _); (first | (refine wpPerm_on (v := ?_) rfl rfl (wanted_free rfl) (fun w' hS => ?_) ?_; rotate_left; (focus (go_simp; (try with_reducible rfl); done)); try simp only [List.setIfInBounds_toArray, List.set_cons_zero, List.set_cons_succ]) | (refine wpPerm_on (v := ?_) rfl rfl (wanted_yes rfl rfl rfl) (fun w' hS => ?_) ?_; rotate_left; (focus (go_simp; (try with_reducible rfl); done)); try simp only [List.setIfInBounds_toArray, List.set_cons_zero, List.set_cons_succ]) | (refine wpPerm_off rfl rfl (wanted_no rfl rfl rfl) ?_; try simp only [List.setIfInBounds_toArray, List.set_cons_zero, List.set_cons_succ]) | (refine wpPerm_off rfl rfl (wanted_undef rfl rfl rfl) ?_; try simp only [List.setIfInBounds_toArray, List.set_cons_zero, List.set_cons_succ])))
  refine wpPerm_do rfl (wanted_free rfl) (fun K hK => ?_); go_simp
  refine (bare _ _ _ _).mono ?_
  rintro e w1 ⟨rfl, hb1⟩
  refine hK.out _ _ (Below.trans (Below.refl _ _) hb1) ?_
  clear hK K
  repeat ((with_reducible show wpPerm _ _ _ _ ((_, true) :: _) _ _); (first | (refine wpPerm_on (v := ?_) rfl rfl (wanted_free rfl) (fun w' hS => ?_) ?_; rotate_left; (focus (go_simp; (try with_reducible rfl); done)); try simp only [List.setIfInBounds_toArray, List.set_cons_zero, List.set_cons_succ]) | (refine wpPerm_on (v := ?_) rfl rfl (wanted_yes rfl rfl rfl) (fun w' hS => ?_) ?_; rotate_left; (focus (go_simp; (try with_reducible rfl); done)); try simp only [List.setIfInBounds_toArray, List.set_cons_zero, List.set_cons_succ]) | (refine wpPerm_off rfl rfl (wanted_no rfl rfl rfl) ?_; try simp only [List.setIfInBounds_toArray, List.set_cons_zero, List.set_cons_succ]) | (refine wpPerm_off rfl rfl (wanted_undef rfl rfl rfl) ?_; try simp only [List.setIfInBounds_toArray, List.set_cons_zero, List.set_cons_succ])))
  refine wpPerm_done ?_
  have hx2 := c2 w1 (Below.trans (Below.refl _ _) hb1)
  clear c0 c1 c2 hne
  go_wp2
  go_ret
  exact ⟨ret_int (by rw [chk, if_neg (by omega), if_pos (by simp [hv]; simp at h1 h2 h3; omega)]), (Below.trans hB (Below.mono (Below.trans (Below.refl _ _).drew hb1) (by show _ ≤ W.heap.size; omega)))⟩

theorem check0 (k n : Int) (s : ByteArray) (w : World) (hk : k < 0 ∨ 3 < k) :
    Calls Try.prog 48 #[.agg #[.int .i64 k, .int .i64 n, .string s]] w fun e w' => e = .returned (.int .i64 (chk k n s)) ∧ Below w.heap.size w w' := by
  have h : chk k n s = 3 := by rw [chk, if_pos hk]
  rw [h]
  rcases hk with hk | hk
  all_goals
    go_enter Try.func48, Try.ntmps48
    go_wp2
    go_ret
    exact ⟨rfl, (Below.refl _ _).alloc (Nat.le_refl _) _⟩

theorem check (k n : Int) (s : ByteArray) (w : World) (hs : s.size ≤ maxLen) :
    Calls Try.prog 48 #[.agg #[.int .i64 k, .int .i64 n, .string s]] w fun e w' => e = .returned (.int .i64 (chk k n s)) ∧ Below w.heap.size w w' := by
  by_cases hk : k < 0 ∨ 3 < k
  · exact check0 k n s w hk
  have hk0 : 0 ≤ k := by omega
  have hk3 : k ≤ 3 := by omega
  cases hv : vEq k n s k (bareN k n) (bareS k s) with
  | false => exact check1 k n s w hs hk0 hk3 hv
  | true =>
    cases h1 : k == 1 with
    | false => exact check2 k n s w hs hk0 hk3 hv h1
    | true =>
      cases h2 : n != 0 with
      | false => exact check3 k n s w hs hk0 hk3 hv h1 h2
      | true =>
        cases h3 : n != 1 with
        | false => exact check4 k n s w hs hk0 hk3 hv h1 h2 h3
        | true => exact check5 k n s w hs hk0 hk3 hv h1 h2 h3

end Go.Proofs.Ytfgmlgflfagdjaa.val
