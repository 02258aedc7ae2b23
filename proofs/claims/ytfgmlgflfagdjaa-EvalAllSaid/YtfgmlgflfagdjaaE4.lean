/- Contracts: parts, fits, made. -/
import Derived.Test.YtfgmlgflfagdjaaE3
namespace Go.Proofs.Ytfgmlgflfagdjaa.ev
open Go.ChangeShapes Go.WideShapes Go.ChangeAt Go.RowKit Go.Proofs.Ytfgmlgflfagdjaa.lib Go.Proofs.Ytfgmlgflfagdjaa.val
set_option linter.unusedVariables false

def partsV (op : Int) : Int := if op = 1 ∨ op = 2 then 0 else if op = 3 ∨ op = 4 ∨ op = 5 then 1 else if 6 ≤ op ∧ op ≤ 16 then 2 else -1
theorem parts (op : Int) (w : World) : Calls Try.prog 47 #[.int .i64 op] w fun e w' => e = .returned (.int .i64 (partsV op)) ∧ w = w' := by
  unfold partsV
  have c : op = 1 ∨ op = 2 ∨ op = 3 ∨ op = 4 ∨ op = 5 ∨ op < 1 ∨ 16 < op ∨ (6 ≤ op ∧ op ≤ 16) := by omega
  rcases c with rfl | rfl | rfl | rfl | rfl | h | h | ⟨h, h'⟩
  case inr.inr.inr.inr.inr.inl =>
    have h1 : (op == 1) = false := by simp; omega
    have h2 : (op == 2) = false := by simp; omega
    have h3 : (op == 3) = false := by simp; omega
    have h4 : (op == 4) = false := by simp; omega
    have h5 : (op == 5) = false := by simp; omega
    have h6 : decide (6 ≤ op) = false := by simp; omega
    rw [if_neg (by omega), if_neg (by omega), if_neg (by omega)]
    go_enter Try.func47, Try.ntmps47
    go_wp2
    go_ret
    exact ⟨rfl, rfl⟩
  case inr.inr.inr.inr.inr.inr.inl =>
    have h1 : (op == 1) = false := by simp; omega
    have h2 : (op == 2) = false := by simp; omega
    have h3 : (op == 3) = false := by simp; omega
    have h4 : (op == 4) = false := by simp; omega
    have h5 : (op == 5) = false := by simp; omega
    have h6 : decide (6 ≤ op) = true := by simp; omega
    have h7 : decide (op ≤ 16) = false := by simp; omega
    rw [if_neg (by omega), if_neg (by omega), if_neg (by omega)]
    go_enter Try.func47, Try.ntmps47
    go_wp2
    go_ret
    exact ⟨rfl, rfl⟩
  case inr.inr.inr.inr.inr.inr.inr =>
    have h1 : (op == 1) = false := by simp; omega
    have h2 : (op == 2) = false := by simp; omega
    have h3 : (op == 3) = false := by simp; omega
    have h4 : (op == 4) = false := by simp; omega
    have h5 : (op == 5) = false := by simp; omega
    have h6 : decide (6 ≤ op) = true := by simp; omega
    have h7 : decide (op ≤ 16) = true := by simp; omega
    rw [if_neg (by omega), if_neg (by omega), if_pos (by omega)]
    go_enter Try.func47, Try.ntmps47
    go_wp2
    go_ret
    exact ⟨rfl, rfl⟩
  all_goals
    go_enter Try.func47, Try.ntmps47
    go_wp2
    go_ret
    exact ⟨rfl, rfl⟩

def fitsV (k want : Int) : Bool := k == 0 || k == want
theorem fits (k want : Int) (w : World) : Calls Try.prog 68 #[.int .i64 k, .int .i64 want] w fun e w' => e = .returned (.bool (fitsV k want)) ∧ w = w' := by
  unfold fitsV
  cases hk : k == 0
  all_goals
    go_enter Try.func68, Try.ntmps68
    go_wp2
    go_ret
    exact ⟨rfl, rfl⟩
theorem fitsr (k want : Int) (b : Bool) (hb : fitsV k want = b) (w : World) : Calls Try.prog 68 #[.int .i64 k, .int .i64 want] w fun e w' => e = .returned (.bool b) ∧ w = w' := by
  subst hb; exact fits k want w

def madeV (op a b : Int) : Int × Int :=
  if op = 5 then (1, 0) else
  if fitsV a (if 8 ≤ op ∧ op ≤ 13 then (if a = 0 then b else a) else if op = 4 ∨ 14 ≤ op then 2 else 1) && fitsV b (if 8 ≤ op ∧ op ≤ 13 then (if a = 0 then b else a) else if op = 4 ∨ 14 ≤ op then 2 else 1) then
    (if op = 4 ∨ 14 ≤ op then 2 else 1, 0) else (0, 3)
def two (p : Int × Int) : Value := .tuple #[.int .i64 p.1, .int .i64 p.2]

theorem made5 (a b : Int) (w : World) : Calls Try.prog 50 #[.int .i64 5, .int .i64 a, .int .i64 b] w fun e w' => e = .returned (two (1, 0)) ∧ w = w' := by
  go_enter Try.func50, Try.ntmps50
  go_wp2
  go_ret2
  exact ⟨rfl, rfl⟩
theorem made3n (a b : Int)  (h1 : fitsV a 1 = false)  (w : World) : Calls Try.prog 50 #[.int .i64 3, .int .i64 a, .int .i64 b] w fun e w' => e = .returned (two (0, 3)) ∧ w = w' := by
  go_enter Try.func50, Try.ntmps50
  go_wp2_with fail
  refine (fitsr _ _ _ h1 _).mono ?_
  rintro e w1 ⟨rfl, rfl⟩
  go_wp2
  go_ret2
  exact ⟨rfl, rfl⟩
theorem made3m (a b : Int)  (h1 : fitsV a 1 = true) (h2 : fitsV b 1 = false) (w : World) : Calls Try.prog 50 #[.int .i64 3, .int .i64 a, .int .i64 b] w fun e w' => e = .returned (two (0, 3)) ∧ w = w' := by
  go_enter Try.func50, Try.ntmps50
  go_wp2_with fail
  refine (fitsr _ _ _ h1 _).mono ?_
  rintro e w1 ⟨rfl, rfl⟩
  go_wp2_with fail
  refine (fitsr _ _ _ h2 _).mono ?_
  rintro e w1 ⟨rfl, rfl⟩
  go_wp2
  go_ret2
  exact ⟨rfl, rfl⟩
theorem made3y (a b : Int)  (h1 : fitsV a 1 = true) (h2 : fitsV b 1 = true) (w : World) : Calls Try.prog 50 #[.int .i64 3, .int .i64 a, .int .i64 b] w fun e w' => e = .returned (two (1, 0)) ∧ w = w' := by
  go_enter Try.func50, Try.ntmps50
  go_wp2_with fail
  refine (fitsr _ _ _ h1 _).mono ?_
  rintro e w1 ⟨rfl, rfl⟩
  go_wp2_with fail
  refine (fitsr _ _ _ h2 _).mono ?_
  rintro e w1 ⟨rfl, rfl⟩
  go_wp2
  go_ret2
  exact ⟨rfl, rfl⟩
theorem made4n (a b : Int)  (h1 : fitsV a 2 = false)  (w : World) : Calls Try.prog 50 #[.int .i64 4, .int .i64 a, .int .i64 b] w fun e w' => e = .returned (two (0, 3)) ∧ w = w' := by
  go_enter Try.func50, Try.ntmps50
  go_wp2_with fail
  refine (fitsr _ _ _ h1 _).mono ?_
  rintro e w1 ⟨rfl, rfl⟩
  go_wp2
  go_ret2
  exact ⟨rfl, rfl⟩
theorem made4m (a b : Int)  (h1 : fitsV a 2 = true) (h2 : fitsV b 2 = false) (w : World) : Calls Try.prog 50 #[.int .i64 4, .int .i64 a, .int .i64 b] w fun e w' => e = .returned (two (0, 3)) ∧ w = w' := by
  go_enter Try.func50, Try.ntmps50
  go_wp2_with fail
  refine (fitsr _ _ _ h1 _).mono ?_
  rintro e w1 ⟨rfl, rfl⟩
  go_wp2_with fail
  refine (fitsr _ _ _ h2 _).mono ?_
  rintro e w1 ⟨rfl, rfl⟩
  go_wp2
  go_ret2
  exact ⟨rfl, rfl⟩
theorem made4y (a b : Int)  (h1 : fitsV a 2 = true) (h2 : fitsV b 2 = true) (w : World) : Calls Try.prog 50 #[.int .i64 4, .int .i64 a, .int .i64 b] w fun e w' => e = .returned (two (2, 0)) ∧ w = w' := by
  go_enter Try.func50, Try.ntmps50
  go_wp2_with fail
  refine (fitsr _ _ _ h1 _).mono ?_
  rintro e w1 ⟨rfl, rfl⟩
  go_wp2_with fail
  refine (fitsr _ _ _ h2 _).mono ?_
  rintro e w1 ⟨rfl, rfl⟩
  go_wp2
  go_ret2
  exact ⟨rfl, rfl⟩
theorem made6n (a b : Int)  (h1 : fitsV a 1 = false)  (w : World) : Calls Try.prog 50 #[.int .i64 6, .int .i64 a, .int .i64 b] w fun e w' => e = .returned (two (0, 3)) ∧ w = w' := by
  go_enter Try.func50, Try.ntmps50
  go_wp2_with fail
  refine (fitsr _ _ _ h1 _).mono ?_
  rintro e w1 ⟨rfl, rfl⟩
  go_wp2
  go_ret2
  exact ⟨rfl, rfl⟩
theorem made6m (a b : Int)  (h1 : fitsV a 1 = true) (h2 : fitsV b 1 = false) (w : World) : Calls Try.prog 50 #[.int .i64 6, .int .i64 a, .int .i64 b] w fun e w' => e = .returned (two (0, 3)) ∧ w = w' := by
  go_enter Try.func50, Try.ntmps50
  go_wp2_with fail
  refine (fitsr _ _ _ h1 _).mono ?_
  rintro e w1 ⟨rfl, rfl⟩
  go_wp2_with fail
  refine (fitsr _ _ _ h2 _).mono ?_
  rintro e w1 ⟨rfl, rfl⟩
  go_wp2
  go_ret2
  exact ⟨rfl, rfl⟩
theorem made6y (a b : Int)  (h1 : fitsV a 1 = true) (h2 : fitsV b 1 = true) (w : World) : Calls Try.prog 50 #[.int .i64 6, .int .i64 a, .int .i64 b] w fun e w' => e = .returned (two (1, 0)) ∧ w = w' := by
  go_enter Try.func50, Try.ntmps50
  go_wp2_with fail
  refine (fitsr _ _ _ h1 _).mono ?_
  rintro e w1 ⟨rfl, rfl⟩
  go_wp2_with fail
  refine (fitsr _ _ _ h2 _).mono ?_
  rintro e w1 ⟨rfl, rfl⟩
  go_wp2
  go_ret2
  exact ⟨rfl, rfl⟩
theorem made7n (a b : Int)  (h1 : fitsV a 1 = false)  (w : World) : Calls Try.prog 50 #[.int .i64 7, .int .i64 a, .int .i64 b] w fun e w' => e = .returned (two (0, 3)) ∧ w = w' := by
  go_enter Try.func50, Try.ntmps50
  go_wp2_with fail
  refine (fitsr _ _ _ h1 _).mono ?_
  rintro e w1 ⟨rfl, rfl⟩
  go_wp2
  go_ret2
  exact ⟨rfl, rfl⟩
theorem made7m (a b : Int)  (h1 : fitsV a 1 = true) (h2 : fitsV b 1 = false) (w : World) : Calls Try.prog 50 #[.int .i64 7, .int .i64 a, .int .i64 b] w fun e w' => e = .returned (two (0, 3)) ∧ w = w' := by
  go_enter Try.func50, Try.ntmps50
  go_wp2_with fail
  refine (fitsr _ _ _ h1 _).mono ?_
  rintro e w1 ⟨rfl, rfl⟩
  go_wp2_with fail
  refine (fitsr _ _ _ h2 _).mono ?_
  rintro e w1 ⟨rfl, rfl⟩
  go_wp2
  go_ret2
  exact ⟨rfl, rfl⟩
theorem made7y (a b : Int)  (h1 : fitsV a 1 = true) (h2 : fitsV b 1 = true) (w : World) : Calls Try.prog 50 #[.int .i64 7, .int .i64 a, .int .i64 b] w fun e w' => e = .returned (two (1, 0)) ∧ w = w' := by
  go_enter Try.func50, Try.ntmps50
  go_wp2_with fail
  refine (fitsr _ _ _ h1 _).mono ?_
  rintro e w1 ⟨rfl, rfl⟩
  go_wp2_with fail
  refine (fitsr _ _ _ h2 _).mono ?_
  rintro e w1 ⟨rfl, rfl⟩
  go_wp2
  go_ret2
  exact ⟨rfl, rfl⟩
theorem made8_zn (a b : Int) (h0 : (a == 0) = true) (h1 : fitsV a b = false)  (w : World) : Calls Try.prog 50 #[.int .i64 8, .int .i64 a, .int .i64 b] w fun e w' => e = .returned (two (0, 3)) ∧ w = w' := by
  go_enter Try.func50, Try.ntmps50
  go_wp2_with fail
  refine (fitsr _ _ _ h1 _).mono ?_
  rintro e w1 ⟨rfl, rfl⟩
  go_wp2
  go_ret2
  exact ⟨rfl, rfl⟩
theorem made8_zm (a b : Int) (h0 : (a == 0) = true) (h1 : fitsV a b = true) (h2 : fitsV b b = false) (w : World) : Calls Try.prog 50 #[.int .i64 8, .int .i64 a, .int .i64 b] w fun e w' => e = .returned (two (0, 3)) ∧ w = w' := by
  go_enter Try.func50, Try.ntmps50
  go_wp2_with fail
  refine (fitsr _ _ _ h1 _).mono ?_
  rintro e w1 ⟨rfl, rfl⟩
  go_wp2_with fail
  refine (fitsr _ _ _ h2 _).mono ?_
  rintro e w1 ⟨rfl, rfl⟩
  go_wp2
  go_ret2
  exact ⟨rfl, rfl⟩
theorem made8_zy (a b : Int) (h0 : (a == 0) = true) (h1 : fitsV a b = true) (h2 : fitsV b b = true) (w : World) : Calls Try.prog 50 #[.int .i64 8, .int .i64 a, .int .i64 b] w fun e w' => e = .returned (two (1, 0)) ∧ w = w' := by
  go_enter Try.func50, Try.ntmps50
  go_wp2_with fail
  refine (fitsr _ _ _ h1 _).mono ?_
  rintro e w1 ⟨rfl, rfl⟩
  go_wp2_with fail
  refine (fitsr _ _ _ h2 _).mono ?_
  rintro e w1 ⟨rfl, rfl⟩
  go_wp2
  go_ret2
  exact ⟨rfl, rfl⟩
theorem made8_pn (a b : Int) (h0 : (a == 0) = false) (h1 : fitsV a a = false)  (w : World) : Calls Try.prog 50 #[.int .i64 8, .int .i64 a, .int .i64 b] w fun e w' => e = .returned (two (0, 3)) ∧ w = w' := by
  go_enter Try.func50, Try.ntmps50
  go_wp2_with fail
  refine (fitsr _ _ _ h1 _).mono ?_
  rintro e w1 ⟨rfl, rfl⟩
  go_wp2
  go_ret2
  exact ⟨rfl, rfl⟩
theorem made8_pm (a b : Int) (h0 : (a == 0) = false) (h1 : fitsV a a = true) (h2 : fitsV b a = false) (w : World) : Calls Try.prog 50 #[.int .i64 8, .int .i64 a, .int .i64 b] w fun e w' => e = .returned (two (0, 3)) ∧ w = w' := by
  go_enter Try.func50, Try.ntmps50
  go_wp2_with fail
  refine (fitsr _ _ _ h1 _).mono ?_
  rintro e w1 ⟨rfl, rfl⟩
  go_wp2_with fail
  refine (fitsr _ _ _ h2 _).mono ?_
  rintro e w1 ⟨rfl, rfl⟩
  go_wp2
  go_ret2
  exact ⟨rfl, rfl⟩
theorem made8_py (a b : Int) (h0 : (a == 0) = false) (h1 : fitsV a a = true) (h2 : fitsV b a = true) (w : World) : Calls Try.prog 50 #[.int .i64 8, .int .i64 a, .int .i64 b] w fun e w' => e = .returned (two (1, 0)) ∧ w = w' := by
  go_enter Try.func50, Try.ntmps50
  go_wp2_with fail
  refine (fitsr _ _ _ h1 _).mono ?_
  rintro e w1 ⟨rfl, rfl⟩
  go_wp2_with fail
  refine (fitsr _ _ _ h2 _).mono ?_
  rintro e w1 ⟨rfl, rfl⟩
  go_wp2
  go_ret2
  exact ⟨rfl, rfl⟩
theorem made9_zn (a b : Int) (h0 : (a == 0) = true) (h1 : fitsV a b = false)  (w : World) : Calls Try.prog 50 #[.int .i64 9, .int .i64 a, .int .i64 b] w fun e w' => e = .returned (two (0, 3)) ∧ w = w' := by
  go_enter Try.func50, Try.ntmps50
  go_wp2_with fail
  refine (fitsr _ _ _ h1 _).mono ?_
  rintro e w1 ⟨rfl, rfl⟩
  go_wp2
  go_ret2
  exact ⟨rfl, rfl⟩
theorem made9_zm (a b : Int) (h0 : (a == 0) = true) (h1 : fitsV a b = true) (h2 : fitsV b b = false) (w : World) : Calls Try.prog 50 #[.int .i64 9, .int .i64 a, .int .i64 b] w fun e w' => e = .returned (two (0, 3)) ∧ w = w' := by
  go_enter Try.func50, Try.ntmps50
  go_wp2_with fail
  refine (fitsr _ _ _ h1 _).mono ?_
  rintro e w1 ⟨rfl, rfl⟩
  go_wp2_with fail
  refine (fitsr _ _ _ h2 _).mono ?_
  rintro e w1 ⟨rfl, rfl⟩
  go_wp2
  go_ret2
  exact ⟨rfl, rfl⟩
theorem made9_zy (a b : Int) (h0 : (a == 0) = true) (h1 : fitsV a b = true) (h2 : fitsV b b = true) (w : World) : Calls Try.prog 50 #[.int .i64 9, .int .i64 a, .int .i64 b] w fun e w' => e = .returned (two (1, 0)) ∧ w = w' := by
  go_enter Try.func50, Try.ntmps50
  go_wp2_with fail
  refine (fitsr _ _ _ h1 _).mono ?_
  rintro e w1 ⟨rfl, rfl⟩
  go_wp2_with fail
  refine (fitsr _ _ _ h2 _).mono ?_
  rintro e w1 ⟨rfl, rfl⟩
  go_wp2
  go_ret2
  exact ⟨rfl, rfl⟩
theorem made9_pn (a b : Int) (h0 : (a == 0) = false) (h1 : fitsV a a = false)  (w : World) : Calls Try.prog 50 #[.int .i64 9, .int .i64 a, .int .i64 b] w fun e w' => e = .returned (two (0, 3)) ∧ w = w' := by
  go_enter Try.func50, Try.ntmps50
  go_wp2_with fail
  refine (fitsr _ _ _ h1 _).mono ?_
  rintro e w1 ⟨rfl, rfl⟩
  go_wp2
  go_ret2
  exact ⟨rfl, rfl⟩
theorem made9_pm (a b : Int) (h0 : (a == 0) = false) (h1 : fitsV a a = true) (h2 : fitsV b a = false) (w : World) : Calls Try.prog 50 #[.int .i64 9, .int .i64 a, .int .i64 b] w fun e w' => e = .returned (two (0, 3)) ∧ w = w' := by
  go_enter Try.func50, Try.ntmps50
  go_wp2_with fail
  refine (fitsr _ _ _ h1 _).mono ?_
  rintro e w1 ⟨rfl, rfl⟩
  go_wp2_with fail
  refine (fitsr _ _ _ h2 _).mono ?_
  rintro e w1 ⟨rfl, rfl⟩
  go_wp2
  go_ret2
  exact ⟨rfl, rfl⟩
theorem made9_py (a b : Int) (h0 : (a == 0) = false) (h1 : fitsV a a = true) (h2 : fitsV b a = true) (w : World) : Calls Try.prog 50 #[.int .i64 9, .int .i64 a, .int .i64 b] w fun e w' => e = .returned (two (1, 0)) ∧ w = w' := by
  go_enter Try.func50, Try.ntmps50
  go_wp2_with fail
  refine (fitsr _ _ _ h1 _).mono ?_
  rintro e w1 ⟨rfl, rfl⟩
  go_wp2_with fail
  refine (fitsr _ _ _ h2 _).mono ?_
  rintro e w1 ⟨rfl, rfl⟩
  go_wp2
  go_ret2
  exact ⟨rfl, rfl⟩
theorem made10_zn (a b : Int) (h0 : (a == 0) = true) (h1 : fitsV a b = false)  (w : World) : Calls Try.prog 50 #[.int .i64 10, .int .i64 a, .int .i64 b] w fun e w' => e = .returned (two (0, 3)) ∧ w = w' := by
  go_enter Try.func50, Try.ntmps50
  go_wp2_with fail
  refine (fitsr _ _ _ h1 _).mono ?_
  rintro e w1 ⟨rfl, rfl⟩
  go_wp2
  go_ret2
  exact ⟨rfl, rfl⟩
theorem made10_zm (a b : Int) (h0 : (a == 0) = true) (h1 : fitsV a b = true) (h2 : fitsV b b = false) (w : World) : Calls Try.prog 50 #[.int .i64 10, .int .i64 a, .int .i64 b] w fun e w' => e = .returned (two (0, 3)) ∧ w = w' := by
  go_enter Try.func50, Try.ntmps50
  go_wp2_with fail
  refine (fitsr _ _ _ h1 _).mono ?_
  rintro e w1 ⟨rfl, rfl⟩
  go_wp2_with fail
  refine (fitsr _ _ _ h2 _).mono ?_
  rintro e w1 ⟨rfl, rfl⟩
  go_wp2
  go_ret2
  exact ⟨rfl, rfl⟩
theorem made10_zy (a b : Int) (h0 : (a == 0) = true) (h1 : fitsV a b = true) (h2 : fitsV b b = true) (w : World) : Calls Try.prog 50 #[.int .i64 10, .int .i64 a, .int .i64 b] w fun e w' => e = .returned (two (1, 0)) ∧ w = w' := by
  go_enter Try.func50, Try.ntmps50
  go_wp2_with fail
  refine (fitsr _ _ _ h1 _).mono ?_
  rintro e w1 ⟨rfl, rfl⟩
  go_wp2_with fail
  refine (fitsr _ _ _ h2 _).mono ?_
  rintro e w1 ⟨rfl, rfl⟩
  go_wp2
  go_ret2
  exact ⟨rfl, rfl⟩
theorem made10_pn (a b : Int) (h0 : (a == 0) = false) (h1 : fitsV a a = false)  (w : World) : Calls Try.prog 50 #[.int .i64 10, .int .i64 a, .int .i64 b] w fun e w' => e = .returned (two (0, 3)) ∧ w = w' := by
  go_enter Try.func50, Try.ntmps50
  go_wp2_with fail
  refine (fitsr _ _ _ h1 _).mono ?_
  rintro e w1 ⟨rfl, rfl⟩
  go_wp2
  go_ret2
  exact ⟨rfl, rfl⟩
theorem made10_pm (a b : Int) (h0 : (a == 0) = false) (h1 : fitsV a a = true) (h2 : fitsV b a = false) (w : World) : Calls Try.prog 50 #[.int .i64 10, .int .i64 a, .int .i64 b] w fun e w' => e = .returned (two (0, 3)) ∧ w = w' := by
  go_enter Try.func50, Try.ntmps50
  go_wp2_with fail
  refine (fitsr _ _ _ h1 _).mono ?_
  rintro e w1 ⟨rfl, rfl⟩
  go_wp2_with fail
  refine (fitsr _ _ _ h2 _).mono ?_
  rintro e w1 ⟨rfl, rfl⟩
  go_wp2
  go_ret2
  exact ⟨rfl, rfl⟩
theorem made10_py (a b : Int) (h0 : (a == 0) = false) (h1 : fitsV a a = true) (h2 : fitsV b a = true) (w : World) : Calls Try.prog 50 #[.int .i64 10, .int .i64 a, .int .i64 b] w fun e w' => e = .returned (two (1, 0)) ∧ w = w' := by
  go_enter Try.func50, Try.ntmps50
  go_wp2_with fail
  refine (fitsr _ _ _ h1 _).mono ?_
  rintro e w1 ⟨rfl, rfl⟩
  go_wp2_with fail
  refine (fitsr _ _ _ h2 _).mono ?_
  rintro e w1 ⟨rfl, rfl⟩
  go_wp2
  go_ret2
  exact ⟨rfl, rfl⟩
theorem made11_zn (a b : Int) (h0 : (a == 0) = true) (h1 : fitsV a b = false)  (w : World) : Calls Try.prog 50 #[.int .i64 11, .int .i64 a, .int .i64 b] w fun e w' => e = .returned (two (0, 3)) ∧ w = w' := by
  go_enter Try.func50, Try.ntmps50
  go_wp2_with fail
  refine (fitsr _ _ _ h1 _).mono ?_
  rintro e w1 ⟨rfl, rfl⟩
  go_wp2
  go_ret2
  exact ⟨rfl, rfl⟩
theorem made11_zm (a b : Int) (h0 : (a == 0) = true) (h1 : fitsV a b = true) (h2 : fitsV b b = false) (w : World) : Calls Try.prog 50 #[.int .i64 11, .int .i64 a, .int .i64 b] w fun e w' => e = .returned (two (0, 3)) ∧ w = w' := by
  go_enter Try.func50, Try.ntmps50
  go_wp2_with fail
  refine (fitsr _ _ _ h1 _).mono ?_
  rintro e w1 ⟨rfl, rfl⟩
  go_wp2_with fail
  refine (fitsr _ _ _ h2 _).mono ?_
  rintro e w1 ⟨rfl, rfl⟩
  go_wp2
  go_ret2
  exact ⟨rfl, rfl⟩
theorem made11_zy (a b : Int) (h0 : (a == 0) = true) (h1 : fitsV a b = true) (h2 : fitsV b b = true) (w : World) : Calls Try.prog 50 #[.int .i64 11, .int .i64 a, .int .i64 b] w fun e w' => e = .returned (two (1, 0)) ∧ w = w' := by
  go_enter Try.func50, Try.ntmps50
  go_wp2_with fail
  refine (fitsr _ _ _ h1 _).mono ?_
  rintro e w1 ⟨rfl, rfl⟩
  go_wp2_with fail
  refine (fitsr _ _ _ h2 _).mono ?_
  rintro e w1 ⟨rfl, rfl⟩
  go_wp2
  go_ret2
  exact ⟨rfl, rfl⟩
theorem made11_pn (a b : Int) (h0 : (a == 0) = false) (h1 : fitsV a a = false)  (w : World) : Calls Try.prog 50 #[.int .i64 11, .int .i64 a, .int .i64 b] w fun e w' => e = .returned (two (0, 3)) ∧ w = w' := by
  go_enter Try.func50, Try.ntmps50
  go_wp2_with fail
  refine (fitsr _ _ _ h1 _).mono ?_
  rintro e w1 ⟨rfl, rfl⟩
  go_wp2
  go_ret2
  exact ⟨rfl, rfl⟩
theorem made11_pm (a b : Int) (h0 : (a == 0) = false) (h1 : fitsV a a = true) (h2 : fitsV b a = false) (w : World) : Calls Try.prog 50 #[.int .i64 11, .int .i64 a, .int .i64 b] w fun e w' => e = .returned (two (0, 3)) ∧ w = w' := by
  go_enter Try.func50, Try.ntmps50
  go_wp2_with fail
  refine (fitsr _ _ _ h1 _).mono ?_
  rintro e w1 ⟨rfl, rfl⟩
  go_wp2_with fail
  refine (fitsr _ _ _ h2 _).mono ?_
  rintro e w1 ⟨rfl, rfl⟩
  go_wp2
  go_ret2
  exact ⟨rfl, rfl⟩
theorem made11_py (a b : Int) (h0 : (a == 0) = false) (h1 : fitsV a a = true) (h2 : fitsV b a = true) (w : World) : Calls Try.prog 50 #[.int .i64 11, .int .i64 a, .int .i64 b] w fun e w' => e = .returned (two (1, 0)) ∧ w = w' := by
  go_enter Try.func50, Try.ntmps50
  go_wp2_with fail
  refine (fitsr _ _ _ h1 _).mono ?_
  rintro e w1 ⟨rfl, rfl⟩
  go_wp2_with fail
  refine (fitsr _ _ _ h2 _).mono ?_
  rintro e w1 ⟨rfl, rfl⟩
  go_wp2
  go_ret2
  exact ⟨rfl, rfl⟩
theorem made12_zn (a b : Int) (h0 : (a == 0) = true) (h1 : fitsV a b = false)  (w : World) : Calls Try.prog 50 #[.int .i64 12, .int .i64 a, .int .i64 b] w fun e w' => e = .returned (two (0, 3)) ∧ w = w' := by
  go_enter Try.func50, Try.ntmps50
  go_wp2_with fail
  refine (fitsr _ _ _ h1 _).mono ?_
  rintro e w1 ⟨rfl, rfl⟩
  go_wp2
  go_ret2
  exact ⟨rfl, rfl⟩
theorem made12_zm (a b : Int) (h0 : (a == 0) = true) (h1 : fitsV a b = true) (h2 : fitsV b b = false) (w : World) : Calls Try.prog 50 #[.int .i64 12, .int .i64 a, .int .i64 b] w fun e w' => e = .returned (two (0, 3)) ∧ w = w' := by
  go_enter Try.func50, Try.ntmps50
  go_wp2_with fail
  refine (fitsr _ _ _ h1 _).mono ?_
  rintro e w1 ⟨rfl, rfl⟩
  go_wp2_with fail
  refine (fitsr _ _ _ h2 _).mono ?_
  rintro e w1 ⟨rfl, rfl⟩
  go_wp2
  go_ret2
  exact ⟨rfl, rfl⟩
theorem made12_zy (a b : Int) (h0 : (a == 0) = true) (h1 : fitsV a b = true) (h2 : fitsV b b = true) (w : World) : Calls Try.prog 50 #[.int .i64 12, .int .i64 a, .int .i64 b] w fun e w' => e = .returned (two (1, 0)) ∧ w = w' := by
  go_enter Try.func50, Try.ntmps50
  go_wp2_with fail
  refine (fitsr _ _ _ h1 _).mono ?_
  rintro e w1 ⟨rfl, rfl⟩
  go_wp2_with fail
  refine (fitsr _ _ _ h2 _).mono ?_
  rintro e w1 ⟨rfl, rfl⟩
  go_wp2
  go_ret2
  exact ⟨rfl, rfl⟩
theorem made12_pn (a b : Int) (h0 : (a == 0) = false) (h1 : fitsV a a = false)  (w : World) : Calls Try.prog 50 #[.int .i64 12, .int .i64 a, .int .i64 b] w fun e w' => e = .returned (two (0, 3)) ∧ w = w' := by
  go_enter Try.func50, Try.ntmps50
  go_wp2_with fail
  refine (fitsr _ _ _ h1 _).mono ?_
  rintro e w1 ⟨rfl, rfl⟩
  go_wp2
  go_ret2
  exact ⟨rfl, rfl⟩
theorem made12_pm (a b : Int) (h0 : (a == 0) = false) (h1 : fitsV a a = true) (h2 : fitsV b a = false) (w : World) : Calls Try.prog 50 #[.int .i64 12, .int .i64 a, .int .i64 b] w fun e w' => e = .returned (two (0, 3)) ∧ w = w' := by
  go_enter Try.func50, Try.ntmps50
  go_wp2_with fail
  refine (fitsr _ _ _ h1 _).mono ?_
  rintro e w1 ⟨rfl, rfl⟩
  go_wp2_with fail
  refine (fitsr _ _ _ h2 _).mono ?_
  rintro e w1 ⟨rfl, rfl⟩
  go_wp2
  go_ret2
  exact ⟨rfl, rfl⟩
theorem made12_py (a b : Int) (h0 : (a == 0) = false) (h1 : fitsV a a = true) (h2 : fitsV b a = true) (w : World) : Calls Try.prog 50 #[.int .i64 12, .int .i64 a, .int .i64 b] w fun e w' => e = .returned (two (1, 0)) ∧ w = w' := by
  go_enter Try.func50, Try.ntmps50
  go_wp2_with fail
  refine (fitsr _ _ _ h1 _).mono ?_
  rintro e w1 ⟨rfl, rfl⟩
  go_wp2_with fail
  refine (fitsr _ _ _ h2 _).mono ?_
  rintro e w1 ⟨rfl, rfl⟩
  go_wp2
  go_ret2
  exact ⟨rfl, rfl⟩
theorem made13_zn (a b : Int) (h0 : (a == 0) = true) (h1 : fitsV a b = false)  (w : World) : Calls Try.prog 50 #[.int .i64 13, .int .i64 a, .int .i64 b] w fun e w' => e = .returned (two (0, 3)) ∧ w = w' := by
  go_enter Try.func50, Try.ntmps50
  go_wp2_with fail
  refine (fitsr _ _ _ h1 _).mono ?_
  rintro e w1 ⟨rfl, rfl⟩
  go_wp2
  go_ret2
  exact ⟨rfl, rfl⟩
theorem made13_zm (a b : Int) (h0 : (a == 0) = true) (h1 : fitsV a b = true) (h2 : fitsV b b = false) (w : World) : Calls Try.prog 50 #[.int .i64 13, .int .i64 a, .int .i64 b] w fun e w' => e = .returned (two (0, 3)) ∧ w = w' := by
  go_enter Try.func50, Try.ntmps50
  go_wp2_with fail
  refine (fitsr _ _ _ h1 _).mono ?_
  rintro e w1 ⟨rfl, rfl⟩
  go_wp2_with fail
  refine (fitsr _ _ _ h2 _).mono ?_
  rintro e w1 ⟨rfl, rfl⟩
  go_wp2
  go_ret2
  exact ⟨rfl, rfl⟩
theorem made13_zy (a b : Int) (h0 : (a == 0) = true) (h1 : fitsV a b = true) (h2 : fitsV b b = true) (w : World) : Calls Try.prog 50 #[.int .i64 13, .int .i64 a, .int .i64 b] w fun e w' => e = .returned (two (1, 0)) ∧ w = w' := by
  go_enter Try.func50, Try.ntmps50
  go_wp2_with fail
  refine (fitsr _ _ _ h1 _).mono ?_
  rintro e w1 ⟨rfl, rfl⟩
  go_wp2_with fail
  refine (fitsr _ _ _ h2 _).mono ?_
  rintro e w1 ⟨rfl, rfl⟩
  go_wp2
  go_ret2
  exact ⟨rfl, rfl⟩
theorem made13_pn (a b : Int) (h0 : (a == 0) = false) (h1 : fitsV a a = false)  (w : World) : Calls Try.prog 50 #[.int .i64 13, .int .i64 a, .int .i64 b] w fun e w' => e = .returned (two (0, 3)) ∧ w = w' := by
  go_enter Try.func50, Try.ntmps50
  go_wp2_with fail
  refine (fitsr _ _ _ h1 _).mono ?_
  rintro e w1 ⟨rfl, rfl⟩
  go_wp2
  go_ret2
  exact ⟨rfl, rfl⟩
theorem made13_pm (a b : Int) (h0 : (a == 0) = false) (h1 : fitsV a a = true) (h2 : fitsV b a = false) (w : World) : Calls Try.prog 50 #[.int .i64 13, .int .i64 a, .int .i64 b] w fun e w' => e = .returned (two (0, 3)) ∧ w = w' := by
  go_enter Try.func50, Try.ntmps50
  go_wp2_with fail
  refine (fitsr _ _ _ h1 _).mono ?_
  rintro e w1 ⟨rfl, rfl⟩
  go_wp2_with fail
  refine (fitsr _ _ _ h2 _).mono ?_
  rintro e w1 ⟨rfl, rfl⟩
  go_wp2
  go_ret2
  exact ⟨rfl, rfl⟩
theorem made13_py (a b : Int) (h0 : (a == 0) = false) (h1 : fitsV a a = true) (h2 : fitsV b a = true) (w : World) : Calls Try.prog 50 #[.int .i64 13, .int .i64 a, .int .i64 b] w fun e w' => e = .returned (two (1, 0)) ∧ w = w' := by
  go_enter Try.func50, Try.ntmps50
  go_wp2_with fail
  refine (fitsr _ _ _ h1 _).mono ?_
  rintro e w1 ⟨rfl, rfl⟩
  go_wp2_with fail
  refine (fitsr _ _ _ h2 _).mono ?_
  rintro e w1 ⟨rfl, rfl⟩
  go_wp2
  go_ret2
  exact ⟨rfl, rfl⟩
theorem made14n (a b : Int)  (h1 : fitsV a 2 = false)  (w : World) : Calls Try.prog 50 #[.int .i64 14, .int .i64 a, .int .i64 b] w fun e w' => e = .returned (two (0, 3)) ∧ w = w' := by
  go_enter Try.func50, Try.ntmps50
  go_wp2_with fail
  refine (fitsr _ _ _ h1 _).mono ?_
  rintro e w1 ⟨rfl, rfl⟩
  go_wp2
  go_ret2
  exact ⟨rfl, rfl⟩
theorem made14m (a b : Int)  (h1 : fitsV a 2 = true) (h2 : fitsV b 2 = false) (w : World) : Calls Try.prog 50 #[.int .i64 14, .int .i64 a, .int .i64 b] w fun e w' => e = .returned (two (0, 3)) ∧ w = w' := by
  go_enter Try.func50, Try.ntmps50
  go_wp2_with fail
  refine (fitsr _ _ _ h1 _).mono ?_
  rintro e w1 ⟨rfl, rfl⟩
  go_wp2_with fail
  refine (fitsr _ _ _ h2 _).mono ?_
  rintro e w1 ⟨rfl, rfl⟩
  go_wp2
  go_ret2
  exact ⟨rfl, rfl⟩
theorem made14y (a b : Int)  (h1 : fitsV a 2 = true) (h2 : fitsV b 2 = true) (w : World) : Calls Try.prog 50 #[.int .i64 14, .int .i64 a, .int .i64 b] w fun e w' => e = .returned (two (2, 0)) ∧ w = w' := by
  go_enter Try.func50, Try.ntmps50
  go_wp2_with fail
  refine (fitsr _ _ _ h1 _).mono ?_
  rintro e w1 ⟨rfl, rfl⟩
  go_wp2_with fail
  refine (fitsr _ _ _ h2 _).mono ?_
  rintro e w1 ⟨rfl, rfl⟩
  go_wp2
  go_ret2
  exact ⟨rfl, rfl⟩
theorem made15n (a b : Int)  (h1 : fitsV a 2 = false)  (w : World) : Calls Try.prog 50 #[.int .i64 15, .int .i64 a, .int .i64 b] w fun e w' => e = .returned (two (0, 3)) ∧ w = w' := by
  go_enter Try.func50, Try.ntmps50
  go_wp2_with fail
  refine (fitsr _ _ _ h1 _).mono ?_
  rintro e w1 ⟨rfl, rfl⟩
  go_wp2
  go_ret2
  exact ⟨rfl, rfl⟩
theorem made15m (a b : Int)  (h1 : fitsV a 2 = true) (h2 : fitsV b 2 = false) (w : World) : Calls Try.prog 50 #[.int .i64 15, .int .i64 a, .int .i64 b] w fun e w' => e = .returned (two (0, 3)) ∧ w = w' := by
  go_enter Try.func50, Try.ntmps50
  go_wp2_with fail
  refine (fitsr _ _ _ h1 _).mono ?_
  rintro e w1 ⟨rfl, rfl⟩
  go_wp2_with fail
  refine (fitsr _ _ _ h2 _).mono ?_
  rintro e w1 ⟨rfl, rfl⟩
  go_wp2
  go_ret2
  exact ⟨rfl, rfl⟩
theorem made15y (a b : Int)  (h1 : fitsV a 2 = true) (h2 : fitsV b 2 = true) (w : World) : Calls Try.prog 50 #[.int .i64 15, .int .i64 a, .int .i64 b] w fun e w' => e = .returned (two (2, 0)) ∧ w = w' := by
  go_enter Try.func50, Try.ntmps50
  go_wp2_with fail
  refine (fitsr _ _ _ h1 _).mono ?_
  rintro e w1 ⟨rfl, rfl⟩
  go_wp2_with fail
  refine (fitsr _ _ _ h2 _).mono ?_
  rintro e w1 ⟨rfl, rfl⟩
  go_wp2
  go_ret2
  exact ⟨rfl, rfl⟩
theorem made16n (a b : Int)  (h1 : fitsV a 2 = false)  (w : World) : Calls Try.prog 50 #[.int .i64 16, .int .i64 a, .int .i64 b] w fun e w' => e = .returned (two (0, 3)) ∧ w = w' := by
  go_enter Try.func50, Try.ntmps50
  go_wp2_with fail
  refine (fitsr _ _ _ h1 _).mono ?_
  rintro e w1 ⟨rfl, rfl⟩
  go_wp2
  go_ret2
  exact ⟨rfl, rfl⟩
theorem made16m (a b : Int)  (h1 : fitsV a 2 = true) (h2 : fitsV b 2 = false) (w : World) : Calls Try.prog 50 #[.int .i64 16, .int .i64 a, .int .i64 b] w fun e w' => e = .returned (two (0, 3)) ∧ w = w' := by
  go_enter Try.func50, Try.ntmps50
  go_wp2_with fail
  refine (fitsr _ _ _ h1 _).mono ?_
  rintro e w1 ⟨rfl, rfl⟩
  go_wp2_with fail
  refine (fitsr _ _ _ h2 _).mono ?_
  rintro e w1 ⟨rfl, rfl⟩
  go_wp2
  go_ret2
  exact ⟨rfl, rfl⟩
theorem made16y (a b : Int)  (h1 : fitsV a 2 = true) (h2 : fitsV b 2 = true) (w : World) : Calls Try.prog 50 #[.int .i64 16, .int .i64 a, .int .i64 b] w fun e w' => e = .returned (two (2, 0)) ∧ w = w' := by
  go_enter Try.func50, Try.ntmps50
  go_wp2_with fail
  refine (fitsr _ _ _ h1 _).mono ?_
  rintro e w1 ⟨rfl, rfl⟩
  go_wp2_with fail
  refine (fitsr _ _ _ h2 _).mono ?_
  rintro e w1 ⟨rfl, rfl⟩
  go_wp2
  go_ret2
  exact ⟨rfl, rfl⟩
theorem made (op a b : Int) (w : World) (hop : 3 ≤ op ∧ op ≤ 16) : Calls Try.prog 50 #[.int .i64 op, .int .i64 a, .int .i64 b] w fun e w' => e = .returned (two (madeV op a b)) ∧ w = w' := by
  have cases_ : op = 3 ∨ op = 4 ∨ op = 5 ∨ op = 6 ∨ op = 7 ∨ op = 8 ∨ op = 9 ∨ op = 10 ∨ op = 11 ∨ op = 12 ∨ op = 13 ∨ op = 14 ∨ op = 15 ∨ op = 16 := by omega
  rcases cases_ with rfl | rfl | rfl | rfl | rfl | rfl | rfl | rfl | rfl | rfl | rfl | rfl | rfl | rfl
  ·
    cases h1 : fitsV a 1 with
    | false =>
      rw [show madeV 3 a b = (0, 3) from by simp [madeV, h1]]
      exact made3n a b h1 w
    | true =>
      cases h2 : fitsV b 1 with
      | false => rw [show madeV 3 a b = (0, 3) from by simp [madeV, h1, h2]]; exact made3m a b h1 h2 w
      | true => rw [show madeV 3 a b = (1, 0) from by simp [madeV, h1, h2]]; exact made3y a b h1 h2 w
  ·
    cases h1 : fitsV a 2 with
    | false =>
      rw [show madeV 4 a b = (0, 3) from by simp [madeV, h1]]
      exact made4n a b h1 w
    | true =>
      cases h2 : fitsV b 2 with
      | false => rw [show madeV 4 a b = (0, 3) from by simp [madeV, h1, h2]]; exact made4m a b h1 h2 w
      | true => rw [show madeV 4 a b = (2, 0) from by simp [madeV, h1, h2]]; exact made4y a b h1 h2 w
  · exact made5 a b w
  ·
    cases h1 : fitsV a 1 with
    | false =>
      rw [show madeV 6 a b = (0, 3) from by simp [madeV, h1]]
      exact made6n a b h1 w
    | true =>
      cases h2 : fitsV b 1 with
      | false => rw [show madeV 6 a b = (0, 3) from by simp [madeV, h1, h2]]; exact made6m a b h1 h2 w
      | true => rw [show madeV 6 a b = (1, 0) from by simp [madeV, h1, h2]]; exact made6y a b h1 h2 w
  ·
    cases h1 : fitsV a 1 with
    | false =>
      rw [show madeV 7 a b = (0, 3) from by simp [madeV, h1]]
      exact made7n a b h1 w
    | true =>
      cases h2 : fitsV b 1 with
      | false => rw [show madeV 7 a b = (0, 3) from by simp [madeV, h1, h2]]; exact made7m a b h1 h2 w
      | true => rw [show madeV 7 a b = (1, 0) from by simp [madeV, h1, h2]]; exact made7y a b h1 h2 w
  · by_cases h0 : a = 0
    · subst h0
      cases h1 : fitsV 0 b with
      | false =>
        rw [show madeV 8 0 b = (0, 3) from by simp [madeV, h1]]
        exact made8_zn 0 b (by rfl) h1 w
      | true =>
        cases h2 : fitsV b b with
        | false => rw [show madeV 8 0 b = (0, 3) from by simp [madeV, h1, h2]]; exact made8_zm 0 b (by rfl) h1 h2 w
        | true => rw [show madeV 8 0 b = (1, 0) from by simp [madeV, h1, h2]]; exact made8_zy 0 b (by rfl) h1 h2 w
    · skip
      cases h1 : fitsV a a with
      | false =>
        rw [show madeV 8 a b = (0, 3) from by simp [madeV, h1, h0]]
        exact made8_pn a b (by simpa using h0) h1 w
      | true =>
        cases h2 : fitsV b a with
        | false => rw [show madeV 8 a b = (0, 3) from by simp [madeV, h1, h2, h0]]; exact made8_pm a b (by simpa using h0) h1 h2 w
        | true => rw [show madeV 8 a b = (1, 0) from by simp [madeV, h1, h2, h0]]; exact made8_py a b (by simpa using h0) h1 h2 w
  · by_cases h0 : a = 0
    · subst h0
      cases h1 : fitsV 0 b with
      | false =>
        rw [show madeV 9 0 b = (0, 3) from by simp [madeV, h1]]
        exact made9_zn 0 b (by rfl) h1 w
      | true =>
        cases h2 : fitsV b b with
        | false => rw [show madeV 9 0 b = (0, 3) from by simp [madeV, h1, h2]]; exact made9_zm 0 b (by rfl) h1 h2 w
        | true => rw [show madeV 9 0 b = (1, 0) from by simp [madeV, h1, h2]]; exact made9_zy 0 b (by rfl) h1 h2 w
    · skip
      cases h1 : fitsV a a with
      | false =>
        rw [show madeV 9 a b = (0, 3) from by simp [madeV, h1, h0]]
        exact made9_pn a b (by simpa using h0) h1 w
      | true =>
        cases h2 : fitsV b a with
        | false => rw [show madeV 9 a b = (0, 3) from by simp [madeV, h1, h2, h0]]; exact made9_pm a b (by simpa using h0) h1 h2 w
        | true => rw [show madeV 9 a b = (1, 0) from by simp [madeV, h1, h2, h0]]; exact made9_py a b (by simpa using h0) h1 h2 w
  · by_cases h0 : a = 0
    · subst h0
      cases h1 : fitsV 0 b with
      | false =>
        rw [show madeV 10 0 b = (0, 3) from by simp [madeV, h1]]
        exact made10_zn 0 b (by rfl) h1 w
      | true =>
        cases h2 : fitsV b b with
        | false => rw [show madeV 10 0 b = (0, 3) from by simp [madeV, h1, h2]]; exact made10_zm 0 b (by rfl) h1 h2 w
        | true => rw [show madeV 10 0 b = (1, 0) from by simp [madeV, h1, h2]]; exact made10_zy 0 b (by rfl) h1 h2 w
    · skip
      cases h1 : fitsV a a with
      | false =>
        rw [show madeV 10 a b = (0, 3) from by simp [madeV, h1, h0]]
        exact made10_pn a b (by simpa using h0) h1 w
      | true =>
        cases h2 : fitsV b a with
        | false => rw [show madeV 10 a b = (0, 3) from by simp [madeV, h1, h2, h0]]; exact made10_pm a b (by simpa using h0) h1 h2 w
        | true => rw [show madeV 10 a b = (1, 0) from by simp [madeV, h1, h2, h0]]; exact made10_py a b (by simpa using h0) h1 h2 w
  · by_cases h0 : a = 0
    · subst h0
      cases h1 : fitsV 0 b with
      | false =>
        rw [show madeV 11 0 b = (0, 3) from by simp [madeV, h1]]
        exact made11_zn 0 b (by rfl) h1 w
      | true =>
        cases h2 : fitsV b b with
        | false => rw [show madeV 11 0 b = (0, 3) from by simp [madeV, h1, h2]]; exact made11_zm 0 b (by rfl) h1 h2 w
        | true => rw [show madeV 11 0 b = (1, 0) from by simp [madeV, h1, h2]]; exact made11_zy 0 b (by rfl) h1 h2 w
    · skip
      cases h1 : fitsV a a with
      | false =>
        rw [show madeV 11 a b = (0, 3) from by simp [madeV, h1, h0]]
        exact made11_pn a b (by simpa using h0) h1 w
      | true =>
        cases h2 : fitsV b a with
        | false => rw [show madeV 11 a b = (0, 3) from by simp [madeV, h1, h2, h0]]; exact made11_pm a b (by simpa using h0) h1 h2 w
        | true => rw [show madeV 11 a b = (1, 0) from by simp [madeV, h1, h2, h0]]; exact made11_py a b (by simpa using h0) h1 h2 w
  · by_cases h0 : a = 0
    · subst h0
      cases h1 : fitsV 0 b with
      | false =>
        rw [show madeV 12 0 b = (0, 3) from by simp [madeV, h1]]
        exact made12_zn 0 b (by rfl) h1 w
      | true =>
        cases h2 : fitsV b b with
        | false => rw [show madeV 12 0 b = (0, 3) from by simp [madeV, h1, h2]]; exact made12_zm 0 b (by rfl) h1 h2 w
        | true => rw [show madeV 12 0 b = (1, 0) from by simp [madeV, h1, h2]]; exact made12_zy 0 b (by rfl) h1 h2 w
    · skip
      cases h1 : fitsV a a with
      | false =>
        rw [show madeV 12 a b = (0, 3) from by simp [madeV, h1, h0]]
        exact made12_pn a b (by simpa using h0) h1 w
      | true =>
        cases h2 : fitsV b a with
        | false => rw [show madeV 12 a b = (0, 3) from by simp [madeV, h1, h2, h0]]; exact made12_pm a b (by simpa using h0) h1 h2 w
        | true => rw [show madeV 12 a b = (1, 0) from by simp [madeV, h1, h2, h0]]; exact made12_py a b (by simpa using h0) h1 h2 w
  · by_cases h0 : a = 0
    · subst h0
      cases h1 : fitsV 0 b with
      | false =>
        rw [show madeV 13 0 b = (0, 3) from by simp [madeV, h1]]
        exact made13_zn 0 b (by rfl) h1 w
      | true =>
        cases h2 : fitsV b b with
        | false => rw [show madeV 13 0 b = (0, 3) from by simp [madeV, h1, h2]]; exact made13_zm 0 b (by rfl) h1 h2 w
        | true => rw [show madeV 13 0 b = (1, 0) from by simp [madeV, h1, h2]]; exact made13_zy 0 b (by rfl) h1 h2 w
    · skip
      cases h1 : fitsV a a with
      | false =>
        rw [show madeV 13 a b = (0, 3) from by simp [madeV, h1, h0]]
        exact made13_pn a b (by simpa using h0) h1 w
      | true =>
        cases h2 : fitsV b a with
        | false => rw [show madeV 13 a b = (0, 3) from by simp [madeV, h1, h2, h0]]; exact made13_pm a b (by simpa using h0) h1 h2 w
        | true => rw [show madeV 13 a b = (1, 0) from by simp [madeV, h1, h2, h0]]; exact made13_py a b (by simpa using h0) h1 h2 w
  ·
    cases h1 : fitsV a 2 with
    | false =>
      rw [show madeV 14 a b = (0, 3) from by simp [madeV, h1]]
      exact made14n a b h1 w
    | true =>
      cases h2 : fitsV b 2 with
      | false => rw [show madeV 14 a b = (0, 3) from by simp [madeV, h1, h2]]; exact made14m a b h1 h2 w
      | true => rw [show madeV 14 a b = (2, 0) from by simp [madeV, h1, h2]]; exact made14y a b h1 h2 w
  ·
    cases h1 : fitsV a 2 with
    | false =>
      rw [show madeV 15 a b = (0, 3) from by simp [madeV, h1]]
      exact made15n a b h1 w
    | true =>
      cases h2 : fitsV b 2 with
      | false => rw [show madeV 15 a b = (0, 3) from by simp [madeV, h1, h2]]; exact made15m a b h1 h2 w
      | true => rw [show madeV 15 a b = (2, 0) from by simp [madeV, h1, h2]]; exact made15y a b h1 h2 w
  ·
    cases h1 : fitsV a 2 with
    | false =>
      rw [show madeV 16 a b = (0, 3) from by simp [madeV, h1]]
      exact made16n a b h1 w
    | true =>
      cases h2 : fitsV b 2 with
      | false => rw [show madeV 16 a b = (0, 3) from by simp [madeV, h1, h2]]; exact made16m a b h1 h2 w
      | true => rw [show madeV 16 a b = (2, 0) from by simp [madeV, h1, h2]]; exact made16y a b h1 h2 w
end Go.Proofs.Ytfgmlgflfagdjaa.ev
