/- Contracts of the document's Add, Sub, Mul. -/
import Derived.Test.YtfgmlgflfagdjaaE14
namespace Go.Proofs.Ytfgmlgflfagdjaa.ev
open Go.ChangeShapes Go.WideShapes Go.ChangeAt Go.RowKit Go.Proofs.Ytfgmlgflfagdjaa.lib Go.Proofs.Ytfgmlgflfagdjaa.val
set_option linter.unusedVariables false

theorem wrap_hi {x : Int} (h : 9223372036854775808 ≤ x) (h2 : x < 27670116110564327424) : wrap64 x = x - 18446744073709551616 := by
  unfold wrap64; omega
theorem wrap_lo {x : Int} (h : x < -9223372036854775808) (h2 : -27670116110564327424 ≤ x) : wrap64 x = x + 18446744073709551616 := by
  unfold wrap64; omega
theorem wrap_in {x : Int} (h : ok64 x) : wrap64 x = x := by
  unfold ok64 at h
  unfold wrap64; omega
theorem add_fine (a b : Int) (ha : ok64 a) (hb : ok64 b) : (decide (wrap64 (a + b) < a) == decide (b < 0)) = decide (ok64 (a + b)) := by
  by_cases h : ok64 (a + b)
  · rw [wrap_in h, decide_eq_true h]
    by_cases hb0 : b < 0
    · rw [decide_eq_true (by omega), decide_eq_true hb0]; rfl
    · rw [decide_eq_false (by omega), decide_eq_false hb0]; rfl
  · rw [decide_eq_false h]
    unfold ok64 at *
    by_cases h2 : 9223372036854775807 < a + b
    · rw [wrap_hi (by omega) (by omega)]
      rw [decide_eq_true (by omega), decide_eq_false (by omega)]; rfl
    · rw [wrap_lo (by omega) (by omega)]
      rw [decide_eq_false (by omega), decide_eq_true (by omega)]; rfl
theorem sub_fine (a b : Int) (ha : ok64 a) (hb : ok64 b) : (decide (a < wrap64 (a - b)) == decide (b < 0)) = decide (ok64 (a - b)) := by
  by_cases h : ok64 (a - b)
  · rw [wrap_in h, decide_eq_true h]
    by_cases hb0 : b < 0
    · rw [decide_eq_true (by omega), decide_eq_true hb0]; rfl
    · rw [decide_eq_false (by omega), decide_eq_false hb0]; rfl
  · rw [decide_eq_false h]
    unfold ok64 at *
    by_cases h2 : 9223372036854775807 < a - b
    · rw [wrap_hi (by omega) (by omega)]
      rw [decide_eq_false (by omega), decide_eq_true (by omega)]; rfl
    · rw [wrap_lo (by omega) (by omega)]
      rw [decide_eq_true (by omega), decide_eq_false (by omega)]; rfl
theorem refAdd (a b : Int) (w : World) (ha : ok64 a) (hb : ok64 b) :
    Calls Try.prog 26 #[.int .i64 a, .int .i64 b] w fun e w' => e = .returned (.tuple #[.int .i64 (wrap64 (a + b)), .bool (decide (ok64 (a + b)))]) ∧ w = w' := by
  rw [← add_fine a b ha hb]
  go_enter Try.func26, Try.ntmps26
  go_wp2
  go_ret2
  exact ⟨rfl, rfl⟩
theorem refSub (a b : Int) (w : World) (ha : ok64 a) (hb : ok64 b) :
    Calls Try.prog 27 #[.int .i64 a, .int .i64 b] w fun e w' => e = .returned (.tuple #[.int .i64 (wrap64 (a - b)), .bool (decide (ok64 (a - b)))]) ∧ w = w' := by
  rw [← sub_fine a b ha hb]
  go_enter Try.func27, Try.ntmps27
  go_wp2
  go_ret2
  exact ⟨rfl, rfl⟩
end Go.Proofs.Ytfgmlgflfagdjaa.ev
