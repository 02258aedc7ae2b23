/- Contract of the document's Mul. -/
import Derived.Test.YtfgmlgflfagdjaaMO1
namespace Go.Proofs.Ytfgmlgflfagdjaa.ev
open Go.ChangeShapes Go.WideShapes Go.ChangeAt Go.RowKit Go.Proofs.Ytfgmlgflfagdjaa.lib Go.Proofs.Ytfgmlgflfagdjaa.val
set_option linter.unusedVariables false

theorem kwrap_eq (x : Int) : IntKind.i64.wrap x = wrap64 x := by
  unfold IntKind.wrap wrap64; simp [IntKind.bits, IntKind.signed]; omega
theorem refMul_k (a b : Int) (h : ok64 (a * b)) (ha : ok64 a) (hb : ok64 b) (w : World) :
    Calls Try.prog 28 #[.int .i64 a, .int .i64 b] w fun e w' => (∃ t, e = .returned (.tuple #[.int .i64 (a * b), .bool t]) ∧ t = true) ∧ Below w.heap.size w w' := by
  by_cases a0 : a = 0
  · subst a0
    rw [Int.zero_mul]
    go_enter Try.func28, Try.ntmps28
    go_wp2
    go_ret2
    exact ⟨⟨_, rfl, rfl⟩, Below.refl _ _⟩
  by_cases b0 : b = 0
  · subst b0
    rw [Int.mul_zero]
    have h1 : (a == 0) = false := by simp; exact a0
    go_enter Try.func28, Try.ntmps28
    go_wp2
    go_ret2
    exact ⟨⟨_, rfl, rfl⟩, Below.refl _ _⟩
  have h1 : (a == 0) = false := by simp; exact a0
  have h2 : (b == 0) = false := by simp; exact b0
  have hw : wrap64 (a * b) = a * b := wrap_in h
  have hs1 : ¬ (a = -1 ∧ b = -9223372036854775808) := by rintro ⟨rfl, rfl⟩; unfold ok64 at h; omega
  have hs2 : ¬ (b = -1 ∧ a = -9223372036854775808) := by rintro ⟨rfl, rfl⟩; unfold ok64 at h; omega
  cases c1 : a == -1 <;> cases c2 : b == -9223372036854775808 <;> cases c3 : b == -1 <;> cases c4 : a == -9223372036854775808
  all_goals first
    | (exact absurd ⟨by simpa using c1, by simpa using c2⟩ hs1)
    | (exact absurd ⟨by simpa using c3, by simpa using c4⟩ hs2)
    | (go_enter Try.func28, Try.ntmps28
       go_wp2_with fail
       refine wp_region_one [(0, true), (1, true), (2, true), (3, true), (4, true), (5, true), (6, true), (7, true)] (by kernel_rfl) (by kernel_rfl) (by kernel_rfl) (by decide) ?_
       repeat ((with_reducible show wpPerm _ _ _ _ ((_, true) :: _) _ _); (first | (refine wpPerm_on (v := ?_) rfl rfl (wanted_free rfl) (fun w' hS => ?_) ?_; rotate_left; (focus (go_simp; (try with_reducible rfl); done)); try simp only [List.setIfInBounds_toArray, List.set_cons_zero, List.set_cons_succ]) | (refine wpPerm_on (v := ?_) rfl rfl (wanted_yes rfl rfl rfl) (fun w' hS => ?_) ?_; rotate_left; (focus (go_simp; (try with_reducible rfl); done)); try simp only [List.setIfInBounds_toArray, List.set_cons_zero, List.set_cons_succ]) | (refine wpPerm_off rfl rfl (wanted_no rfl rfl rfl) ?_; try simp only [List.setIfInBounds_toArray, List.set_cons_zero, List.set_cons_succ]) | (refine wpPerm_off rfl rfl (wanted_undef rfl rfl rfl) ?_; try simp only [List.setIfInBounds_toArray, List.set_cons_zero, List.set_cons_succ])))
       refine wpPerm_done ?_
       go_wp2
       go_ret2
       exact ⟨⟨_, rfl, by simp [kwrap_eq, wrap_in ha]⟩, (Below.refl _ _).drew⟩)

theorem refMul_o (a b : Int) (h : ¬ ok64 (a * b)) (ha : ok64 a) (hb : ok64 b) (w : World) :
    Calls Try.prog 28 #[.int .i64 a, .int .i64 b] w fun e w' => (∃ c t, e = .returned (.tuple #[.int .i64 c, .bool t]) ∧ t = false) ∧ Below w.heap.size w w' := by
  have a0 : a ≠ 0 := by rintro rfl; exact h (by simp [ok64])
  have b0 : b ≠ 0 := by rintro rfl; exact h (by simp [ok64])
  have h1 : (a == 0) = false := by simp; exact a0
  have h2 : (b == 0) = false := by simp; exact b0
  cases c1 : a == -1 <;> cases c2 : b == -9223372036854775808 <;> cases c3 : b == -1 <;> cases c4 : a == -9223372036854775808
  all_goals first
    | (go_enter Try.func28, Try.ntmps28
       go_wp2
       go_ret2
       exact ⟨⟨_, _, rfl, rfl⟩, Below.refl _ _⟩)
    | (have hq0 := quo_over a b ha hb b0 (by rintro ⟨rfl, rfl⟩; simp at c3 c4) h
       go_enter Try.func28, Try.ntmps28
       go_wp2_with fail
       refine wp_region_one [(0, true), (1, true), (2, true), (3, true), (4, true), (5, true), (6, true), (7, true)] (by kernel_rfl) (by kernel_rfl) (by kernel_rfl) (by decide) ?_
       repeat ((with_reducible show wpPerm _ _ _ _ ((_, true) :: _) _ _); (first | (refine wpPerm_on (v := ?_) rfl rfl (wanted_free rfl) (fun w' hS => ?_) ?_; rotate_left; (focus (go_simp; (try with_reducible rfl); done)); try simp only [List.setIfInBounds_toArray, List.set_cons_zero, List.set_cons_succ]) | (refine wpPerm_on (v := ?_) rfl rfl (wanted_yes rfl rfl rfl) (fun w' hS => ?_) ?_; rotate_left; (focus (go_simp; (try with_reducible rfl); done)); try simp only [List.setIfInBounds_toArray, List.set_cons_zero, List.set_cons_succ]) | (refine wpPerm_off rfl rfl (wanted_no rfl rfl rfl) ?_; try simp only [List.setIfInBounds_toArray, List.set_cons_zero, List.set_cons_succ]) | (refine wpPerm_off rfl rfl (wanted_undef rfl rfl rfl) ?_; try simp only [List.setIfInBounds_toArray, List.set_cons_zero, List.set_cons_succ])))
       refine wpPerm_done ?_
       go_wp2
       go_ret2
       exact ⟨⟨_, _, rfl, by simpa [kwrap_eq] using hq0⟩, (Below.refl _ _).drew⟩)
end Go.Proofs.Ytfgmlgflfagdjaa.ev
