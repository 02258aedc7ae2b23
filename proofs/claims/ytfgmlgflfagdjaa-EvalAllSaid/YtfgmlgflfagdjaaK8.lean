/- Contracts: Clone, Words. -/
import Derived.Test.YtfgmlgflfagdjaaMK5
import Derived.Lib.SliceRun
import Derived.WalkSpells
namespace Go.Proofs.Ytfgmlgflfagdjaa.lx
open Go.ChangeShapes Go.WideShapes Go.ChangeAt Go.RowKit Go.Proofs.Ytfgmlgflfagdjaa.lib
set_option linter.unusedVariables false

theorem stepL_ne {l : List UInt8} {e : Int} (h : stepL l = .err e) : e ≠ 0 := by
  cases l with
  | nil => injection h with h; subst h; decide
  | cons c r =>
    rw [stepL] at h
    by_cases h1 : blankB c = true
    · rw [if_pos h1] at h; cases h
    rw [if_neg h1] at h
    by_cases h2 : letB c = true
    · rw [if_pos h2] at h; cases h
    rw [if_neg h2] at h
    by_cases h3 : digB c = true
    · rw [if_pos h3] at h
      unfold numSt at h
      split at h
      · cases h
      · injection h with h; subst h; decide
    rw [if_neg h3] at h
    by_cases h4 : c = 39
    · rw [if_pos h4] at h
      unfold textSt at h
      split at h
      · cases h
      · injection h with h; subst h; assumption
    rw [if_neg h4] at h
    by_cases h5 : twoB (c :: r) = true
    · rw [if_pos h5] at h; cases h
    rw [if_neg h5] at h
    by_cases h6 : signB c = true
    · rw [if_pos h6] at h; cases h
    · rw [if_neg h6] at h; injection h with h; subst h; decide
def fin (q : Int × List Wd) : Int × List Wd := if q.1 = 0 then (0, q.2 ++ [endW]) else (q.1, [])
def meas (g : Nat) (wr : World) : Nat := match wr.cell? ⟨g, 5, none⟩, wr.cell? ⟨g, 0, none⟩ with
  | some (.int _ e), some (.string s) => if e = 0 then s.size + 1 else 0
  | _, _ => 0
theorem one_cells (ws : List Wd) : ∀ u ∈ cellsW ws, u.oneCell' = true := by
  intro u hu
  unfold cellsW at hu
  rw [List.mem_flatMap] at hu
  obtain ⟨x, _, hx⟩ := hu
  simp at hx
  rcases hx with rfl | rfl | rfl <;> rfl
end Go.Proofs.Ytfgmlgflfagdjaa.lx
