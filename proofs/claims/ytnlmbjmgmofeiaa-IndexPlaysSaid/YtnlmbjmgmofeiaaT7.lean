/- Contracts: Grow, Concat of slices of rows. -/
import Derived.Test.YtnlmbjmgmofeiaaT6
namespace Go.Proofs.Ytnlmbjmgmofeiaa.tb
open Go.ChangeShapes Go.WideShapes Go.ChangeAt Go.RowKit Go.Proofs.Ytnlmbjmgmofeiaa.lib Go.Proofs.Ytnlmbjmgmofeiaa.val
set_option linter.unusedVariables false

/-- one of the slices that are laid one behind the other -/
structure Part where
  A : Option Addr
  n : Nat
  c : Nat
  cs : List Value
structure PartOk (w : World) (p : Part) : Prop where
  row : Row w 0 p.A p.n p.c p.cs
  len : p.cs.length = p.n
  one : ∀ u ∈ p.cs, u.oneCell' = true
theorem PartOk.ext {w w' : World} {p : Part} (h : PartOk w p) (hb : Below w.heap.size w w') : PartOk w' p := ⟨h.row.ext hb, h.len, h.one⟩
def sumN (ps : List Part) : Nat := (ps.map (·.n)).sum
def allC (ps : List Part) : List Value := ps.flatMap (·.cs)
theorem take_snoc {α : Type} {l : List α} {k : Nat} {x : α} (h : l[k]? = some x) : l.take (k + 1) = l.take k ++ [x] := by rw [List.take_add_one, h]; rfl
theorem sumN_snoc {ps : List Part} {k : Nat} {p : Part} (h : ps[k]? = some p) : sumN (ps.take (k + 1)) = sumN (ps.take k) + p.n := by
  rw [take_snoc h]; simp [sumN]
theorem allC_snoc {ps : List Part} {k : Nat} {p : Part} (h : ps[k]? = some p) : allC (ps.take (k + 1)) = allC (ps.take k) ++ p.cs := by
  rw [take_snoc h]; simp [allC]
theorem sumN_le (ps : List Part) (k : Nat) : sumN (ps.take k) ≤ sumN ps := by
  have e : sumN ps = sumN (ps.take k) + sumN (ps.drop k) := by
    unfold sumN
    rw [← List.sum_append, ← List.map_append, List.take_append_drop]
  omega
def ConP (cs : List Value) (n : Nat) (w : World) (r : Ending) (w' : World) : Prop := ∃ A c, r = .returned (.slice A n c) ∧ w'.ownsRow w.heap.size 38 1 (.slice A n c) n cs ∧ Below w.heap.size w w'
end Go.Proofs.Ytnlmbjmgmofeiaa.tb
