/- Contracts: slices.Equal of values, of columns. Printed by gen1.py. -/
import Derived.Test.YtnlmbjmgmofeiaaT1
import Derived.Laws.StructEq
namespace Go.Proofs.Ytnlmbjmgmofeiaa.tb
open Go.ChangeShapes Go.WideShapes Go.ChangeAt Go.RowKit Go.Proofs.Ytnlmbjmgmofeiaa.lib Go.Proofs.Ytnlmbjmgmofeiaa.val
set_option linter.unusedVariables false

theorem ba_refl (z : ByteArray) : (z == z) = true := (beqBA z z).2 rfl
theorem tl_beq (a b : ByteArray) : (a.toList == b.toList) = (a == b) := by
  rw [Bool.eq_iff_iff, beqBA, beq_iff_eq, ByteArray.toList_eq, ByteArray.toList_eq]
  exact ⟨fun h => bytes_ext h, fun h => by rw [h]⟩
instance : DecidableEq V := fun a b => decidable_of_iff (a.k = b.k ∧ a.n = b.n ∧ a.s = b.s) (by
  obtain ⟨a1, a2, a3⟩ := a
  obtain ⟨b1, b2, b3⟩ := b
  simp)
instance : DecidableEq Col := fun a b => decidable_of_iff (a.name = b.name ∧ a.kind = b.kind ∧ a.null = b.null) (by
  obtain ⟨a1, a2, a3⟩ := a
  obtain ⟨b1, b2, b3⟩ := b
  simp)

theorem stoodV : Try.prog.stoodInHeld 41 = false := by kernel_rfl
theorem guardV : Try.prog.eqGuardType Try.prog.depth 41 = false := by kernel_rfl
theorem stoodC : Try.prog.stoodInHeld 66 = false := by kernel_rfl
theorem guardC : Try.prog.eqGuardType Try.prog.depth 66 = false := by kernel_rfl
end Go.Proofs.Ytnlmbjmgmofeiaa.tb
