/- Contract: Take. Printed by gentake.py. -/
import Derived.Test.YtnlmbjmgmofeiaaT11
import Derived.Test.YtnlmbjmgmofeiaaTl
namespace Go.Proofs.Ytnlmbjmgmofeiaa.tb
open Go.ChangeShapes Go.WideShapes Go.ChangeAt Go.RowKit Go.Proofs.Ytnlmbjmgmofeiaa.lib Go.Proofs.Ytnlmbjmgmofeiaa.val
set_option linter.unusedVariables false

def TakeP (S : Sch) (p : Int × List (List V)) (r : List V) (w : World) (e : Ending) (w' : World) : Prop := ∃ v A m c, e = .returned (.tuple #[v, .slice A m c, .int .i64 p.1]) ∧ TabR w' w.heap.size v S p.2 ∧ Vs w' w.heap.size A m c r ∧ Below w.heap.size w w'
theorem Vs.grownL {w w' : World} {g lo n c : Nat} {A : Option Addr} {l : List V} (h : Vs w lo A n c l) (hg : w.grownBy w' (some g)) (hl : g < lo) : Vs w' lo A n c l := ⟨h.1.grownL hg hl, h.2⟩
theorem Vs.nil (w : World) (lo : Nat) : Vs w lo none 0 0 [] := ⟨Row.nil _ _, rfl⟩
end Go.Proofs.Ytnlmbjmgmofeiaa.tb
