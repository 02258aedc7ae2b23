/- Contracts: Get, Range, Same of rows, of schemas, of tables. -/
import Derived.Test.YtnlmbjmgmofeiaaT11
import Derived.Test.YtnlmbjmgmofeiaaTl
import Derived.Laws.StructEq
namespace Go.Proofs.Ytnlmbjmgmofeiaa.tb
open Go.ChangeShapes Go.WideShapes Go.ChangeAt Go.RowKit Go.Proofs.Ytnlmbjmgmofeiaa.lib Go.Proofs.Ytnlmbjmgmofeiaa.val
set_option linter.unusedVariables false

def GetP (r : List V) (is_ : Bool) (w : World) (e : Ending) (w' : World) : Prop := ∃ A m c, e = .returned (.tuple #[.slice A m c, .bool is_]) ∧ Vs w' w.heap.size A m c r ∧ Below w.heap.size w w'
theorem compare_ (a b : V) (w : World) : Calls Try.prog 37 #[.agg #[.int .i64 a.k, .int .i64 a.n, .string a.s], .agg #[.int .i64 b.k, .int .i64 b.n, .string b.s]] w fun e w' => e = .returned (.int .i64 (cmpV a b)) ∧ Below w.heap.size w w' := compare a.k a.n a.s b.k b.n b.s w
end Go.Proofs.Ytnlmbjmgmofeiaa.tb
