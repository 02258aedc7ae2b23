/- Contracts: key, find's closure, BinarySearchFunc, find. -/
import Derived.Test.YtnlmbjmgmofeiaaT3
import Derived.Deep.CutRange
namespace Go.Proofs.Ytnlmbjmgmofeiaa.tb
open Go.ChangeShapes Go.WideShapes Go.ChangeAt Go.RowKit Go.Proofs.Ytnlmbjmgmofeiaa.lib Go.Proofs.Ytnlmbjmgmofeiaa.val
set_option linter.unusedVariables false

end Go.Proofs.Ytnlmbjmgmofeiaa.tb
