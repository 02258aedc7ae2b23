/- Contracts: the document's Range; rows. Printed by genrrange.py. -/
import Derived.Test.YtnlmbjmgmofeiaaU2
namespace Go.Proofs.Ytnlmbjmgmofeiaa.tb
open Go.ChangeShapes Go.WideShapes Go.ChangeAt Go.RowKit Go.Proofs.Ytnlmbjmgmofeiaa.lib Go.Proofs.Ytnlmbjmgmofeiaa.val
set_option linter.unusedVariables false

end Go.Proofs.Ytnlmbjmgmofeiaa.tb
