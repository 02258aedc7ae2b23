/- Contracts: sync.Once done by one goroutine, at a word walker's block; fail. -/
import Derived.Test.YtfgmlgflfagdjaaL2
import Derived.Tactics
import Derived.Tactics2
import Derived.Defers
import Derived.Laws.Pointers
import Derived.Laws.LoneSync
import Derived.RegionTactic
import Derived.RegionCalls
import Derived.ChangeAlike
import Derived.OwnWalk
namespace Go.Proofs.Ytfgmlgflfagdjaa.lx
open Go.ChangeShapes Go.WideShapes Go.ChangeAt Go.RowKit Go.Proofs.Ytfgmlgflfagdjaa.lib
set_option linter.unusedVariables false

end Go.Proofs.Ytfgmlgflfagdjaa.lx
