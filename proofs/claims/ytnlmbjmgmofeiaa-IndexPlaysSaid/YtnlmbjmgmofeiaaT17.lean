/- Contracts: known; Put and Take by their tables. -/
import Derived.Test.YtnlmbjmgmofeiaaT12
import Derived.Test.YtnlmbjmgmofeiaaTf
import Derived.Test.YtnlmbjmgmofeiaaT16
namespace Go.Proofs.Ytnlmbjmgmofeiaa.tb
open Go.ChangeShapes Go.WideShapes Go.ChangeAt Go.RowKit Go.Proofs.Ytnlmbjmgmofeiaa.lib Go.Proofs.Ytnlmbjmgmofeiaa.val
set_option linter.unusedVariables false

def S0 : Sch := ⟨⟨#[120]⟩, colF, 0, false⟩
def r5 : List V := [⟨2, 5, ByteArray.empty⟩]
theorem ok0 : Ok S0.cols S0.key [] := ⟨by decide, fun c h => by injection h with h; rw [← h], fun r h => absurd h (by simp), List.Pairwise.nil⟩
theorem r5_fits : fitsL S0.cols r5 = 0 := by
  unfold fitsL S0 colF r5 fitsGo vchk chk vEq bareN bareS
  simp [fitsGo, ba_refl]
theorem put5 : putL S0.cols S0.key [] r5 = (0, [r5]) := by
  unfold putL
  rw [if_neg (by simpa using r5_fits)]
  rfl
end Go.Proofs.Ytnlmbjmgmofeiaa.tb
