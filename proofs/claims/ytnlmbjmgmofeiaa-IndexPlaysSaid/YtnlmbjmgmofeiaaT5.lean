/- Contracts: BinarySearchFunc over a table's rows, find. -/
import Derived.Test.YtnlmbjmgmofeiaaT4
namespace Go.Proofs.Ytnlmbjmgmofeiaa.tb
open Go.ChangeShapes Go.WideShapes Go.ChangeAt Go.RowKit Go.Proofs.Ytnlmbjmgmofeiaa.lib Go.Proofs.Ytnlmbjmgmofeiaa.val
set_option linter.unusedVariables false

/-- rows that have a key each -/
def Keyed (key : Nat) (rows : List (List V)) : Prop := ∀ (i : Nat) r, rows[i]? = some r → r.length ≤ 100000 ∧ ∃ v, r[key]? = some v
theorem Ok.keyed {cs : List Col} {key : Nat} {rows : List (List V)} (h : Ok cs key rows) (hc : cs.length ≤ 100000) : Keyed key rows := fun i r hr => by
  have hf := h.fit r (List.mem_of_getElem? hr)
  have hl := fits_len hf
  obtain ⟨v, hv, _⟩ := key_chk h.kl hf
  exact ⟨by omega, v, hv⟩
end Go.Proofs.Ytnlmbjmgmofeiaa.tb
