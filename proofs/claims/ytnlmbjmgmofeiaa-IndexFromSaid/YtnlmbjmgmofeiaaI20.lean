/- Plain: From's keys, one behind the other. -/
import Derived.Test.YtnlmbjmgmofeiaaI19
namespace Go.Proofs.Ytnlmbjmgmofeiaa.ix
open Go.ChangeShapes Go.WideShapes Go.ChangeAt Go.RowKit Go.Proofs.Ytnlmbjmgmofeiaa.lib Go.Proofs.Ytnlmbjmgmofeiaa.val Go.Proofs.Ytnlmbjmgmofeiaa.tb
set_option linter.unusedVariables false

/-- a key that From tells is an entry's -/
theorem from_ent {es : List En} {v kv : V} {n : Int} {j : Nat} (h : (fromN es v n)[j]? = some kv) : ∃ x, (geE es v)[j]? = some x ∧ x.k = kv := by
  unfold fromN at h
  obtain ⟨hj, e⟩ := List.getElem?_eq_some_iff.1 h
  rw [List.getElem_take] at e
  rw [List.length_take] at hj
  have h2 : (geN es v)[j]? = some kv := by rw [← e]; exact List.getElem?_eq_getElem (by omega)
  rw [geN_E, List.getElem?_map] at h2
  cases hx : (geE es v)[j]? with
  | none => rw [hx] at h2; cases h2
  | some x => rw [hx] at h2; exact ⟨x, rfl, by injection h2⟩
/-- the value kept by the last round is not above the next one's -/
def LastP (es : List En) (v u : V) (j : Nat) : Prop := vchk u = 0 ∧ ∀ x, (geE es v)[j]? = some x → 0 ≤ cmpV x.v u
theorem lastP_0 {es : List En} {v : V} (hv : vchk v = 0) : LastP es v v 0 := ⟨hv, fun x hx => geE_ge (List.mem_of_getElem? hx)⟩
theorem lastP_step {es : List En} {v : V} {j : Nat} {x : En} (ho : Srt es) (h : (geE es v)[j]? = some x) (hx : vchk x.v = 0) : LastP es v x.v (j + 1) := ⟨hx, fun y hy => geE_up ho h hy⟩
end Go.Proofs.Ytnlmbjmgmofeiaa.ix
