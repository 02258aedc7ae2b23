/- ParseDeep: the walk. Printed by gen20.py. -/
import Derived.Test.YtfnceamkephpjaaGreatMP18
namespace Go.Proofs.YtfnceamkephpjaaGreat.pg
open Go.ChangeShapes Go.WideShapes Go.ChangeAt Go.RowKit Go.Proofs.YtfnceamkephpjaaGreat.lib Go.Proofs.YtfnceamkephpjaaGreat.lx
set_option linter.unusedVariables false

/-- bytes as a string of their own -/
structure IsT (s : ByteArray) (l : List UInt8) : Prop where
  eq : s = ⟨l.toArray⟩
theorem IsT.size {s : ByteArray} {l : List UInt8} (h : IsT s l) : s.size = l.length := by rw [h.eq]; exact size_mk l
theorem IsT.app {s t : ByteArray} {l m k : List UInt8} (h : IsT s l) (h2 : IsT t m) (e : l ++ m = k) : IsT (s ++ t) k := ⟨by rw [h.eq, h2.eq, app_mk, e]⟩
theorem IsT.lit (l : List UInt8) : IsT ⟨l.toArray⟩ l := ⟨rfl⟩
theorem plusT_snoc : ∀ n, plusT n ++ [43, 49] = plusT (n + 1)
  | 0 => rfl
  | n + 1 => by
    have := plusT_snoc n
    simp only [plusT, List.cons_append] at this ⊢
    rw [this]
theorem deep_up (n k : Nat) : [40] ++ deepT n k ++ [41] = deepT n (k + 1) := by
  unfold deepT
  rw [List.replicate_succ, show List.replicate (k + 1) (41 : UInt8) = List.replicate k 41 ++ [41] by rw [List.replicate_succ']]
  simp
theorem last_op {es : List Nd} {n : Nat} (hl : es.length = 2 * n + 1) (ho : (es.getLast?.map (·.op)) = some 14) : ∃ x, es[2 * n]? = some x ∧ x.op = 14 := by
  rw [List.getLast?_eq_getElem?, hl, show 2 * n + 1 - 1 = 2 * n by omega] at ho
  cases h : es[2 * n]? with
  | none => rw [h] at ho; cases ho
  | some x => rw [h] at ho; exact ⟨x, rfl, by injection ho⟩
end Go.Proofs.YtfnceamkephpjaaGreat.pg
