/- Contracts: find, own, Grow, Concat, with. -/
import Derived.Test.YtnlmbjmgmofeiaaT5
import Derived.Lib.AppendZeros
import Derived.Laws.AppendOwnNone
namespace Go.Proofs.Ytnlmbjmgmofeiaa.tb
open Go.ChangeShapes Go.WideShapes Go.ChangeAt Go.RowKit Go.Proofs.Ytnlmbjmgmofeiaa.lib Go.Proofs.Ytnlmbjmgmofeiaa.val
set_option linter.unusedVariables false

theorem Hs.far {w : World} {lo : Nat} {hs : List Value} {rows : List (List V)} (k : Hs w lo hs rows) {p : Addr} (u : Value) (hp : p.block < lo) : Hs (w.setCell p u) lo hs rows := ⟨k.1, fun i h r h1 h2 => by
  obtain ⟨A, c, e, hv⟩ := k.2 i h r h1 h2
  exact ⟨A, c, e, hv.1.farL u hp, hv.2⟩⟩
def OwnR (rows : List (List V)) (n : Nat) (w : World) (r : Ending) (w' : World) : Prop := ∃ A c, r = .returned (.slice A n c) ∧ Rs w' w.heap.size A n c rows ∧ Fine A ∧ Below w.heap.size w w'
def nilS : Value := .slice none 0 0
theorem made_nil (n : Nat) : (madeCells #[Value.slice none 0 0] n).toList = List.replicate n nilS := by
  apply List.ext_getElem?
  intro i
  simp only [madeCells, Array.toList_map, Array.toList_range, List.getElem?_map, List.getElem?_replicate]
  by_cases h : i < n
  · rw [if_pos h, List.getElem?_range h]
    simp [nilS, Nat.mod_one]
  · rw [if_neg h, List.getElem?_eq_none (by simpa using h)]; rfl
theorem fill_set (hs : List Value) (n k : Nat) (u : Value) (hk : hs.length = k) (hn : k < n) : (hs ++ List.replicate (n - k) nilS).set k u = (hs ++ [u]) ++ List.replicate (n - (k + 1)) nilS := by
  have e : n - k = n - (k + 1) + 1 := by omega
  rw [List.set_append_right _ _ (by omega), hk, Nat.sub_self, e, List.replicate_succ, List.set_cons_zero, List.append_assoc]; rfl
end Go.Proofs.Ytnlmbjmgmofeiaa.tb
