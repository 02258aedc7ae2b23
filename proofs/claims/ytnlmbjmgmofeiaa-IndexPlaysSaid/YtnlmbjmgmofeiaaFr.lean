/- What is appended to an empty slice that was just built is a row of one's own, and nothing that was there is touched. -/
import Derived.Test.YtnlmbjmgmofeiaaRow
import Derived.ArgAppend
namespace Go.Proofs.Ytnlmbjmgmofeiaa.lib
open Go.ChangeShapes Go.WideShapes Go.ChangeAt Go.RowKit
set_option linter.unusedVariables false
section
variable {P : Program}
theorem below_of_grown {w w' : World} (h : w.grownBy w' none) : Below w.heap.size w w' :=
  (Below.refl w.heap.size w).grown h (Nat.le_refl _) (fun b hb => by cases hb)
theorem wp_append_fresh {w : World} {o : Oper} {a : Act} {K : Act → World → Prop} {Q : Exit → Act → World → Prop} (s x : Operand) (t : TypeId)
    (ho : o.op = .call { callee := .builtin .append, args := #[s, x], argTypes := #[t, t] })
    (e : TypeId) (i : TypeInfo) (z : Value) (size bytes : Nat) (ht : P.underlying t = some (.slice e)) (hi : P.info? e = some i) (hz : i.zero = some z)
    (hsize : i.size = size) (hby : i.bytes = bytes) (hzs : z.cells.size = size) (hsz : 0 < size)
    (g : Nat) (hg : w.heap[g]? = some (.cells #[] e (0, 0))) (hs : a.eval s = .slice (some ⟨g, 0, none⟩) 0 0)
    (A : Option Addr) (m c lo : Nat) (news : List Value) (hx : a.eval x = .slice A m c) (hrow : Row w lo A m c news) (hl : news.length = m * size) (h1 : ∀ u ∈ news, u.oneCell' = true)
    (h63 : m ≤ maxLen) (hbytes : m * bytes ≤ 140737488355328)
    (h : ∀ A' c' w', w'.ownsRow g e size (.slice A' m c') m news → Below w.heap.size w w' → K (a.put o.dst (.slice A' m c')) w') : o.wp P a w K Q := by
  have hgl : g < w.heap.size := (Array.getElem?_eq_some_iff.1 hg).1
  have hempty : w.ownsRow g e size (.slice (some ⟨g, 0, none⟩) 0 0) 0 [] := ⟨by simp, .inr ⟨g, 0, #[], rfl, Nat.le_refl _, hg, Nat.le_refl _, Nat.zero_le _, by simp, by simp⟩⟩
  by_cases hm : m = 0
  · subst hm
    obtain rfl : news = [] := List.eq_nil_of_length_eq_zero (by simpa using hl)
    have hrun : (Builtin.append_ #[t, t] o.type #[.slice (some ⟨g, 0, none⟩) 0 0, .slice A 0 c]).run P w = .ok (.slice (some ⟨g, 0, none⟩) 0 0) w := by
      cases A with
      | none =>
        obtain ⟨_, rfl, _⟩ : (0 : Nat) = 0 ∧ c = 0 ∧ True := by
          rcases hrow with h | ⟨_, h, _⟩ | ⟨_, _, h, _⟩
          · exact ⟨rfl, h.2.2.1, trivial⟩
          · cases h
          · cases h
        simp [Builtin.append_, run_underlying ht, sizeOf, typeInfo, hi, Builtin.lenOf, Builtin.firstCells, storeCells]
      | some ad => exact run_append_room_cells (P := P) w t o.type e i ht hi g 0 0 0 ad 0 c [] (by simp) (by simp) (by simp) (Nat.le_refl _) (by simp) (by simp)
    unfold Oper.wp execOp
    simp only [ho, resolve, invoke, builtin, Sem.run_bind, Sem.run_pure, Result.andThen_ok, List.map_toArray, List.map_cons, List.map_nil, hs, hx, hrun]
    exact h _ _ w hempty (Below.refl _ _)
  · cases A with
    | none =>
      rcases hrow with h | ⟨_, h, _⟩ | ⟨_, _, h, _⟩
      · exact absurd h.2.1 hm
      · cases h
      · cases h
    | some ad =>
      obtain ⟨v', w', hrun, r1, r2⟩ := run_append_arg_grows (P := P) w t o.type e i z size bytes ht hi hz hsize hby hzs hsz ⟨g, 0, none⟩ 0 0 [] (by simp) (by simp) ad m c news hl hrow.src' (by omega) (by omega) (by simpa using hbytes)
      simp only [Nat.zero_add, List.nil_append] at r1
      obtain ⟨A', c', rfl⟩ := own_slice r1
      unfold Oper.wp execOp
      simp only [ho, resolve, invoke, builtin, Sem.run_bind, Sem.run_pure, Result.andThen_ok, List.map_toArray, List.map_cons, List.map_nil, hs, hx, hrun]
      exact h _ _ w' (own_base r1 (Nat.le_of_lt hgl)) (below_of_grown r2)
end
end Go.Proofs.Ytnlmbjmgmofeiaa.lib
