/- Contract: Put. -/
import Derived.Test.YtnlmbjmgmofeiaaT10
namespace Go.Proofs.Ytnlmbjmgmofeiaa.tb
open Go.ChangeShapes Go.WideShapes Go.ChangeAt Go.RowKit Go.Proofs.Ytnlmbjmgmofeiaa.lib Go.Proofs.Ytnlmbjmgmofeiaa.val
set_option linter.unusedVariables false

theorem Hs.nth {w : World} {lo : Nat} {hs : List Value} {rows : List (List V)} (h : Hs w lo hs rows) : Hs w 0 hs rows := h.base (Nat.zero_le _)
theorem part_of {w : World} {lo n c : Nat} {A : Option Addr} {rows : List (List V)} (h : Rs w lo A n c rows) : ∃ cs, PartOk w ⟨A, n, c, cs⟩ ∧ Hs w 0 cs rows ∧ n = rows.length := by
  obtain ⟨hs, h1, h2, h3⟩ := h
  exact ⟨hs, ⟨h1.base (Nat.zero_le _), by rw [h2.1]; exact h3, h2.one_⟩, h2.nth, h3.symm⟩
theorem Cs.base' {w : World} {lo n c : Nat} {A : Option Addr} {l : List Col} (h : Cs w lo A n c l) : Cs w 0 A n c l := h.base (Nat.zero_le _)
theorem TabR.grownL {w w' : World} {g lo : Nat} {v : Value} {S : Sch} {rows : List (List V)} (h : TabR w lo v S rows) (hg : w.grownBy w' (some g)) (hl : g < lo) : TabR w' lo v S rows := by
  obtain ⟨A, n, c, A', n', c', e, h1, h2, h3⟩ := h
  exact ⟨A, n, c, A', n', c', e, h1.grownL hg hl, h2.grownL hg hl, h3⟩
theorem Rs.len {w : World} {lo n c : Nat} {A : Option Addr} {rows : List (List V)} (h : Rs w lo A n c rows) : rows.length = n := by obtain ⟨_, _, _, h⟩ := h; exact h
theorem Ok.small {cs : List Col} {key : Nat} {rows : List (List V)} (h : Ok cs key rows) (hc : cs.length ≤ 100) : ∀ r ∈ rows, r.length ≤ 100000 := fun r hr => by
  have := fits_len (h.fit r hr); omega
def PutP (S : Sch) (p : Int × List (List V)) (w : World) (e : Ending) (w' : World) : Prop := ∃ v, e = .returned (.tuple #[v, .int .i64 p.1]) ∧ TabR w' w.heap.size v S p.2 ∧ Below w.heap.size w w'
end Go.Proofs.Ytnlmbjmgmofeiaa.tb
