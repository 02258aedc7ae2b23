/- A variable that holds a table. -/
import Derived.Test.YtnlmbjmgmofeiaaT17
namespace Go.Proofs.Ytnlmbjmgmofeiaa.tb
open Go.ChangeShapes Go.WideShapes Go.ChangeAt Go.RowKit Go.Proofs.Ytnlmbjmgmofeiaa.lib Go.Proofs.Ytnlmbjmgmofeiaa.val
set_option linter.unusedVariables false

/-- the variable in block g, of type t, holds a table -/
def TabV (t : TypeId) (w : World) (g : Nat) (S : Sch) (rows : List (List V)) : Prop := ∃ A n c A' n' c', Blk w g t (tabA S A n c A' n' c') ∧ Cs w 0 A n c S.cols ∧ Rs w 0 A' n' c' rows ∧ Fine A'
theorem TabV.ext {t : TypeId} {w w' : World} {g : Nat} {S : Sch} {rows : List (List V)} (h : TabV t w g S rows) (hb : Below w.heap.size w w') : TabV t w' g S rows := by
  obtain ⟨A, n, c, A', n', c', h1, h2, h3, h4⟩ := h
  exact ⟨A, n, c, A', n', c', h1.ext hb, h2.ext hb, h3.ext hb, h4⟩
theorem TabV.lt {t : TypeId} {w : World} {g : Nat} {S : Sch} {rows : List (List V)} (h : TabV t w g S rows) : g < w.heap.size := by
  obtain ⟨A, n, c, A', n', c', h1, _⟩ := h
  exact h1.lt
/-- it is set to a table that was made behind it -/
theorem setV {t : TypeId} {w : World} {g lo : Nat} {x0 x1 x2 x3 x4 : Value} {S : Sch} {rows : List (List V)} {A A' : Option Addr} {n c n' c' : Nat} (hB : Blk w g t #[x0, x1, x2, x3, x4]) (hT : TabR w lo (.agg (tabA S A n c A' n' c')) S rows) (hg : g < lo) :
    ∃ w', w' = ((((w.setCell ⟨g, 0, none⟩ (.string S.name)).setCell ⟨g, 1, none⟩ (.slice A n c)).setCell ⟨g, 2, none⟩ (.int .i64 S.key)).setCell ⟨g, 3, none⟩ (.bool S.only)).setCell ⟨g, 4, none⟩ (.slice A' n' c') ∧
      TabV t w' g S rows ∧ (∀ B, B ≤ g → Below B w w') ∧ w.grownBy w' (some g) := by
  obtain ⟨w', e, h1, h2, h3⟩ := Blk.set5 hB (.string S.name) (.slice A n c) (.int .i64 S.key) (.bool S.only) (.slice A' n' c')
  have hT' := hT.grownL h3 hg
  obtain ⟨A2, n2, c2, A3, n3, c3, e2, k1, k2, k3⟩ := hT'
  injection e2 with e2
  simp only [tabA, Array.mk.injEq, List.cons.injEq, Value.slice.injEq, and_true, true_and] at e2
  obtain ⟨⟨rfl, rfl, rfl⟩, rfl, rfl, rfl⟩ := e2
  exact ⟨w', e, ⟨_, _, _, _, _, _, h1, k1.base (Nat.zero_le _), k2.base (Nat.zero_le _), k3⟩, h2, h3⟩
end Go.Proofs.Ytnlmbjmgmofeiaa.tb
