/- Contract: with. -/
import Derived.Test.YtnlmbjmgmofeiaaT7
import Derived.Test.YtnlmbjmgmofeiaaS
namespace Go.Proofs.Ytnlmbjmgmofeiaa.tb
open Go.ChangeShapes Go.WideShapes Go.ChangeAt Go.RowKit Go.Proofs.Ytnlmbjmgmofeiaa.lib Go.Proofs.Ytnlmbjmgmofeiaa.val
set_option linter.unusedVariables false

theorem Blk.set1 {w : World} {g i : Nat} {t : TypeId} {cs : Array Value} (h : Blk w g t cs) (a : Value) : ∃ w', w' = w.setCell ⟨g, i, none⟩ a ∧ Blk w' g t (cs.setIfInBounds i a) ∧ (∀ B, B ≤ g → Below B w w') ∧ w.grownBy w' (some g) := by
  refine ⟨_, rfl, h.set_ i a, fun B hB => (Below.refl _ _).setCell hB _, ⟨rfl, rfl, rfl, by simp [World.setCell], fun k hk hne => ?_⟩⟩
  have hne : k ≠ g := fun e => hne (by rw [e])
  exact Below.heap_setCell _ _ _ _ hne
theorem grown_trans {a b c : World} {g : Nat} (h : a.grownBy b (some g)) (k : b.grownBy c (some g)) : a.grownBy c (some g) :=
  ⟨k.os.trans h.os, k.tape.trans h.tape, k.output.trans h.output, Nat.le_trans h.size k.size, fun i hi hne => (k.block i (Nat.lt_of_lt_of_le hi h.size) hne).trans (h.block i hi hne)⟩
theorem Blk.set5 {w : World} {g : Nat} {t : TypeId} {x0 x1 x2 x3 x4 : Value} (h : Blk w g t #[x0, x1, x2, x3, x4]) (a0 a1 a2 a3 a4 : Value) :
    ∃ w', w' = ((((w.setCell ⟨g, 0, none⟩ a0).setCell ⟨g, 1, none⟩ a1).setCell ⟨g, 2, none⟩ a2).setCell ⟨g, 3, none⟩ a3).setCell ⟨g, 4, none⟩ a4 ∧ Blk w' g t #[a0, a1, a2, a3, a4] ∧
    (∀ B, B ≤ g → Below B w w') ∧ w.grownBy w' (some g) := by
  obtain ⟨w0, e0, h0, b0, g0⟩ := Blk.set1 (i := 0) h a0
  obtain ⟨w1, e1, h1, b1, g1⟩ := Blk.set1 (i := 1) h0 a1
  obtain ⟨w2, e2, h2, b2, g2⟩ := Blk.set1 (i := 2) h1 a2
  obtain ⟨w3, e3, h3, b3, g3⟩ := Blk.set1 (i := 3) h2 a3
  obtain ⟨w4, e4, h4, b4, g4⟩ := Blk.set1 (i := 4) h3 a4
  refine ⟨w4, by rw [e4, e3, e2, e1, e0], by simpa using h4, fun B hB => ?_, grown_trans (grown_trans (grown_trans (grown_trans g0 g1) g2) g3) g4⟩
  exact Below.trans (b0 B hB) (Below.trans (b1 B hB) (Below.trans (b2 B hB) (Below.trans (b3 B hB) (b4 B hB))))
def TabP (S : Sch) (rows : List (List V)) (w : World) (r : Ending) (w' : World) : Prop := ∃ v, r = .returned v ∧ TabR w' w.heap.size v S rows ∧ Below w.heap.size w w'
theorem Cs.grown {w w' : World} {row : Option Nat} {lo n c B : Nat} {A : Option Addr} {l : List Col} (h : Cs w lo A n c l) (hw : w.heap.size ≤ B) (hg : w.grownBy w' row) (hl : ∀ g, row = some g → B ≤ g) : Cs w' lo A n c l := ⟨h.1.grownB hw hg hl, h.2⟩
theorem Cs.grownL {w w' : World} {g lo n c : Nat} {A : Option Addr} {l : List Col} (h : Cs w lo A n c l) (hg : w.grownBy w' (some g)) (hl : g < lo) : Cs w' lo A n c l := ⟨h.1.grownL hg hl, h.2⟩
theorem Hs.grownL {w w' : World} {g lo : Nat} {hs : List Value} {rows : List (List V)} (h : Hs w lo hs rows) (hg : w.grownBy w' (some g)) (hl : g < lo) : Hs w' lo hs rows := ⟨h.1, fun i h' r h1 h2 => by
  obtain ⟨A, c, e, hv⟩ := h.2 i h' r h1 h2
  exact ⟨A, c, e, hv.1.grownL hg hl, hv.2⟩⟩
theorem Rs.grownL {w w' : World} {g lo n c : Nat} {A : Option Addr} {rows : List (List V)} (h : Rs w lo A n c rows) (hg : w.grownBy w' (some g)) (hl : g < lo) : Rs w' lo A n c rows := by
  obtain ⟨hs, h1, h2, h3⟩ := h
  exact ⟨hs, h1.grownL hg hl, h2.grownL hg hl, h3⟩
end Go.Proofs.Ytnlmbjmgmofeiaa.tb
