/- Contract: put. -/
import Derived.Test.YtfgmlgflfagdjaaK2
import Derived.Laws.AppendOwn
import Derived.Deep.AppendLies
import Derived.Maps.AppendAt
namespace Go.Proofs.Ytfgmlgflfagdjaa.lx
open Go.ChangeShapes Go.WideShapes Go.ChangeAt Go.RowKit Go.Proofs.Ytfgmlgflfagdjaa.lib
set_option linter.unusedVariables false

def cellsW (ws : List Wd) : List Value := ws.flatMap fun x => [.int .i64 x.k, .int .i64 x.n, .string ⟨x.s.toArray⟩]
theorem cellsW_snoc (ws : List Wd) (x : Wd) : cellsW (ws ++ [x]) = cellsW ws ++ [.int .i64 x.k, .int .i64 x.n, .string ⟨x.s.toArray⟩] := by simp [cellsW]
theorem drop_mk (l : List UInt8) (n : Nat) (h : n ≤ l.length) : (ByteArray.mk l.toArray).extract n l.length = ⟨(l.drop n).toArray⟩ := by
  apply ByteArray.ext
  rw [ByteArray.data_extract]
  simp
  exact List.take_of_length_le (by simp)
theorem own_ext {w w' : World} {base : Nat} {e : TypeId} {size n : Nat} {v : Value} {xs : List Value} (h : w.ownsRow base e size v n xs) (hb : Below w.heap.size w w') : w'.ownsRow base e size v n xs := by
  refine h.kept (w' := w') (row := none) ⟨hb.os, hb.tape, hb.output, hb.size, fun k hk _ => hb.block k hk⟩ ?_
  cases ho : v.ownBlock with
  | none => exact .inl rfl
  | some b => exact .inr (by simp)
/-- a store into another block of another kind -/
theorem own_far {w : World} {base : Nat} {e t : TypeId} {size n g : Nat} {v : Value} {xs : List Value} {cs : Array Value} (h : w.ownsRow base e size v n xs) (hb : Blk w g t cs) (hne : e ≠ t) (i : Nat) (u : Value) : (w.setCell ⟨g, i, none⟩ u).ownsRow base e size v n xs := by
  have h1 := own_ne h hb hne
  refine h.kept (row := some g) ⟨by simp [World.setCell], by simp [World.setCell], by simp [World.setCell], by simp [World.setCell], fun k hk hkg => Below.heap_setCell w _ u k (fun e => hkg (by rw [e]))⟩ (.inr (Ne.symm h1))
theorem three_at {w : World} {g : Nat} {t : TypeId} {x y z : Value} (h : Blk w g t #[x, y, z]) : ∀ j u, [x, y, z][j]? = some u → w.cell? ((⟨g, 0, none⟩ : Addr).add j) = some u := by
  intro j u hj
  have hj3 : j < 3 := (List.getElem?_eq_some_iff.1 hj).1
  have e : (⟨g, 0, none⟩ : Addr).add j = ⟨g, j, none⟩ := by unfold Addr.add; split <;> simp_all
  rw [e, h.cell]
  match j, hj3, hj with
  | 0, _, hj => exact hj
  | 1, _, hj => exact hj
  | 2, _, hj => exact hj
end Go.Proofs.Ytfgmlgflfagdjaa.lx
