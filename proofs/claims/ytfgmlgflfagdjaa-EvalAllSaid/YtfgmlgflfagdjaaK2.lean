/- Contracts: fail, is, front, put. -/
import Derived.Test.YtfgmlgflfagdjaaK1
import Derived.Test.YtfgmlgflfagdjaaT
import Derived.Lib.Bytealg
import Derived.Laws.RangeAny
import Derived.Laws.RangeString
import Derived.LoopTactic
namespace Go.Proofs.Ytfgmlgflfagdjaa.lx
open Go.ChangeShapes Go.WideShapes Go.ChangeAt Go.RowKit Go.Proofs.Ytfgmlgflfagdjaa.lib
set_option linter.unusedVariables false

theorem own_ne {w : World} {base size n g : Nat} {e t : TypeId} {v : Value} {xs : List Value} {cs : Array Value} (h : w.ownsRow base e size v n xs) (hb : Blk w g t cs) (hne : e ≠ t) : some g ≠ v.ownBlock := by
  intro hg
  rcases h.2 with ⟨rfl, _⟩ | ⟨g', cap, cur, rfl, _, hh, _⟩
  · cases hg
  · have : g = g' := by simpa [Value.ownBlock] using hg
    subst this
    unfold Blk at hb
    rw [hb] at hh
    injection hh with hh
    injection hh with _ h2 _
    exact hne h2.symm

theorem Blk.drew {w : World} {g : Nat} {t : TypeId} {cs : Array Value} (h : Blk w g t cs) : Blk w.drew g t cs := h
/-- the walker's cells -/
def wk (s : List UInt8) (out : Value) (d e : Int) : Array Value := #[.string ⟨s.toArray⟩, out, .int .u32 d, .int .i32 0, .int .u32 0, .int .i64 e]
theorem six {w : World} {g : Nat} {t : TypeId} {x0 x1 x2 x3 x4 x5 : Value} (h : Blk w g t #[x0, x1, x2, x3, x4, x5]) {w' : World} (hb : Below w.heap.size w w') :
    w'.cell? ⟨g, 0, none⟩ = some x0 ∧ w'.cell? ⟨g, 1, none⟩ = some x1 ∧ w'.cell? ⟨g, 2, none⟩ = some x2 ∧ w'.cell? ⟨g, 3, none⟩ = some x3 ∧ w'.cell? ⟨g, 4, none⟩ = some x4 ∧ w'.cell? ⟨g, 5, none⟩ = some x5 :=
  ⟨(h.ext hb).cell 0, (h.ext hb).cell 1, (h.ext hb).cell 2, (h.ext hb).cell 3, (h.ext hb).cell 4, (h.ext hb).cell 5⟩

theorem indexByte_in (l : List UInt8) (c : UInt8) : decide (0 ≤ Lib.indexByte l c) = l.contains c := by
  induction l with
  | nil => rfl
  | cons b l ih =>
    rw [List.contains_cons]
    have hg := Lib.indexByte_ge l c
    unfold Lib.indexByte
    by_cases hb : b = c
    · subst hb; simp
    · have h1 : (b == c) = false := by simpa using hb
      have h2 : (c == b) = false := by simpa using fun e => hb e.symm
      rw [h1, h2]
      simp only [Bool.false_eq_true, if_false, Bool.false_or]
      rw [← ih]
      by_cases h : Lib.indexByte l c = -1
      · rw [h]; decide
      · have e1 : (Lib.indexByte l c == -1) = false := by simpa using h
        rw [e1]
        simp only [Bool.false_eq_true, if_false]
        congr 1
        exact propext ⟨fun _ => by omega, fun _ => by omega⟩
theorem size_mk (l : List UInt8) : (ByteArray.mk l.toArray).size = l.length := by simp [ByteArray.size]
theorem get_mk (l : List UInt8) (i : Nat) (h : i < (ByteArray.mk l.toArray).size) (h2 : i < l.length) : (ByteArray.mk l.toArray)[i]'h = l[i] := by
  simp [ByteArray.getElem_eq_getElem_data]
theorem tw_bound (p : UInt8 → Bool) : ∀ l : List UInt8, (l.takeWhile p).length ≤ l.length
  | [] => Nat.le_refl _
  | c :: l => by
    unfold List.takeWhile
    split
    · exact Nat.succ_le_succ (tw_bound p l)
    · exact Nat.zero_le _
theorem tw_at (p : UInt8 → Bool) : ∀ (l : List UInt8) (k : Nat), (∀ j (hj : j < l.length), j < k → p l[j] = true) → (∀ hk : k < l.length, p l[k] = false) → k ≤ l.length → (l.takeWhile p).length = k
  | [], k, _, _, h => by simp at h; subst h; rfl
  | c :: l, 0, _, h, _ => by
    have := h (by simp)
    simp at this
    simp [List.takeWhile, this]
  | c :: l, k + 1, h1, h2, h3 => by
    have hc := h1 0 (by simp) (by omega)
    simp at hc
    simp only [List.takeWhile, hc, List.length_cons]
    rw [tw_at p l k (fun j hj hjk => by have := h1 (j + 1) (by simpa using hj) (by omega); simpa using this) (fun hk => by have := h2 (by simpa using hk); simpa using this) (by simpa using h3)]
theorem width_pos (s : ByteArray) (pos : Nat) (h : pos < s.size) : 1 ≤ (Utf8.decode s pos).2 := by
  by_cases ha : (s[pos]'h).toNat < 128
  · rw [decode_ascii s pos h ha]
    exact Nat.le_refl _
  · exact (decode_high s pos h (by omega)).2

end Go.Proofs.Ytfgmlgflfagdjaa.lx
