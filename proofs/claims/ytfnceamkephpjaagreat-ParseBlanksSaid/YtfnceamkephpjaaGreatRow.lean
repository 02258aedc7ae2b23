/- Slices as rows of cells: a row that lies anywhere in a block ('Row'), cut, held over calls, made by append. -/
import Derived.Test.YtfnceamkephpjaaGreatLib
import Derived.Tactics
import Derived.Tactics2
import Derived.RegionTactic
import Derived.RegionCalls
import Derived.OwnWalk
import Derived.Lib.SliceRun
import Derived.WalkSpells
namespace Go.Proofs.YtfnceamkephpjaaGreat.lib
open Go.ChangeShapes Go.WideShapes Go.ChangeAt Go.RowKit
set_option linter.unusedVariables false

/-- A slice (A, n, c) whose cells are cs; where there are any, they lie in a block that is not below lo. -/
def Row (w : World) (lo : Nat) (A : Option Addr) (n c : Nat) (cs : List Value) : Prop :=
  (A = none ∧ n = 0 ∧ c = 0 ∧ cs = []) ∨ (∃ ad, A = some ad ∧ n = 0 ∧ n ≤ c ∧ cs = []) ∨ ∃ b off, A = some ⟨b, off, none⟩ ∧ n ≤ c ∧ lo ≤ b ∧ b < w.heap.size ∧ ∀ (i : Nat) u, cs[i]? = some u → w.cell? ⟨b, off + i, none⟩ = some u
theorem Row.nil (w : World) (lo : Nat) : Row w lo none 0 0 [] := .inl ⟨rfl, rfl, rfl, rfl⟩
theorem Row.empty (w : World) (lo c : Nat) (ad : Addr) : Row w lo (some ad) 0 c [] := .inr (.inl ⟨ad, rfl, rfl, Nat.zero_le _, rfl⟩)
theorem Row.below {w w' : World} {lo B n c : Nat} {A : Option Addr} {cs : List Value} (h : Row w lo A n c cs) (hb : Below B w w') (hB : w.heap.size ≤ B) : Row w' lo A n c cs := by
  rcases h with h | h | ⟨b, off, e, hnc, hlo, hlt, hc⟩
  · exact .inl h
  · exact .inr (.inl h)
  · exact .inr (.inr ⟨b, off, e, hnc, hlo, Nat.lt_of_lt_of_le hlt hb.size, fun i u hu => (hb.cell (Nat.lt_of_lt_of_le hlt hB)).trans (hc i u hu)⟩)
theorem Row.ext {w w' : World} {lo n c : Nat} {A : Option Addr} {cs : List Value} (h : Row w lo A n c cs) (hb : Below w.heap.size w w') : Row w' lo A n c cs := h.below hb (Nat.le_refl _)
theorem Row.base {w : World} {lo lo' n c : Nat} {A : Option Addr} {cs : List Value} (h : Row w lo A n c cs) (hl : lo' ≤ lo) : Row w lo' A n c cs := by
  rcases h with h | h | ⟨b, off, e, hnc, hlo, hlt, hc⟩
  · exact .inl h
  · exact .inr (.inl h)
  · exact .inr (.inr ⟨b, off, e, hnc, Nat.le_trans hl hlo, hlt, hc⟩)
/-- another block grows -/
theorem Row.grown {w w' : World} {row : Option Nat} {lo n c : Nat} {A : Option Addr} {cs : List Value} (h : Row w lo A n c cs) (hg : w.grownBy w' row) (hr : ∀ b off, A = some ⟨b, off, none⟩ → some b ≠ row) : Row w' lo A n c cs := by
  rcases h with h | h | ⟨b, off, e, hnc, hlo, hlt, hc⟩
  · exact .inl h
  · exact .inr (.inl h)
  · exact .inr (.inr ⟨b, off, e, hnc, hlo, Nat.lt_of_lt_of_le hlt hg.size, fun i u hu => (World.cell?_of_block (hg.block b hlt (hr b off e))).trans (hc i u hu)⟩)
/-- a store into another block -/
theorem Row.far {w : World} {lo n c : Nat} {A : Option Addr} {cs : List Value} (h : Row w lo A n c cs) {p : Addr} (u : Value) (hp : ∀ b off, A = some ⟨b, off, none⟩ → b ≠ p.block) : Row (w.setCell p u) lo A n c cs := by
  rcases h with h | h | ⟨b, off, e, hnc, hlo, hlt, hc⟩
  · exact .inl h
  · exact .inr (.inl h)
  · exact .inr (.inr ⟨b, off, e, hnc, hlo, by simpa [World.setCell] using hlt, fun i u' hu => (World.cell?_of_block (Below.heap_setCell w p u b (hp b off e))).trans (hc i u' hu)⟩)
/-- the same, where the block lies below all of the row's -/
theorem Row.farL {w : World} {lo n c : Nat} {A : Option Addr} {cs : List Value} (h : Row w lo A n c cs) {p : Addr} (u : Value) (hp : p.block < lo) : Row (w.setCell p u) lo A n c cs := by
  rcases h with h | h | ⟨b, off, e, hnc, hlo, hlt, hc⟩
  · exact .inl h
  · exact .inr (.inl h)
  · exact .inr (.inr ⟨b, off, e, hnc, hlo, by simpa [World.setCell] using hlt, fun i u' hu => (World.cell?_of_block (Below.heap_setCell w p u b (by omega))).trans (hc i u' hu)⟩)
theorem Row.grownL {w w' : World} {g lo n c : Nat} {A : Option Addr} {cs : List Value} (h : Row w lo A n c cs) (hg : w.grownBy w' (some g)) (hl : g < lo) : Row w' lo A n c cs := by
  rcases h with h | h | ⟨b, off, e, hnc, hlo, hlt, hc⟩
  · exact .inl h
  · exact .inr (.inl h)
  · exact .inr (.inr ⟨b, off, e, hnc, hlo, Nat.lt_of_lt_of_le hlt hg.size, fun i u hu => (World.cell?_of_block (hg.block b hlt (by simp; omega))).trans (hc i u hu)⟩)
/-- another block, that was there before, grows -/
theorem Row.grownB {w w' : World} {row : Option Nat} {lo n c B : Nat} {A : Option Addr} {cs : List Value} (h : Row w lo A n c cs) (hw : w.heap.size ≤ B) (hg : w.grownBy w' row) (hl : ∀ g, row = some g → B ≤ g) : Row w' lo A n c cs := by
  rcases h with h | h | ⟨b, off, e, hnc, hlo, hlt, hc⟩
  · exact .inl h
  · exact .inr (.inl h)
  · exact .inr (.inr ⟨b, off, e, hnc, hlo, Nat.lt_of_lt_of_le hlt hg.size, fun i u hu => (World.cell?_of_block (hg.block b hlt (fun e => by have := hl b e.symm; omega))).trans (hc i u hu)⟩)
theorem Row.le_ {w : World} {lo n c : Nat} {A : Option Addr} {cs : List Value} (h : Row w lo A n c cs) : n ≤ c := by
  rcases h with h | ⟨_, _, _, h, _⟩ | ⟨b, off, e, hnc, _⟩
  · omega
  · exact h
  · exact hnc
theorem Row.some_ {w : World} {lo n c : Nat} {A : Option Addr} {cs : List Value} (h : Row w lo A n c cs) (hn : 0 < n) : ∃ b off, A = some ⟨b, off, none⟩ ∧ n ≤ c ∧ lo ≤ b ∧ b < w.heap.size := by
  rcases h with h | ⟨_, _, h, _⟩ | ⟨b, off, e, hnc, hlo, hlt, hc⟩
  · omega
  · omega
  · exact ⟨b, off, e, hnc, hlo, hlt⟩
theorem Row.at_ {w : World} {lo n c b off : Nat} {cs : List Value} (h : Row w lo (some ⟨b, off, none⟩) n c cs) {i : Nat} {u : Value} (hu : cs[i]? = some u) : w.cell? ⟨b, off + i, none⟩ = some u := by
  rcases h with h | ⟨_, _, _, _, h⟩ | ⟨b', off', e, hnc, hlo, hlt, hc⟩
  · cases h.1
  · rw [h] at hu; simp at hu
  · injection e with e
    injection e with e1 e2
    subst e1 e2
    exact hc i u hu
theorem Row.src {w : World} {lo n c b off : Nat} {cs : List Value} (h : Row w lo (some ⟨b, off, none⟩) n c cs) : ∀ j u, cs[j]? = some u → w.cell? ((⟨b, off, none⟩ : Addr).add j) = some u := fun j u hu => by
  rw [Addr.add_lit]; exact h.at_ hu
/-- the source of an append, at whatever address -/
theorem Row.src' {w : World} {lo n c : Nat} {ad : Addr} {cs : List Value} (h : Row w lo (some ad) n c cs) : ∀ j u, cs[j]? = some u → w.cell? (ad.add j) = some u := fun j u hu => by
  rcases h with h | ⟨_, _, _, _, h⟩ | ⟨b', off', e, hnc, hlo, hlt, hc⟩
  · cases h.1
  · rw [h] at hu; simp at hu
  · injection e with e
    subst e
    rw [Addr.add_lit]
    exact hc j u hu
theorem Row.take {w : World} {lo n c b off : Nat} {cs : List Value} (h : Row w lo (some ⟨b, off, none⟩) n c cs) (m m' k : Nat) (hm : m ≤ m') (hn : m ≤ n) : Row w lo (some ⟨b, off, none⟩) m m' (cs.take k) := by
  rcases h with h | ⟨_, _, h1, _, h⟩ | ⟨b', off', e, hnc, hlo, hlt, hc⟩
  · cases h.1
  · subst h
    obtain rfl : m = 0 := by omega
    rw [List.take_nil]
    exact Row.empty w lo _ _
  · refine .inr (.inr ⟨b', off', e, hm, hlo, hlt, fun i u hu => hc i u ?_⟩)
    rw [List.getElem?_take] at hu
    split at hu
    · exact hu
    · cases hu
theorem Row.drop {w : World} {lo n c b off : Nat} {cs : List Value} (h : Row w lo (some ⟨b, off, none⟩) n c cs) (m m' k : Nat) (hm : m ≤ m') (hn : m ≤ n) : Row w lo (some ⟨b, off + k, none⟩) m m' (cs.drop k) := by
  rcases h with h | ⟨_, _, h1, _, h⟩ | ⟨b', off', e, hnc, hlo, hlt, hc⟩
  · cases h.1
  · subst h
    obtain rfl : m = 0 := by omega
    rw [List.drop_nil]
    exact Row.empty w lo _ _
  · injection e with e
    injection e with e1 e2
    subst e1 e2
    refine .inr (.inr ⟨b, off + k, rfl, hm, hlo, hlt, fun i u hu => ?_⟩)
    rw [List.getElem?_drop] at hu
    rw [Nat.add_assoc]
    exact hc _ _ hu
theorem own_slice {w : World} {base : Nat} {t : TypeId} {size n : Nat} {v : Value} {xs : List Value} (h : w.ownsRow base t size v n xs) : ∃ A c, v = .slice A n c := by
  rcases h.2 with ⟨rfl, rfl⟩ | ⟨g, cap, cur, rfl, _⟩
  · exact ⟨none, 0, rfl⟩
  · exact ⟨_, cap, rfl⟩
theorem own_ext {w w' : World} {base : Nat} {e : TypeId} {size n : Nat} {v : Value} {xs : List Value} (h : w.ownsRow base e size v n xs) (hb : Below w.heap.size w w') : w'.ownsRow base e size v n xs := by
  refine h.kept (w' := w') (row := none) ⟨hb.os, hb.tape, hb.output, hb.size, fun k hk _ => hb.block k hk⟩ ?_
  cases ho : v.ownBlock with
  | none => exact .inl rfl
  | some b => exact .inr (by simp)
theorem own_base {w : World} {base base' : Nat} {e : TypeId} {size n : Nat} {v : Value} {xs : List Value} (h : w.ownsRow base' e size v n xs) (hb : base ≤ base') : w.ownsRow base e size v n xs := by
  refine ⟨h.1, ?_⟩
  rcases h.2 with h2 | ⟨g, cap, cur, e, h3, h4⟩
  · exact .inl h2
  · exact .inr ⟨g, cap, cur, e, Nat.le_trans hb h3, h4⟩
/-- what append hands back is such a row -/
theorem Row.of_own {w : World} {base : Nat} {t : TypeId} {size n : Nat} {A : Option Addr} {c : Nat} {xs : List Value} (h : w.ownsRow base t size (.slice A n c) n xs) : Row w base A n c xs := by
  rcases h.2 with ⟨e, h0⟩ | ⟨g, cap, cur, e, hg, hgg, hnc, _, _, _⟩
  · injection e with e1 e2 e3
    subst e1 e3 h0
    refine .inl ⟨rfl, rfl, rfl, ?_⟩
    have := h.1
    exact List.length_eq_zero_iff.1 (by simpa using this)
  · injection e with e1 e2 e3
    subst e1 e3
    refine .inr (.inr ⟨g, 0, rfl, hnc, hg, (Array.getElem?_eq_some_iff.1 hgg).1, fun i u hu => ?_⟩)
    have hi : i < xs.length := (List.getElem?_eq_some_iff.1 hu).1
    rw [h.1] at hi
    rw [Nat.zero_add, h.cellAt i hi]
    exact hu
/-- a block is such a row -/
theorem Row.of_blk {w : World} {g lo : Nat} {t : TypeId} {cs : Array Value} (h : Blk w g t cs) (hl : lo ≤ g) (n c : Nat) (hn : n ≤ c) : Row w lo (some ⟨g, 0, none⟩) n c cs.toList :=
  .inr (.inr ⟨g, 0, rfl, hn, hl, h.lt, fun i u hu => by rw [Nat.zero_add, h.cell i]; simpa using hu⟩)

/-! ### Elements of k cells each -/
section
variable {α : Type} (enc : α → List Value) (k : Nat)
def flatK (l : List α) : List Value := l.flatMap enc
theorem flatK_append (a b : List α) : flatK enc (a ++ b) = flatK enc a ++ flatK enc b := by simp [flatK]
theorem flatK_one (a : α) : flatK enc [a] = enc a := by simp [flatK]
theorem flatK_len (hk : ∀ x, (enc x).length = k) : ∀ l : List α, (flatK enc l).length = l.length * k
  | [] => by simp [flatK]
  | h :: r => by
    have ih := flatK_len hk r
    have e : flatK enc (h :: r) = enc h ++ flatK enc r := rfl
    rw [e, List.length_append, ih, List.length_cons, hk, Nat.succ_mul]
    omega
theorem flatK_at (hk : ∀ x, (enc x).length = k) : ∀ (l : List α) (i : Nat) (o : α) (j : Nat) (u : Value), l[i]? = some o → (enc o)[j]? = some u → (flatK enc l)[i * k + j]? = some u
  | [], i, o, j, u, h, _ => by cases h
  | y :: r, 0, o, j, u, h, hu => by
    injection h with h
    subst h
    have e : flatK enc (y :: r) = enc y ++ flatK enc r := rfl
    have hj := (List.getElem?_eq_some_iff.1 hu).1
    rw [e, Nat.zero_mul, Nat.zero_add, List.getElem?_append_left hj]
    exact hu
  | y :: r, i + 1, o, j, u, h, hu => by
    have ih := flatK_at hk r i o j u h hu
    have e : flatK enc (y :: r) = enc y ++ flatK enc r := rfl
    have e1 : (i + 1) * k + j = k + (i * k + j) := by rw [Nat.succ_mul]; omega
    rw [e, e1, List.getElem?_append_right (by rw [hk]; omega), hk, show k + (i * k + j) - k = i * k + j by omega]
    exact ih
theorem flatK_take (hk : ∀ x, (enc x).length = k) : ∀ (l : List α) (n : Nat), (flatK enc l).take (n * k) = flatK enc (l.take n)
  | [], n => by simp [flatK]
  | y :: r, 0 => by simp [flatK]
  | y :: r, n + 1 => by
    have ih := flatK_take hk r n
    have e : flatK enc (y :: r) = enc y ++ flatK enc r := rfl
    have e2 : flatK enc ((y :: r).take (n + 1)) = enc y ++ flatK enc (r.take n) := rfl
    have e1 : (n + 1) * k = (enc y).length + n * k := by rw [Nat.succ_mul, hk]; omega
    rw [e, e2, e1, List.take_length_add_append, ih]
theorem flatK_drop (hk : ∀ x, (enc x).length = k) : ∀ (l : List α) (n : Nat), (flatK enc l).drop (n * k) = flatK enc (l.drop n)
  | [], n => by simp [flatK]
  | y :: r, 0 => by simp [flatK]
  | y :: r, n + 1 => by
    have ih := flatK_drop hk r n
    have e : flatK enc (y :: r) = enc y ++ flatK enc r := rfl
    have e2 : (y :: r).drop (n + 1) = r.drop n := rfl
    have e1 : (n + 1) * k = (enc y).length + n * k := by rw [Nat.succ_mul, hk]; omega
    rw [e, e2, e1, List.drop_length_add_append, ih]
theorem flatK_all {p : Value → Prop} (h : ∀ x, ∀ u ∈ enc x, p u) (l : List α) : ∀ u ∈ flatK enc l, p u := by
  intro u hu
  unfold flatK at hu
  rw [List.mem_flatMap] at hu
  obtain ⟨x, _, hx⟩ := hu
  exact h x u hx
end
end Go.Proofs.YtfnceamkephpjaaGreat.lib
