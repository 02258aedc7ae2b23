/- Holds and locks: how they lie in memory; what is asked and freed, in plain words. -/
import Derived.Test.YtlfonenjgchklaaLib
import Derived.Tactics
import Derived.Tactics2
import Derived.RegionTactic
import Derived.RegionCalls
import Derived.OwnWalk
import Derived.Lib.SliceRun
import Derived.WalkSpells
namespace Go.Proofs.Ytlfonenjgchklaa.lk
open Go.ChangeShapes Go.WideShapes Go.ChangeAt Go.RowKit Go.Proofs.Ytlfonenjgchklaa.lib
set_option linter.unusedVariables false

/-- a hold: the session, the table, whether it is for itself -/
structure Hd where
  s : Int
  t : ByteArray
  x : Bool
def Hd.arr (h : Hd) : Array Value := #[.int .i64 h.s, .string h.t, .bool h.x]
def Hd.cells (h : Hd) : List Value := [.int .i64 h.s, .string h.t, .bool h.x]
def cellsH (hs : List Hd) : List Value := hs.flatMap Hd.cells
structure Lk where
  hs : List Hd
  ws : List Hd
def mineB (h o : Hd) : Bool := o.s == h.s && o.t == h.t
def agB (h o : Hd) : Bool := h.s != o.s && (h.t == o.t && (h.x || o.x))
def woL (l : List Hd) (s : Int) : List Hd := l.filter fun o => o.s != s
/-- what is asked -/
def hasB (L : Lk) (h : Hd) : Bool := match L.hs.findIdx? (mineB h) with
  | some i => (match L.hs[i]? with | some o => o.x || !h.x | none => false)
  | none => false
def freeB (L : Lk) (h : Hd) : Bool := hasB L h || !L.hs.any (agB h)
def askL (L : Lk) (h : Hd) : Lk :=
  if freeB L h = false then ⟨L.hs, woL L.ws h.s ++ [h]⟩
  else if hasB L h = true then ⟨L.hs, woL L.ws h.s⟩
  else match L.hs.findIdx? (mineB h) with
    | some i => ⟨L.hs.set i h, woL L.ws h.s⟩
    | none => ⟨L.hs ++ [h], woL L.ws h.s⟩
def freeL (L : Lk) (s : Int) : Lk := ⟨woL L.hs s, woL L.ws s⟩

theorem cellsH_append (a b : List Hd) : cellsH (a ++ b) = cellsH a ++ cellsH b := by simp [cellsH]
theorem cellsH_one (h : Hd) : cellsH [h] = h.cells := by simp [cellsH]
theorem cellsH_len : ∀ l : List Hd, (cellsH l).length = l.length * 3
  | [] => rfl
  | h :: r => by
    have ih := cellsH_len r
    have e : cellsH (h :: r) = h.cells ++ cellsH r := rfl
    rw [e, List.length_append, ih, List.length_cons]
    show 3 + r.length * 3 = _
    omega
theorem cellsH_at : ∀ (l : List Hd) (i : Nat) (o : Hd), l[i]? = some o → (cellsH l)[i * 3]? = some (.int .i64 o.s) ∧ (cellsH l)[i * 3 + 1]? = some (.string o.t) ∧ (cellsH l)[i * 3 + 2]? = some (.bool o.x)
  | [], i, o, h => by cases h
  | y :: r, 0, o, h => by
    injection h with h
    subst h
    exact ⟨rfl, rfl, rfl⟩
  | y :: r, i + 1, o, h => by
    have ih := cellsH_at r i o h
    have e : cellsH (y :: r) = y.cells ++ cellsH r := rfl
    have e1 : (i + 1) * 3 = 3 + i * 3 := by omega
    have e3 : y.cells.length = 3 := rfl
    rw [e, e1]
    refine ⟨?_, ?_, ?_⟩
    · rw [List.getElem?_append_right (by omega), e3]; simpa using ih.1
    · rw [List.getElem?_append_right (by omega), e3, show 3 + i * 3 + 1 - 3 = i * 3 + 1 by omega]; exact ih.2.1
    · rw [List.getElem?_append_right (by omega), e3, show 3 + i * 3 + 2 - 3 = i * 3 + 2 by omega]; exact ih.2.2
theorem one_cells (l : List Hd) : ∀ u ∈ cellsH l, u.oneCell' = true := by
  intro u hu
  unfold cellsH at hu
  rw [List.mem_flatMap] at hu
  obtain ⟨x, _, hx⟩ := hu
  simp [Hd.cells] at hx
  rcases hx with rfl | rfl | rfl <;> rfl

/-- holds at the head of a block -/
def Hs (w : World) (A : Option Addr) (l : List Hd) : Prop :=
  (A = none ∧ l = []) ∨ ∃ b, A = some ⟨b, 0, none⟩ ∧ b < w.heap.size ∧ ∀ (i : Nat) u, (cellsH l)[i]? = some u → w.cell? ⟨b, i, none⟩ = some u
theorem Hs.below {w w' : World} {B : Nat} {A : Option Addr} {l : List Hd} (h : Hs w A l) (hb : Below B w w') (hB : w.heap.size ≤ B) : Hs w' A l := by
  rcases h with h | ⟨b, e, hlt, hc⟩
  · exact .inl h
  · exact .inr ⟨b, e, Nat.lt_of_lt_of_le hlt hb.size, fun i u hu => (hb.cell (Nat.lt_of_lt_of_le hlt hB)).trans (hc i u hu)⟩
theorem Hs.ext {w w' : World} {A : Option Addr} {l : List Hd} (h : Hs w A l) (hb : Below w.heap.size w w') : Hs w' A l := h.below hb (Nat.le_refl _)
theorem Hs.grown {w w' : World} {row : Option Nat} {A : Option Addr} {l : List Hd} (h : Hs w A l) (hg : w.grownBy w' row) (hr : ∀ b, A = some ⟨b, 0, none⟩ → some b ≠ row) : Hs w' A l := by
  rcases h with h | ⟨b, e, hlt, hc⟩
  · exact .inl h
  · exact .inr ⟨b, e, Nat.lt_of_lt_of_le hlt hg.size, fun i u hu => (World.cell?_of_block (hg.block b hlt (hr b e))).trans (hc i u hu)⟩
theorem Hs.at_ {w : World} {b : Nat} {l : List Hd} (h : Hs w (some ⟨b, 0, none⟩) l) {i : Nat} {o : Hd} (hi : l[i]? = some o) :
    w.cell? ⟨b, i * 3, none⟩ = some (.int .i64 o.s) ∧ w.cell? ⟨b, i * 3 + 1, none⟩ = some (.string o.t) ∧ w.cell? ⟨b, i * 3 + 2, none⟩ = some (.bool o.x) := by
  obtain ⟨h1, h2, h3⟩ := cellsH_at l i o hi
  rcases h with h | ⟨b', e, hlt, hc⟩
  · cases h.1
  · injection e with e
    injection e with e
    subst e
    exact ⟨hc _ _ h1, hc _ _ h2, hc _ _ h3⟩
/-- where there is one there is a block -/
theorem Hs.some_ {w : World} {A : Option Addr} {l : List Hd} (h : Hs w A l) (hn : 0 < l.length) : ∃ b, A = some ⟨b, 0, none⟩ ∧ b < w.heap.size := by
  rcases h with h | ⟨b, e, hlt, hc⟩
  · rw [h.2] at hn; cases hn
  · exact ⟨b, e, hlt⟩
theorem Hs.nil (w : World) : Hs w none [] := .inl ⟨rfl, rfl⟩
theorem own_slice {w : World} {base : Nat} {t : TypeId} {size n : Nat} {v : Value} {xs : List Value} (h : w.ownsRow base t size v n xs) : ∃ A c, v = .slice A n c := by
  rcases h.2 with ⟨rfl, rfl⟩ | ⟨g, cap, cur, rfl, _⟩
  · exact ⟨none, 0, rfl⟩
  · exact ⟨_, cap, rfl⟩
theorem own_ext {w w' : World} {base : Nat} {e : TypeId} {size n : Nat} {v : Value} {xs : List Value} (h : w.ownsRow base e size v n xs) (hb : Below w.heap.size w w') : w'.ownsRow base e size v n xs := by
  refine h.kept (w' := w') (row := none) ⟨hb.os, hb.tape, hb.output, hb.size, fun k hk _ => hb.block k hk⟩ ?_
  cases ho : v.ownBlock with
  | none => exact .inl rfl
  | some b => exact .inr (by simp)
theorem hs_of_own {w : World} {base : Nat} {t : TypeId} {A : Option Addr} {n c : Nat} {l : List Hd} (h : w.ownsRow base t 3 (.slice A n c) n (cellsH l)) : Hs w A l := by
  rcases h.2 with ⟨e, h0⟩ | ⟨g, cap, cur, e, hg, hgg, _, _, _, _⟩
  · injection e with e1 e2 e3
    refine .inl ⟨e1, ?_⟩
    have := h.1
    rw [cellsH_len, h0] at this
    exact List.length_eq_zero_iff.1 (by omega)
  · injection e with e1 e2 e3
    subst e1
    refine .inr ⟨g, rfl, (Array.getElem?_eq_some_iff.1 hgg).1, fun i u hu => ?_⟩
    have hi : i < (cellsH l).length := (List.getElem?_eq_some_iff.1 hu).1
    rw [h.1] at hi
    rw [h.cellAt i hi]
    exact hu
/-- locks, as a value -/
def LkR (w : World) (v : Value) (L : Lk) : Prop := ∃ A n c A' n' c', v = .agg #[.slice A n c, .slice A' n' c'] ∧ L.hs.length = n ∧ Hs w A L.hs ∧ L.ws.length = n' ∧ Hs w A' L.ws
theorem LkR.ext {w w' : World} {v : Value} {L : Lk} (h : LkR w v L) (hb : Below w.heap.size w w') : LkR w' v L := by
  obtain ⟨A, n, c, A', n', c', e, h1, h2, h3, h4⟩ := h
  exact ⟨A, n, c, A', n', c', e, h1, h2.ext hb, h3, h4.ext hb⟩

theorem beqBA (a b : ByteArray) : (a == b) = true ↔ a = b := by
  constructor
  · intro h
    apply ByteArray.ext
    exact eq_of_beq (α := Array UInt8) h
  · rintro rfl
    exact beq_self_eq_true a.data
theorem tl_beq (a b : ByteArray) : (a.toList == b.toList) = (a == b) := by
  rw [Bool.eq_iff_iff, beqBA, beq_iff_eq, ByteArray.toList_eq, ByteArray.toList_eq]
  exact ⟨fun h => bytes_inj h, fun h => by rw [h]⟩
end Go.Proofs.Ytlfonenjgchklaa.lk
