/- Slices of rows, tables: how they lie in memory. -/
import Derived.Test.YtnlmbjmgmofeiaaT2
import Derived.Test.YtnlmbjmgmofeiaaTg
namespace Go.Proofs.Ytnlmbjmgmofeiaa.tb
open Go.ChangeShapes Go.WideShapes Go.ChangeAt Go.RowKit Go.Proofs.Ytnlmbjmgmofeiaa.lib Go.Proofs.Ytnlmbjmgmofeiaa.val
set_option linter.unusedVariables false

/-- a cell that is a slice of values -/
def Hdr (w : World) (lo : Nat) (h : Value) (r : List V) : Prop := ∃ A c, h = .slice A r.length c ∧ Vs w lo A r.length c r
def Hs (w : World) (lo : Nat) (hs : List Value) (rows : List (List V)) : Prop := hs.length = rows.length ∧ ∀ (i : Nat) h r, hs[i]? = some h → rows[i]? = some r → Hdr w lo h r
/-- a slice of slices of values -/
def Rs (w : World) (lo : Nat) (A : Option Addr) (n c : Nat) (rows : List (List V)) : Prop := ∃ hs, Row w lo A n c hs ∧ Hs w lo hs rows ∧ rows.length = n
theorem Hdr.ext {w w' : World} {lo : Nat} {h : Value} {r : List V} (k : Hdr w lo h r) (hb : Below w.heap.size w w') : Hdr w' lo h r := by
  obtain ⟨A, c, e, hv⟩ := k
  exact ⟨A, c, e, hv.ext hb⟩
theorem Hdr.base {w : World} {lo lo' : Nat} {h : Value} {r : List V} (k : Hdr w lo h r) (hb : lo' ≤ lo) : Hdr w lo' h r := by
  obtain ⟨A, c, e, hv⟩ := k
  exact ⟨A, c, e, hv.base hb⟩
theorem Hs.ext {w w' : World} {lo : Nat} {hs : List Value} {rows : List (List V)} (k : Hs w lo hs rows) (hb : Below w.heap.size w w') : Hs w' lo hs rows := ⟨k.1, fun i h r h1 h2 => (k.2 i h r h1 h2).ext hb⟩
theorem Hs.base {w : World} {lo lo' : Nat} {hs : List Value} {rows : List (List V)} (k : Hs w lo hs rows) (hb : lo' ≤ lo) : Hs w lo' hs rows := ⟨k.1, fun i h r h1 h2 => (k.2 i h r h1 h2).base hb⟩
theorem Hs.nil (w : World) (lo : Nat) : Hs w lo [] [] := ⟨rfl, fun i h r h1 _ => by cases h1⟩
theorem Hs.append {w : World} {lo : Nat} {hs hs' : List Value} {rows rows' : List (List V)} (k : Hs w lo hs rows) (k' : Hs w lo hs' rows') : Hs w lo (hs ++ hs') (rows ++ rows') := by
  refine ⟨by rw [List.length_append, List.length_append, k.1, k'.1], fun i h r h1 h2 => ?_⟩
  rcases Nat.lt_or_ge i hs.length with hi | hi
  · rw [List.getElem?_append_left hi] at h1
    rw [List.getElem?_append_left (by rw [← k.1]; exact hi)] at h2
    exact k.2 i h r h1 h2
  · rw [List.getElem?_append_right hi] at h1
    rw [List.getElem?_append_right (by rw [← k.1]; exact hi), ← k.1] at h2
    exact k'.2 _ h r h1 h2
theorem Hs.one {w : World} {lo : Nat} {h : Value} {r : List V} (k : Hdr w lo h r) : Hs w lo [h] [r] := ⟨rfl, fun i h' r' h1 h2 => by
  cases i with
  | zero => injection h1 with h1; injection h2 with h2; subst h1 h2; exact k
  | succ i => simp at h1⟩
theorem Hs.take {w : World} {lo : Nat} {hs : List Value} {rows : List (List V)} (k : Hs w lo hs rows) (n : Nat) : Hs w lo (hs.take n) (rows.take n) := by
  refine ⟨by rw [List.length_take, List.length_take, k.1], fun i h r h1 h2 => ?_⟩
  rw [List.getElem?_take] at h1 h2
  split at h1
  · rename_i hi
    rw [if_pos hi] at h2
    exact k.2 i h r h1 h2
  · cases h1
theorem Hs.drop {w : World} {lo : Nat} {hs : List Value} {rows : List (List V)} (k : Hs w lo hs rows) (n : Nat) : Hs w lo (hs.drop n) (rows.drop n) := by
  refine ⟨by rw [List.length_drop, List.length_drop, k.1], fun i h r h1 h2 => ?_⟩
  rw [List.getElem?_drop] at h1 h2
  exact k.2 _ h r h1 h2
theorem Hs.at_ {w : World} {lo : Nat} {hs : List Value} {rows : List (List V)} (k : Hs w lo hs rows) {i : Nat} {r : List V} (hr : rows[i]? = some r) : ∃ A c, hs[i]? = some (.slice A r.length c) ∧ Vs w lo A r.length c r := by
  have hi := (List.getElem?_eq_some_iff.1 hr).1
  have e : hs[i]? = some (hs[i]'(by rw [k.1]; exact hi)) := List.getElem?_eq_getElem _
  obtain ⟨A, c, e2, hv⟩ := k.2 i _ r e hr
  exact ⟨A, c, by rw [e, e2], hv⟩
theorem Hs.one_ {w : World} {lo : Nat} {hs : List Value} {rows : List (List V)} (k : Hs w lo hs rows) : ∀ u ∈ hs, u.oneCell' = true := by
  intro u hu
  obtain ⟨i, hi, e⟩ := List.getElem_of_mem hu
  have hi' : i < rows.length := by rw [← k.1]; exact hi
  obtain ⟨A, c, e2, _⟩ := k.2 i u _ (by rw [List.getElem?_eq_getElem hi, e]) (List.getElem?_eq_getElem hi')
  rw [e2]; rfl
theorem Rs.ext {w w' : World} {lo n c : Nat} {A : Option Addr} {rows : List (List V)} (h : Rs w lo A n c rows) (hb : Below w.heap.size w w') : Rs w' lo A n c rows := by
  obtain ⟨hs, h1, h2, h3⟩ := h
  exact ⟨hs, h1.ext hb, h2.ext hb, h3⟩
theorem Rs.base {w : World} {lo lo' n c : Nat} {A : Option Addr} {rows : List (List V)} (h : Rs w lo A n c rows) (hb : lo' ≤ lo) : Rs w lo' A n c rows := by
  obtain ⟨hs, h1, h2, h3⟩ := h
  exact ⟨hs, h1.base hb, h2.base hb, h3⟩
theorem Rs.nil (w : World) (lo : Nat) : Rs w lo none 0 0 [] := ⟨[], Row.nil w lo, Hs.nil w lo, rfl⟩
theorem Rs.some_ {w : World} {lo n c : Nat} {A : Option Addr} {rows : List (List V)} (h : Rs w lo A n c rows) (hn : 0 < n) : ∃ b off, A = some ⟨b, off, none⟩ ∧ n ≤ c ∧ lo ≤ b ∧ b < w.heap.size := by
  obtain ⟨hs, h1, h2, h3⟩ := h
  exact h1.some_ hn
/-- the cell of one, and its values -/
theorem Rs.at_ {w : World} {lo n c b off : Nat} {rows : List (List V)} (h : Rs w lo (some ⟨b, off, none⟩) n c rows) {i : Nat} {r : List V} (hr : rows[i]? = some r) :
    ∃ A' c', w.cell? ⟨b, off + i, none⟩ = some (.slice A' r.length c') ∧ Vs w lo A' r.length c' r := by
  obtain ⟨hs, h1, h2, h3⟩ := h
  obtain ⟨A', c', e, hv⟩ := h2.at_ hr
  exact ⟨A', c', h1.at_ e, hv⟩
/-- no odd address: a slice that was made by the program, or none -/
def Fine (A : Option Addr) : Prop := A = none ∨ ∃ b off, A = some ⟨b, off, none⟩
def tabA (S : Sch) (A : Option Addr) (n c : Nat) (A' : Option Addr) (n' c' : Nat) : Array Value := #[.string S.name, .slice A n c, .int .i64 S.key, .bool S.only, .slice A' n' c']
def schA (S : Sch) (A : Option Addr) (n c : Nat) : Array Value := #[.string S.name, .slice A n c, .int .i64 S.key, .bool S.only]
/-- a table, as a value -/
def TabR (w : World) (lo : Nat) (v : Value) (S : Sch) (rows : List (List V)) : Prop := ∃ A n c A' n' c', v = .agg (tabA S A n c A' n' c') ∧ Cs w lo A n c S.cols ∧ Rs w lo A' n' c' rows ∧ Fine A'
theorem TabR.ext {w w' : World} {lo : Nat} {v : Value} {S : Sch} {rows : List (List V)} (h : TabR w lo v S rows) (hb : Below w.heap.size w w') : TabR w' lo v S rows := by
  obtain ⟨A, n, c, A', n', c', e, h1, h2, h3⟩ := h
  exact ⟨A, n, c, A', n', c', e, h1.ext hb, h2.ext hb, h3⟩
theorem TabR.base {w : World} {lo lo' : Nat} {v : Value} {S : Sch} {rows : List (List V)} (h : TabR w lo v S rows) (hb : lo' ≤ lo) : TabR w lo' v S rows := by
  obtain ⟨A, n, c, A', n', c', e, h1, h2, h3⟩ := h
  exact ⟨A, n, c, A', n', c', e, h1.base hb, h2.base hb, h3⟩
theorem five {w : World} {g : Nat} {t : TypeId} {x0 x1 x2 x3 x4 : Value} (h : Blk w g t #[x0, x1, x2, x3, x4]) {w' : World} (hb : Below w.heap.size w w') :
    w'.cell? ⟨g, 0, none⟩ = some x0 ∧ w'.cell? ⟨g, 1, none⟩ = some x1 ∧ w'.cell? ⟨g, 2, none⟩ = some x2 ∧ w'.cell? ⟨g, 3, none⟩ = some x3 ∧ w'.cell? ⟨g, 4, none⟩ = some x4 :=
  ⟨(h.ext hb).cell 0, (h.ext hb).cell 1, (h.ext hb).cell 2, (h.ext hb).cell 3, (h.ext hb).cell 4⟩
theorem four {w : World} {g : Nat} {t : TypeId} {x0 x1 x2 x3 : Value} (h : Blk w g t #[x0, x1, x2, x3]) {w' : World} (hb : Below w.heap.size w w') :
    w'.cell? ⟨g, 0, none⟩ = some x0 ∧ w'.cell? ⟨g, 1, none⟩ = some x1 ∧ w'.cell? ⟨g, 2, none⟩ = some x2 ∧ w'.cell? ⟨g, 3, none⟩ = some x3 :=
  ⟨(h.ext hb).cell 0, (h.ext hb).cell 1, (h.ext hb).cell 2, (h.ext hb).cell 3⟩
end Go.Proofs.Ytnlmbjmgmofeiaa.tb
