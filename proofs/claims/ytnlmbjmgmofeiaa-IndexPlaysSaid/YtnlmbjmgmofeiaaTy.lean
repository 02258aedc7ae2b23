/- A list of rows of one's own, each row one's own too. -/
import Derived.Test.YtnlmbjmgmofeiaaTx
import Derived.Test.YtnlmbjmgmofeiaaTo
namespace Go.Proofs.Ytnlmbjmgmofeiaa.tb
open Go.ChangeShapes Go.WideShapes Go.ChangeAt Go.RowKit Go.Proofs.Ytnlmbjmgmofeiaa.lib Go.Proofs.Ytnlmbjmgmofeiaa.val
set_option linter.unusedVariables false

theorem own_at {w : World} {base n k b : Nat} {e : TypeId} {v : Value} {xs : List Value} (h : w.ownsRow base e k v n xs) (hb : v.ownBlock = some b) : ∃ cur, w.heap[b]? = some (.cells cur e (0, 0)) := by
  rcases h.2 with ⟨h', _⟩ | ⟨g, cap, cur, h', _, hg, _⟩
  · rw [h'] at hb; cases hb
  · rw [h'] at hb
    simp only [Value.ownBlock, Option.some.injEq] at hb
    subst hb
    exact ⟨cur, hg⟩
theorem own_ne {w : World} {b1 n1 k1 b2 n2 k2 : Nat} {e1 e2 : TypeId} {v1 v2 : Value} {xs1 xs2 : List Value} (h1 : w.ownsRow b1 e1 k1 v1 n1 xs1) (h2 : w.ownsRow b2 e2 k2 v2 n2 xs2) (he : e1 ≠ e2) : v1.ownBlock = none ∨ v1.ownBlock ≠ v2.ownBlock := by
  cases h : v1.ownBlock with
  | none => exact .inl rfl
  | some b =>
    refine .inr fun e => ?_
    obtain ⟨c1, a1⟩ := own_at h1 h
    obtain ⟨c2, a2⟩ := own_at h2 e.symm
    rw [a1] at a2
    injection a2 with a2
    injection a2 with _ a2
    exact he a2
theorem own_ne_blk {w : World} {b1 n1 k1 g : Nat} {e1 t : TypeId} {v1 : Value} {xs1 : List Value} {cs : Array Value} (h1 : w.ownsRow b1 e1 k1 v1 n1 xs1) (h2 : Blk w g t cs) (he : e1 ≠ t) : v1.ownBlock = none ∨ v1.ownBlock ≠ some g := by
  cases h : v1.ownBlock with
  | none => exact .inl rfl
  | some b =>
    refine .inr fun e => ?_
    injection e with e
    subst e
    obtain ⟨c1, a1⟩ := own_at h1 h
    rw [h2] at a1
    injection a1 with a1
    injection a1 with _ a1
    exact he a1.symm
def VT : TypeId := 41
/-- the heads hs tell the rows L, each one's own -/
def Es (w : World) (hs : List Value) (L : List (List V)) : Prop := hs.length = L.length ∧ ∀ (i : Nat) h r, hs[i]? = some h → L[i]? = some r → ∃ A c, h = .slice A r.length c ∧ w.ownsRow 0 41 3 h r.length (cellsV r)
theorem Es.nil (w : World) : Es w [] [] := ⟨rfl, fun i h r h1 _ => by cases h1⟩
theorem Es.ext {w w' : World} {hs : List Value} {L : List (List V)} (h : Es w hs L) (hb : Below w.heap.size w w') : Es w' hs L := ⟨h.1, fun i v r h1 h2 => by
  obtain ⟨A, c, e, ho⟩ := h.2 i v r h1 h2
  exact ⟨A, c, e, own_ext ho hb⟩⟩
theorem Es.kept {w w' : World} {row : Option Nat} {hs : List Value} {L : List (List V)} (h : Es w hs L) (hg : w.grownBy w' row) (hne : ∀ v n (xs : List Value), w.ownsRow 0 41 3 v n xs → v.ownBlock = none ∨ v.ownBlock ≠ row) : Es w' hs L := ⟨h.1, fun i v r h1 h2 => by
  obtain ⟨A, c, e, ho⟩ := h.2 i v r h1 h2
  exact ⟨A, c, e, ho.kept hg (hne _ _ _ ho)⟩⟩
theorem Es.blk {w w' : World} {g : Nat} {t : TypeId} {cs : Array Value} {hs : List Value} {L : List (List V)} (h : Es w hs L) (hB : Blk w g t cs) (hg : w.grownBy w' (some g)) (ht : 41 ≠ t) : Es w' hs L := h.kept hg (fun v n xs ho => own_ne_blk ho hB ht)
theorem Es.own {w w' : World} {b n k : Nat} {e : TypeId} {v : Value} {xs : List Value} {hs : List Value} {L : List (List V)} (h : Es w hs L) (ho : w.ownsRow b e k v n xs) (hg : w.grownBy w' v.ownBlock) (ht : 41 ≠ e) : Es w' hs L := h.kept hg (fun v n xs h1 => own_ne h1 ho ht)
theorem own_lo {w : World} {base n : Nat} {e : TypeId} {size : Nat} {v : Value} {xs : List Value} (h : w.ownsRow base e size v n xs) : w.ownsRow 0 e size v n xs := by
  refine ⟨h.1, ?_⟩
  rcases h.2 with h' | ⟨g, cap, cur, e', _, r⟩
  · exact .inl h'
  · exact .inr ⟨g, cap, cur, e', Nat.zero_le _, r⟩
theorem Es.snoc {w : World} {hs : List Value} {L : List (List V)} (h : Es w hs L) {A : Option Addr} {c n base : Nat} {r : List V} (ho : w.ownsRow base 41 3 (.slice A n c) n (cellsV r)) : Es w (hs ++ [.slice A n c]) (L ++ [r]) := by
  have hl := own_len ho
  refine ⟨by simp [h.1], fun i v q h1 h2 => ?_⟩
  rcases Nat.lt_or_ge i hs.length with hi | hi
  · rw [List.getElem?_append_left hi] at h1
    rw [List.getElem?_append_left (by rw [← h.1]; exact hi)] at h2
    exact h.2 i v q h1 h2
  · rw [List.getElem?_append_right hi] at h1
    rw [List.getElem?_append_right (by rw [← h.1]; exact hi), ← h.1] at h2
    cases hj : i - hs.length with
    | zero =>
      rw [hj] at h1 h2
      injection h1 with h1
      injection h2 with h2
      subst h1 h2
      exact ⟨A, c, by rw [hl], by rw [hl]; exact own_lo ho⟩
    | succ j => rw [hj] at h1; simp at h1
theorem Es.at_ {w : World} {hs : List Value} {L : List (List V)} (h : Es w hs L) {i : Nat} {r : List V} (hr : L[i]? = some r) : ∃ A c, hs[i]? = some (.slice A r.length c) ∧ Vs w 0 A r.length c r := by
  have hi := (List.getElem?_eq_some_iff.1 hr).1
  have e : hs[i]? = some (hs[i]'(by rw [h.1]; exact hi)) := List.getElem?_eq_getElem _
  obtain ⟨A, c, e2, ho⟩ := h.2 i _ r e hr
  rw [e2] at ho
  exact ⟨A, c, by rw [e, e2], Vs.of_own ho⟩
theorem Es.one_ {w : World} {hs : List Value} {L : List (List V)} (h : Es w hs L) : ∀ u ∈ hs, u.oneCell' = true := by
  intro u hu
  obtain ⟨i, hi, e⟩ := List.getElem_of_mem hu
  have hs' : hs[i]? = some u := by rw [List.getElem?_eq_getElem hi, e]
  have hL : L[i]? = some (L[i]'(by rw [← h.1]; exact hi)) := List.getElem?_eq_getElem _
  obtain ⟨A, c, e2, _⟩ := h.2 i u _ hs' hL
  rw [e2]; rfl
theorem Row.grownR {w w' : World} {row : Option Nat} {lo n c : Nat} {A : Option Addr} {cs : List Value} (h : Row w lo A n c cs) (hg : w.grownBy w' row) (hl : ∀ g, row = some g → g < lo) : Row w' lo A n c cs := by
  cases row with
  | none => exact h.grown hg (by simp)
  | some g => exact h.grownL hg (hl g rfl)
theorem Cs.grownR {w w' : World} {row : Option Nat} {lo n c : Nat} {A : Option Addr} {l : List Col} (h : Cs w lo A n c l) (hg : w.grownBy w' row) (hl : ∀ g, row = some g → g < lo) : Cs w' lo A n c l := ⟨Row.grownR h.1 hg hl, h.2⟩
theorem Rs.grownR {w w' : World} {row : Option Nat} {lo n c : Nat} {A : Option Addr} {rows : List (List V)} (h : Rs w lo A n c rows) (hg : w.grownBy w' row) (hl : ∀ g, row = some g → g < lo) : Rs w' lo A n c rows := by
  obtain ⟨hs, h1, h2, h3⟩ := h
  refine ⟨hs, Row.grownR h1 hg hl, ⟨h2.1, fun i v r e1 e2 => ?_⟩, h3⟩
  obtain ⟨A', c', e, hv⟩ := h2.2 i v r e1 e2
  exact ⟨A', c', e, Row.grownR hv.1 hg hl, hv.2⟩
/-- the variable in block g holds a table whose cells lie behind block x (its columns, maybe, in the world w0) -/
def TabL (w0 : World) (t : TypeId) (w : World) (g x : Nat) (S : Sch) (rows : List (List V)) : Prop := ∃ A n c A' n' c', Blk w g t (tabA S A n c A' n' c') ∧ (Cs w (x + 1) A n c S.cols ∨ ∀ w', Below w0.heap.size w0 w' → Cs w' 0 A n c S.cols) ∧ Rs w (x + 1) A' n' c' rows ∧ Fine A'
theorem TabL.ext {w0 : World} {t : TypeId} {w w' : World} {g x : Nat} {S : Sch} {rows : List (List V)} (h : TabL w0 t w g x S rows) (hb : Below w.heap.size w w') : TabL w0 t w' g x S rows := by
  obtain ⟨A, n, c, A', n', c', h1, h2, h3, h4⟩ := h
  exact ⟨A, n, c, A', n', c', h1.ext hb, h2.imp (fun k => k.ext hb) id, h3.ext hb, h4⟩
theorem TabL.store {w0 : World} {t : TypeId} {w w' : World} {g x : Nat} {S : Sch} {rows : List (List V)} (h : TabL w0 t w g x S rows) (hg : w.grownBy w' (some x)) (hx : g ≠ x) : TabL w0 t w' g x S rows := by
  obtain ⟨A, n, c, A', n', c', h1, h2, h3, h4⟩ := h
  exact ⟨A, n, c, A', n', c', h1.grown hg (by simpa using hx), h2.imp (fun k => k.grownL hg (Nat.lt_succ_self _)) id, h3.grownL hg (Nat.lt_succ_self _), h4⟩
theorem TabL.toV {w0 : World} {t : TypeId} {w : World} {g x : Nat} {S : Sch} {rows : List (List V)} (h : TabL w0 t w g x S rows) (hb : Below w0.heap.size w0 w) : TabV t w g S rows := by
  obtain ⟨A, n, c, A', n', c', h1, h2, h3, h4⟩ := h
  exact ⟨A, n, c, A', n', c', h1, h2.elim (fun k => k.base (Nat.zero_le _)) (fun k => k w hb), h3.base (Nat.zero_le _), h4⟩
/-- it is set to a table that was made behind it: all that is known of it -/
theorem setL {t : TypeId} {w : World} {g lo : Nat} {x0 x1 x2 x3 x4 : Value} {S : Sch} {rows : List (List V)} {A A' : Option Addr} {n c n' c' : Nat} (hB : Blk w g t #[x0, x1, x2, x3, x4]) (hC : Cs w lo A n c S.cols) (hR : Rs w lo A' n' c' rows) (hg : g < lo) :
    ∃ w', w' = ((((w.setCell ⟨g, 0, none⟩ (.string S.name)).setCell ⟨g, 1, none⟩ (.slice A n c)).setCell ⟨g, 2, none⟩ (.int .i64 S.key)).setCell ⟨g, 3, none⟩ (.bool S.only)).setCell ⟨g, 4, none⟩ (.slice A' n' c') ∧
      Blk w' g t (tabA S A n c A' n' c') ∧ Cs w' lo A n c S.cols ∧ Rs w' lo A' n' c' rows ∧ (∀ B, B ≤ g → Below B w w') ∧ w.grownBy w' (some g) := by
  obtain ⟨w', e, h1, h2, h3⟩ := Blk.set5 hB (.string S.name) (.slice A n c) (.int .i64 S.key) (.bool S.only) (.slice A' n' c')
  exact ⟨w', e, h1, hC.grownL h3 hg, hR.grownL h3 hg, h2, h3⟩
end Go.Proofs.Ytnlmbjmgmofeiaa.tb
