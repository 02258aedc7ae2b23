/- Words in a law's hands; known, within. -/
import Derived.Test.YtfnceamkephpjaaGreatK8
namespace Go.Proofs.YtfnceamkephpjaaGreat.lx
open Go.ChangeShapes Go.WideShapes Go.ChangeAt Go.RowKit Go.Proofs.YtfnceamkephpjaaGreat.lib
set_option linter.unusedVariables false

/-- words at the head of a block -/
def Wds (w : World) (g : Nat) (ws : List Wd) : Prop := g < w.heap.size ∧ ∀ (j : Nat) u, (cellsW ws)[j]? = some u → w.cell? ⟨g, j, none⟩ = some u
def Words0 (ws : List Wd) (n : Nat) (w : World) (r : Ending) (w' : World) : Prop := ∃ g c, r = .returned (.tuple #[.slice (some ⟨g, 0, none⟩) n c, .int .i64 0]) ∧ Wds w' g ws ∧ Below w.heap.size w w'
def WordsE (e : Int) (w : World) (r : Ending) (w' : World) : Prop := ∃ A c, r = .returned (.tuple #[.slice A 0 c, .int .i64 e]) ∧ Below w.heap.size w w'
set_option maxRecDepth 100000 in
theorem Wds.ext {w w' : World} {g : Nat} {ws : List Wd} (h : Wds w g ws) (hb : Below w.heap.size w w') : Wds w' g ws :=
  ⟨Nat.lt_of_lt_of_le h.1 hb.size, fun j u hu => (hb.cell (by exact h.1)).trans (h.2 j u hu)⟩
set_option maxRecDepth 100000 in
theorem cellsW_at : ∀ (ws : List Wd) (i : Nat) (x : Wd), ws[i]? = some x → (cellsW ws)[i * 3]? = some (.int .i64 x.k) ∧ (cellsW ws)[i * 3 + 1]? = some (.int .i64 x.n) ∧ (cellsW ws)[i * 3 + 2]? = some (.string ⟨x.s.toArray⟩)
  | [], i, x, h => by cases h
  | y :: r, 0, x, h => by
    injection h with h
    subst h
    exact ⟨rfl, rfl, rfl⟩
  | y :: r, i + 1, x, h => by
    have ih := cellsW_at r i x h
    have e : cellsW (y :: r) = [.int .i64 y.k, .int .i64 y.n, .string ⟨y.s.toArray⟩] ++ cellsW r := rfl
    have e1 : (i + 1) * 3 = 3 + i * 3 := by omega
    rw [e, e1]
    refine ⟨?_, ?_, ?_⟩
    · rw [List.getElem?_append_right (by simp)]; simpa using ih.1
    · rw [List.getElem?_append_right (by simp; omega), show 3 + i * 3 + 1 - [Value.int .i64 y.k, .int .i64 y.n, .string ⟨y.s.toArray⟩].length = i * 3 + 1 by simp; omega]; exact ih.2.1
    · rw [List.getElem?_append_right (by simp; omega), show 3 + i * 3 + 2 - [Value.int .i64 y.k, .int .i64 y.n, .string ⟨y.s.toArray⟩].length = i * 3 + 2 by simp; omega]; exact ih.2.2
set_option maxRecDepth 100000 in
theorem Wds.at_ {w : World} {g i : Nat} {ws : List Wd} {x : Wd} (h : Wds w g ws) (hx : ws[i]? = some x) :
    w.cell? ⟨g, i * 3, none⟩ = some (.int .i64 x.k) ∧ w.cell? ⟨g, i * 3 + 1, none⟩ = some (.int .i64 x.n) ∧ w.cell? ⟨g, i * 3 + 2, none⟩ = some (.string ⟨x.s.toArray⟩) := by
  obtain ⟨h1, h2, h3⟩ := cellsW_at ws i x hx
  exact ⟨h.2 _ _ h1, h.2 _ _ h2, h.2 _ _ h3⟩
set_option maxRecDepth 100000 in
theorem words0 (s : ByteArray) (l : List UInt8) (ws : List Wd) (n : Nat) (w : World) (hs : s.data.toList = l) (h : wordsL l = (0, ws)) (hn : ws.length = n) (h0 : 0 < n) (hl : s.size ≤ maxLen) :
    Calls Tryz.prog 11 #[.string s] w (Words0 ws n w) := by
  refine (words_ s w hl).mono fun r w' hp => ?_
  rw [hs, h] at hp
  obtain ⟨v, rfl, ho, hb⟩ := hp
  rw [show ((0 : Int), ws).2.length = n from hn] at ho
  obtain ⟨g, c, rfl, h1, h2⟩ := ho.form h0
  refine ⟨g, c, rfl, ⟨h2, fun j u hu => ?_⟩, hb⟩
  have := ho.cells (g := g) rfl j u hu
  have e : (⟨g, 0, none⟩ : Addr).add j = ⟨g, j, none⟩ := by unfold Addr.add; split <;> simp_all
  rwa [e] at this
set_option maxRecDepth 100000 in
theorem wordsE (s : ByteArray) (l : List UInt8) (e : Int) (w : World) (hs : s.data.toList = l) (h : wordsL l = (e, [])) (hl : s.size ≤ maxLen) :
    Calls Tryz.prog 11 #[.string s] w (WordsE e w) := by
  refine (words_ s w hl).mono fun r w' hp => ?_
  rw [hs, h] at hp
  obtain ⟨v, rfl, ho, hb⟩ := hp
  obtain ⟨A, c, rfl⟩ := own_slice ho
  exact ⟨A, c, rfl, hb⟩
set_option maxRecDepth 100000 in
theorem bch0 {w w1 w2 : World} (h : Below w.heap.size w w1) (k : Below w1.heap.size w1 w2) : Below w.heap.size w w2 := Below.trans h (Below.mono k h.size)

set_option maxRecDepth 100000 in
theorem tmod_pos (a n : Int) (hn : 1 ≤ n) (h : a.tmod n < 0) : a.tmod n + n = a % n := by
  have hl := Int.lt_tmod_of_pos a (by omega : 0 < n)
  have ha : a < 0 := by
    rcases Int.lt_or_le a 0 with h' | h'
    · exact h'
    · have := Int.tmod_nonneg n h'; omega
  have e := Int.tmod_eq_emod_of_nonneg (a := -a) (b := n) (by omega)
  rw [Int.neg_tmod] at e
  have e2 : a % n = (a.tmod n + n) % n := by
    have := Int.mul_tdiv_add_tmod a n
    conv => lhs; rw [← this]
    rw [Int.add_comm, Int.add_mul_emod_self_left, Int.add_emod_right]
  rw [e2, Int.emod_eq_of_lt (by omega) (by omega)]
set_option maxRecDepth 100000 in
theorem tmod_nn (a n : Int) (hn : 1 ≤ n) (h : 0 ≤ a.tmod n) : a.tmod n = a % n := by
  have hl := Int.tmod_lt_of_pos a (by omega : 0 < n)
  have e2 : a % n = (a.tmod n) % n := by
    have := Int.mul_tdiv_add_tmod a n
    conv => lhs; rw [← this]
    rw [Int.add_comm, Int.add_mul_emod_self_left]
  rw [e2, Int.emod_eq_of_lt (by omega) (by omega)]
def kw : List Wd := [⟨1, 0, [97]⟩, ⟨4, 0, [60, 61]⟩, ⟨2, 1, []⟩, ⟨0, 0, []⟩]
end Go.Proofs.YtfnceamkephpjaaGreat.lx
