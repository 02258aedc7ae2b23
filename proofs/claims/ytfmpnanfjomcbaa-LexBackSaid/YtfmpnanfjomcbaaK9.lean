/- Words in a law's hands; known, within. -/
import Derived.Test.YtfmpnanfjomcbaaK8
namespace Go.Proofs.Ytfmpnanfjomcbaa.lx
open Go.ChangeShapes Go.WideShapes Go.ChangeAt Go.RowKit Go.Proofs.Ytfmpnanfjomcbaa.lib
set_option linter.unusedVariables false

/-- words at the head of a block -/
def Wds (w : World) (g : Nat) (ws : List Wd) : Prop := g < w.heap.size ∧ ∀ (j : Nat) u, (cellsW ws)[j]? = some u → w.cell? ⟨g, j, none⟩ = some u
def Words0 (ws : List Wd) (n : Nat) (w : World) (r : Ending) (w' : World) : Prop := ∃ g c, r = .returned (.tuple #[.slice (some ⟨g, 0, none⟩) n c, .int .i64 0]) ∧ Wds w' g ws ∧ Below w.heap.size w w'
def WordsE (e : Int) (w : World) (r : Ending) (w' : World) : Prop := ∃ A c, r = .returned (.tuple #[.slice A 0 c, .int .i64 e]) ∧ Below w.heap.size w w'
theorem Wds.ext {w w' : World} {g : Nat} {ws : List Wd} (h : Wds w g ws) (hb : Below w.heap.size w w') : Wds w' g ws :=
  ⟨Nat.lt_of_lt_of_le h.1 hb.size, fun j u hu => (hb.cell (by exact h.1)).trans (h.2 j u hu)⟩
theorem cellsW_at : ∀ (ws : List Wd) (i : Nat) (x : Wd), ws[i]? = some x → (cellsW ws)[i * 3]? = some (.int .i64 x.k) ∧ (cellsW ws)[i * 3 + 1]? = some (.int .i64 x.n) ∧ (cellsW ws)[i * 3 + 2]? = some (.string ⟨x.s.toArray⟩)
  | [], i, x, h => by cases h
  | y :: r, 0, x, h => by
    injection h with h
    subst h
    exact ⟨rfl, rfl, rfl⟩
  | y :: r, i + 1, x, h => by
    have ih := cellsW_at r i x h
    have e : cellsW (y :: r) = [.int .i64 y.k, .int .i64 y.n, .string ⟨y.s.toArray⟩] ++ cellsW r := rfl
    have e1 : (i + 1) * 3 = 3 + i * 3 := by omega
    rw [e, e1]
    refine ⟨?_, ?_, ?_⟩
    · rw [List.getElem?_append_right (by simp)]; simpa using ih.1
    · rw [List.getElem?_append_right (by simp; omega), show 3 + i * 3 + 1 - [Value.int .i64 y.k, .int .i64 y.n, .string ⟨y.s.toArray⟩].length = i * 3 + 1 by simp; omega]; exact ih.2.1
    · rw [List.getElem?_append_right (by simp; omega), show 3 + i * 3 + 2 - [Value.int .i64 y.k, .int .i64 y.n, .string ⟨y.s.toArray⟩].length = i * 3 + 2 by simp; omega]; exact ih.2.2
theorem Wds.at_ {w : World} {g i : Nat} {ws : List Wd} {x : Wd} (h : Wds w g ws) (hx : ws[i]? = some x) :
    w.cell? ⟨g, i * 3, none⟩ = some (.int .i64 x.k) ∧ w.cell? ⟨g, i * 3 + 1, none⟩ = some (.int .i64 x.n) ∧ w.cell? ⟨g, i * 3 + 2, none⟩ = some (.string ⟨x.s.toArray⟩) := by
  obtain ⟨h1, h2, h3⟩ := cellsW_at ws i x hx
  exact ⟨h.2 _ _ h1, h.2 _ _ h2, h.2 _ _ h3⟩
theorem words0 (s : ByteArray) (l : List UInt8) (ws : List Wd) (n : Nat) (w : World) (hs : s.data.toList = l) (h : wordsL l = (0, ws)) (hn : ws.length = n) (h0 : 0 < n) (hl : s.size ≤ maxLen) :
    Calls Try.prog 11 #[.string s] w (Words0 ws n w) := by
  refine (words_ s w hl).mono fun r w' hp => ?_
  rw [hs, h] at hp
  obtain ⟨v, rfl, ho, hb⟩ := hp
  rw [show ((0 : Int), ws).2.length = n from hn] at ho
  obtain ⟨g, c, rfl, h1, h2⟩ := ho.form h0
  refine ⟨g, c, rfl, ⟨h2, fun j u hu => ?_⟩, hb⟩
  have := ho.cells (g := g) rfl j u hu
  have e : (⟨g, 0, none⟩ : Addr).add j = ⟨g, j, none⟩ := by unfold Addr.add; split <;> simp_all
  rwa [e] at this
theorem wordsE (s : ByteArray) (l : List UInt8) (e : Int) (w : World) (hs : s.data.toList = l) (h : wordsL l = (e, [])) (hl : s.size ≤ maxLen) :
    Calls Try.prog 11 #[.string s] w (WordsE e w) := by
  refine (words_ s w hl).mono fun r w' hp => ?_
  rw [hs, h] at hp
  obtain ⟨v, rfl, ho, hb⟩ := hp
  obtain ⟨A, c, rfl⟩ := own_slice ho
  exact ⟨A, c, rfl, hb⟩
theorem bch0 {w w1 w2 : World} (h : Below w.heap.size w w1) (k : Below w1.heap.size w1 w2) : Below w.heap.size w w2 := Below.trans h (Below.mono k h.size)

theorem tmod_pos (a n : Int) (hn : 1 ≤ n) (h : a.tmod n < 0) : a.tmod n + n = a % n := by
  have hl := Int.lt_tmod_of_pos a (by omega : 0 < n)
  have ha : a < 0 := by
    rcases Int.lt_or_le a 0 with h' | h'
    · exact h'
    · have := Int.tmod_nonneg n h'; omega
  have e := Int.tmod_eq_emod_of_nonneg (a := -a) (b := n) (by omega)
  rw [Int.neg_tmod] at e
  have e2 : a % n = (a.tmod n + n) % n := by
    have := Int.mul_tdiv_add_tmod a n
    conv => lhs; rw [← this]
    rw [Int.add_comm, Int.add_mul_emod_self_left, Int.add_emod_right]
  rw [e2, Int.emod_eq_of_lt (by omega) (by omega)]
theorem tmod_nn (a n : Int) (hn : 1 ≤ n) (h : 0 ≤ a.tmod n) : a.tmod n = a % n := by
  have hl := Int.tmod_lt_of_pos a (by omega : 0 < n)
  have e2 : a % n = (a.tmod n) % n := by
    have := Int.mul_tdiv_add_tmod a n
    conv => lhs; rw [← this]
    rw [Int.add_comm, Int.add_mul_emod_self_left]
  rw [e2, Int.emod_eq_of_lt (by omega) (by omega)]
theorem within (a n k : Int) (hk : a % n = k) (w : World) (hn : 1 ≤ n) (hn2 : n ≤ 2000000000000) (ha : -9223372036854775808 ≤ a) (hb : a ≤ 9223372036854775807) :
    Calls Try.prog 14 #[.int .i64 a, .int .i64 n] w fun e w' => e = .returned (.int .i64 k) ∧ w = w' := by
  subst hk
  have h0 : (n == 0) = false := by simp; omega
  have h1 := Int.emod_nonneg a (by omega : n ≠ 0)
  have h2 := Int.emod_lt_of_pos a (by omega : 0 < n)
  go_enter Try.func14, Try.ntmps14
  go_wp2
  · have h := tmod_pos a n hn (by assumption)
    go_ret
    exact ⟨ret_int (by simp [h]; exact IntWalk.wrap64_in _ ⟨by omega, by omega⟩), rfl⟩
  · have h := tmod_nn a n hn (by assumption)
    go_ret
    exact ⟨ret_int (by simp [h]), rfl⟩

def kw : List Wd := [⟨1, 0, [97]⟩, ⟨4, 0, [60, 61]⟩, ⟨2, 1, []⟩, ⟨0, 0, []⟩]
theorem known (w : World) : Calls Try.prog 10 #[] w fun e w' => e = .returned (.bool true) ∧ Below w.heap.size w w' := by
  go_enter Try.func10, Try.ntmps10
  go_wp2_with fail
  refine (words0 _ _ kw 4 _ rfl (by rfl) rfl (by omega) (by decide)).mono ?_
  rintro e w1 ⟨g, c, rfl, hW, hb1⟩
  have q0 : w1.cell? ⟨g, 2, none⟩ = some (.string ⟨#[97]⟩) := (hW.at_ (i := 0) rfl).2.2
  have q1 : w1.cell? ⟨g, 5, none⟩ = some (.string ⟨#[60, 61]⟩) := (hW.at_ (i := 1) rfl).2.2
  have q2 : w1.cell? ⟨g, 7, none⟩ = some (.int .i64 1) := (hW.at_ (i := 2) rfl).2.1
  have q3 : w1.cell? ⟨g, 9, none⟩ = some (.int .i64 0) := (hW.at_ (i := 3) rfl).1
  go_wp2
  go_ret
  exact ⟨rfl, hb1⟩
end Go.Proofs.Ytfmpnanfjomcbaa.lx
