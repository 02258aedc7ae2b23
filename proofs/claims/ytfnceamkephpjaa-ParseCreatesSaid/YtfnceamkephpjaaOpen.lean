/- Arguments that are slices, of whatever elements of k cells: opened as rows. -/
import Derived.Test.YtfnceamkephpjaaRow
import Derived.Deep.Slices
import Derived.Lib.SmallJoins
namespace Go.Proofs.Ytfnceamkephpjaa.lib
open Go.ChangeShapes Go.WideShapes Go.ChangeAt Go.RowKit Go.Deep Go.Joins
set_option linter.unusedVariables false

theorem list1 {α : Type} {l : List α} (h : l.length = 1) : ∃ a, l = [a] := by
  match l, h with
  | [a], _ => exact ⟨a, rfl⟩
theorem list2 {α : Type} {l : List α} (h : l.length = 2) : ∃ a b, l = [a, b] := by
  match l, h with
  | [a, b], _ => exact ⟨a, b, rfl⟩
theorem list3 {α : Type} {l : List α} (h : l.length = 3) : ∃ a b c, l = [a, b, c] := by
  match l, h with
  | [a, b, c], _ => exact ⟨a, b, c, rfl⟩
theorem list4 {α : Type} {l : List α} (h : l.length = 4) : ∃ a b c d, l = [a, b, c, d] := by
  match l, h with
  | [a, b, c, d], _ => exact ⟨a, b, c, d, rfl⟩
/-- A cell that reads as a slice: a row of its elements, each of which the prover's own 'dec' reads. -/
theorem open_row {H : Type} {enc : TypeId × Value → H} {P : Program} {W : World} {t e : TypeId} {spare : Nat → Bool} {held : Bool} {α : Type} [Inhabited α] (ht : P.underlying t = some (.slice e)) (k : Nat) (hk : P.cellsOf e = k) (hk0 : 0 < k)
    (ec : α → List Value) (p : α → Prop) (hel : ∀ x, (ec x).length = k) (dec : ∀ (n : Nat) (cs : List Value) (D : DataW H × List MemPlace), cs.length = k → DataW.trod enc P W 0 spare held n e cs = some D → ∃ x, cs = ec x ∧ p x)
    {fuel : Nat} {cs : List Value} {x : DataW H × List MemPlace} (h : DataW.trod enc P W 0 spare held fuel t cs = some x) :
    ∃ (A : Option Addr) (n c : Nat) (l : List α), cs = [.slice A n c] ∧ l.length = n ∧ c ≤ maxLen ∧ n ≤ c ∧ Row W 0 A n c (flatK ec l) ∧ ∀ x ∈ l, p x := by
  rcases open_slice ht h with ⟨hcs, _⟩ | ⟨a', len, cap, m, n, D, Pl, hcs, _, hl, hm, hmm, _, hx⟩
  · exact ⟨none, 0, 0, [], hcs, rfl, Nat.zero_le _, Nat.le_refl _, Row.nil _ _, fun x h => absurd h (by simp)⟩
  · have hlm : len ≤ m := by rw [hmm]; split <;> omega
    have each : ∀ i, i < len → ∃ q : α, p q ∧ ∀ (j : Nat) u, (ec q)[j]? = some u → W.cell? (a'.add (i * k + j)) = some u := by
      intro i hi
      obtain ⟨cs', h1, h2⟩ := hx i (by omega)
      rw [hk] at h1
      obtain ⟨_, hlen, hcell⟩ := World.cells?_some h1
      obtain ⟨q, rfl, hp⟩ := dec _ _ _ hlen h2
      refine ⟨q, hp, fun j u hu => ?_⟩
      have hj := (List.getElem?_eq_some_iff.1 hu).1
      have := hcell j (by omega)
      rw [add_add] at this
      rw [this]
      exact hu
    obtain ⟨q, hq⟩ := choose_lt each
    have cells : ∀ (i : Nat) u, (flatK ec ((List.range len).map q))[i]? = some u → W.cell? (a'.add i) = some u := by
      intro i u hu
      have hi := (List.getElem?_eq_some_iff.1 hu).1
      rw [flatK_len ec k hel] at hi
      simp only [List.length_map, List.length_range] at hi
      have hd : i / k < len := (Nat.div_lt_iff_lt_mul hk0).2 hi
      have hm2 : i % k < k := Nat.mod_lt _ hk0
      have e1 : i / k * k + i % k = i := by rw [Nat.mul_comm]; exact Nat.div_add_mod i k
      have e2 : ((List.range len).map q)[i / k]? = some (q (i / k)) := by rw [List.getElem?_map, List.getElem?_range hd]; rfl
      have e3 : (ec (q (i / k)))[i % k]? = some ((ec (q (i / k)))[i % k]'(by rw [hel]; exact hm2)) := List.getElem?_eq_getElem _
      have e4 := flatK_at ec k hel _ _ _ _ _ e2 e3
      rw [e1, hu] at e4
      have e5 := (hq (i / k) hd).2 _ _ e3
      rw [e1] at e5
      rw [e5, ← e4]
    rcases Nat.eq_zero_or_pos len with h0 | h0
    · subst h0
      exact ⟨some a', 0, cap, [], hcs, rfl, hm, hl, Row.empty _ _ _ _, fun x h => absurd h (by simp)⟩
    · obtain ⟨ab, ao, spot⟩ := a'
      have hk1 : 0 < (ec (q 0)).length := by rw [hel]; exact hk0
      have h1 := (hq 0 h0).2 0 _ (List.getElem?_eq_getElem hk1)
      have hspot : spot = none := by simpa [Addr.add] using World.cell?_spot h1
      subst hspot
      refine ⟨some ⟨ab, ao, none⟩, len, cap, (List.range len).map q, hcs, by simp, hm, hl, .inr (.inr ⟨ab, ao, rfl, hl, Nat.zero_le _, ?_, fun i u hu => ?_⟩), ?_⟩
      · have := World.block_lt_of_cell? W _ h1
        simpa [Addr.add] using this
      · have := cells i u hu
        rw [Addr.add_lit] at this
        exact this
      · intro x hx
        simp only [List.mem_map, List.mem_range] at hx
        obtain ⟨i, hi, rfl⟩ := hx
        exact (hq i hi).1
end Go.Proofs.Ytfnceamkephpjaa.lib
