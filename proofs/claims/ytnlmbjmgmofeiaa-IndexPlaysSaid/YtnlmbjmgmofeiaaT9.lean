/- Contracts: the document's Check; Fits, and the document's. -/
import Derived.Test.YtnlmbjmgmofeiaaT8
namespace Go.Proofs.Ytnlmbjmgmofeiaa.tb
open Go.ChangeShapes Go.WideShapes Go.ChangeAt Go.RowKit Go.Proofs.Ytnlmbjmgmofeiaa.lib Go.Proofs.Ytnlmbjmgmofeiaa.val
set_option linter.unusedVariables false

theorem es_beq (s : ByteArray) : (s == ByteArray.empty) = (s.toList == []) := by
  rw [beq_toListBytes, ByteArray.toList_eq ByteArray.empty]; rfl
theorem chk_0 (n : Int) (s : ByteArray) : chk 0 n s = if (n == 0) = true ∧ (s.toList == []) = true then (if 60 < s.size then 5 else 0) else 1 := by
  rw [← es_beq]
  unfold chk vEq bareN bareS
  cases h1 : (n == 0) <;> cases h2 : (s == ByteArray.empty) <;> simp [h1, h2]
theorem chk_1 (n : Int) (s : ByteArray) : chk 1 n s = if (n = 0 ∨ n = 1) ∧ (s.toList == []) = true then (if 60 < s.size then 5 else 0) else 1 := by
  rw [← es_beq]
  unfold chk vEq bareN bareS
  by_cases h0 : n = 0
  · cases h2 : (s == ByteArray.empty) <;> simp [h0, h2]
  · by_cases h1 : n = 1
    · cases h2 : (s == ByteArray.empty) <;> simp [h1, h2]
    · simp [h0, h1]
theorem chk_2 (n : Int) (s : ByteArray) : chk 2 n s = if (s.toList == []) = true then (if 60 < s.size then 5 else 0) else 1 := by
  rw [← es_beq]
  unfold chk vEq bareN bareS
  cases h2 : (s == ByteArray.empty) <;> simp [h2]
theorem chk_3 (n : Int) (s : ByteArray) : chk 3 n s = if (n == 0) = true then (if 60 < s.size then 5 else 0) else 1 := by
  unfold chk vEq bareN bareS
  cases h1 : (n == 0) <;> simp [h1, ba_refl]
set_option maxHeartbeats 2000000 in
theorem rcheck_ (v : V) (w : World) (hs : v.s.size ≤ maxLen) :
    Calls Try.prog 58 #[.agg #[.int .i64 v.k, .int .i64 v.n, .string v.s]] w fun e w' => e = .returned (.int .i64 (vchk v)) ∧ Below w.heap.size w w' := by
  unfold maxLen at hs
  obtain ⟨k, n, s⟩ := v
  simp only [vchk] at hs ⊢
  by_cases hk : k < 0 ∨ 3 < k
  · have e : chk k n s = 3 := by unfold chk; rw [if_pos hk]
    rw [e]
    rcases hk with hk | hk
    · have h1 : decide (k < 0) = true := by simp; omega
      go_enter Try.func58, Try.ntmps58
      go_wp2
      go_ret
      exact ⟨rfl, (Below.refl _ _).alloc (Nat.le_refl _) _⟩
    · have h1 : decide (k < 0) = false := by simp; omega
      have h2 : decide (3 < k) = true := by simp; omega
      go_enter Try.func58, Try.ntmps58
      go_wp2
      go_ret
      exact ⟨rfl, (Below.refl _ _).alloc (Nat.le_refl _) _⟩
  have hk : k = 0 ∨ k = 1 ∨ k = 2 ∨ k = 3 := by omega
  obtain ⟨p, hp⟩ : ∃ p, (s.toList == []) = p := ⟨_, rfl⟩
  obtain ⟨q, hq⟩ : ∃ q, decide (60 < s.size) = q := ⟨_, rfl⟩
  have hq2 : decide (60 < (s.size : Int)) = q := by rw [← hq]; simp; omega
  have hq3 : (if 60 < s.size then (5 : Int) else 0) = if q = true then 5 else 0 := by rw [← hq]; simp
  obtain ⟨z, hz⟩ : ∃ z, (n == 0) = z := ⟨_, rfl⟩
  rcases hk with rfl | rfl | rfl | rfl
  · rw [chk_0, hq3, hp, hz]
    have hp2 : (s.toList != []) = !p := by rw [← hp]; rfl
    have hz2 : (n != 0) = !z := by rw [← hz]; rfl
    clear hq3
    cases p <;> cases q <;> cases z <;>
    ( go_enter Try.func58, Try.ntmps58
      go_wp2
      go_ret
      exact ⟨rfl, (Below.refl _ _).alloc (Nat.le_refl _) _⟩)
  · rw [chk_1, hq3, hp]
    have hp2 : (s.toList != []) = !p := by rw [← hp]; rfl
    clear hq3 hz
    obtain ⟨y, hy⟩ : ∃ y, decide (n < 0) = y := ⟨_, rfl⟩
    obtain ⟨x, hx⟩ : ∃ x, decide (1 < n) = x := ⟨_, rfl⟩
    have e : ((n = 0 ∨ n = 1) ∧ p = true) = (y = false ∧ x = false ∧ p = true) := by
      rw [← hy, ← hx]
      simp only [decide_eq_false_iff_not, eq_iff_iff]
      constructor
      · rintro ⟨h, h2⟩; exact ⟨by omega, by omega, h2⟩
      · rintro ⟨h, h2, h3⟩; exact ⟨by omega, h3⟩
    simp only [e]
    clear e
    cases p <;> cases q <;> cases y <;> cases x <;>
    ( go_enter Try.func58, Try.ntmps58
      go_wp2
      go_ret
      exact ⟨rfl, (Below.refl _ _).alloc (Nat.le_refl _) _⟩)
  · rw [chk_2, hq3, hp]
    have hp2 : (s.toList != []) = !p := by rw [← hp]; rfl
    clear hq3 hz
    cases p <;> cases q <;>
    ( go_enter Try.func58, Try.ntmps58
      go_wp2
      go_ret
      exact ⟨rfl, (Below.refl _ _).alloc (Nat.le_refl _) _⟩)
  · rw [chk_3, hq3, hz]
    have hz2 : (n != 0) = !z := by rw [← hz]; rfl
    clear hq3 hp
    cases z <;> cases q <;>
    ( go_enter Try.func58, Try.ntmps58
      go_wp2
      go_ret
      exact ⟨rfl, (Below.refl _ _).alloc (Nat.le_refl _) _⟩)
end Go.Proofs.Ytnlmbjmgmofeiaa.tb
