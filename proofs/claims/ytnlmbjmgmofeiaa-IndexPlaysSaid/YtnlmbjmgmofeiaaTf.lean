/- Plain: two hundred rows and one more. -/
import Derived.Test.YtnlmbjmgmofeiaaTl
namespace Go.Proofs.Ytnlmbjmgmofeiaa.tb
open Go.RowKit Go.Proofs.Ytnlmbjmgmofeiaa.lib Go.Proofs.Ytnlmbjmgmofeiaa.val
set_option linter.unusedVariables false

def keyF (b i : Nat) : Nat := (i * 37 * b) % 1009
def rowF (b i : Nat) : List V := [⟨2, (keyF b i : Int), ByteArray.empty⟩]
def colF : List Col := [⟨⟨#[97]⟩, 2, false⟩]
theorem cop (b : Nat) (h1 : 1 ≤ b) (h7 : b ≤ 7) : Nat.Coprime 1009 (37 * b) := by
  have : b = 1 ∨ b = 2 ∨ b = 3 ∨ b = 4 ∨ b = 5 ∨ b = 6 ∨ b = 7 := by omega
  rcases this with rfl | rfl | rfl | rfl | rfl | rfl | rfl <;> decide +kernel
theorem keyF_lt {b i j : Nat} (h1 : 1 ≤ b) (h7 : b ≤ 7) (hij : i < j) (hj : j < 1009) : keyF b i ≠ keyF b j := by
  intro e
  unfold keyF at e
  have hd : 1009 ∣ (j * 37 * b - i * 37 * b) := Nat.dvd_of_mod_eq_zero (Nat.sub_mod_eq_zero_of_mod_eq e.symm)
  have e2 : j * 37 * b - i * 37 * b = (j - i) * (37 * b) := by rw [Nat.sub_mul, Nat.mul_assoc, Nat.mul_assoc]
  rw [e2] at hd
  have := (cop b h1 h7).dvd_of_dvd_mul_right hd
  have := Nat.le_of_dvd (by omega) this
  omega
theorem keyF_ne {b i j : Nat} (h1 : 1 ≤ b) (h7 : b ≤ 7) (hij : i ≠ j) (hi : i < 1009) (hj : j < 1009) : keyF b i ≠ keyF b j := by
  rcases Nat.lt_or_gt_of_ne hij with h | h
  · exact keyF_lt h1 h7 h hj
  · exact (keyF_lt h1 h7 h hi).symm
theorem rowF_fits (b i : Nat) : fitsL colF (rowF b i) = 0 := by
  unfold fitsL colF rowF fitsGo vchk chk vEq bareN bareS
  simp [fitsGo, ba_refl]
theorem rowF_ne {b i j : Nat} (h1 : 1 ≤ b) (h7 : b ≤ 7) (hij : i ≠ j) (hi : i < 1009) (hj : j < 1009) : kNe 0 (rowF b i) (rowF b j) := by
  intro e
  have e : cmpV ⟨2, (keyF b i : Int), ByteArray.empty⟩ ⟨2, (keyF b j : Int), ByteArray.empty⟩ = 0 := e
  rw [cmpV_zero] at e
  unfold vEq at e
  simp only [Bool.and_eq_true, beq_iff_eq] at e
  exact keyF_ne h1 h7 hij hi hj (by omega)
structure FullI (b i : Nat) (rows : List (List V)) : Prop where
  ok : Ok colF 0 rows
  len : rows.length = min i 200
  all : ∀ x ∈ rows, ∃ j, j < i ∧ x = rowF b j
theorem full0 (b : Nat) : FullI b 0 [] := ⟨⟨by decide, fun c h => by injection h with h; rw [← h], fun r h => absurd h (by simp), List.Pairwise.nil⟩, rfl, fun x h => absurd h (by simp)⟩
theorem full_step {b i : Nat} {rows : List (List V)} (h : FullI b i rows) (h1 : 1 ≤ b) (h7 : b ≤ 7) (hi : i < 1000) : (putL colF 0 rows (rowF b i)).1 = (if i < 200 then 0 else 4) ∧ FullI b (i + 1) (putL colF 0 rows (rowF b i)).2 := by
  have hne : ∀ x ∈ rows, kNe 0 x (rowF b i) := fun x hx => by
    obtain ⟨j, hj, rfl⟩ := h.all x hx
    exact rowF_ne h1 h7 (by omega) (by omega) (by omega)
  have hok := putL_ok h.ok (rowF b i)
  have hl := h.len
  by_cases hc : i < 200
  · obtain ⟨e1, e2⟩ := put_new h.ok (rowF_fits b i) hne (by omega)
    rw [if_pos hc]
    refine ⟨e1, hok, ?_, fun x hx => ?_⟩
    · rw [e2.length_eq, List.length_cons]; omega
    · rcases List.mem_cons.1 (e2.mem_iff.1 hx) with rfl | hx
      · exact ⟨i, by omega, rfl⟩
      · obtain ⟨j, hj, e⟩ := h.all x hx
        exact ⟨j, by omega, e⟩
  · have hi : isL 0 (keyOf 0 (rowF b i)) rows = false := by
      cases e : isL 0 (keyOf 0 (rowF b i)) rows with
      | false => rfl
      | true =>
        obtain ⟨x, hx, hz⟩ := isL_at e
        exact absurd hz (hne x (List.mem_of_getElem? hx))
    have e : putL colF 0 rows (rowF b i) = (4, rows) := by
      unfold putL
      rw [if_neg (by simpa using rowF_fits b i), hi, if_neg (by simp), if_pos (by omega)]
    rw [e] at hok ⊢
    rw [if_neg hc]
    refine ⟨rfl, hok, by show rows.length = _; omega, fun x hx => ?_⟩
    obtain ⟨j, hj, e⟩ := h.all x hx
    exact ⟨j, by omega, e⟩
end Go.Proofs.Ytnlmbjmgmofeiaa.tb
