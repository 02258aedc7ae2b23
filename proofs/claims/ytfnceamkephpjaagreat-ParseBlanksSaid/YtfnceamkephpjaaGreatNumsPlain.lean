/- LexNums, LexSigns, LexNames: plain laws; digits. -/
import Derived.Test.YtfnceamkephpjaaGreatK9
namespace Go.Proofs.YtfnceamkephpjaaGreat.lx
open Go.ChangeShapes Go.WideShapes Go.ChangeAt Go.RowKit Go.Proofs.YtfnceamkephpjaaGreat.lib
set_option linter.unusedVariables false

theorem digs_small (n : Nat) (h : n < 10) : digs n = [UInt8.ofNat (48 + n)] := by
  rw [digs, dif_neg (by omega)]
theorem digs_big (n : Nat) (h : 10 ≤ n) : digs n = digs (n / 10) ++ digs (n % 10) := by
  rw [digs, dif_pos h, digs_small (n % 10) (by omega)]
theorem digs_len : ∀ (k n : Nat), n < 10 ^ (k + 1) → (digs n).length ≤ k + 1
  | 0, n, h => by rw [digs_small n (by simpa using h)]; simp
  | k + 1, n, h => by
    by_cases h10 : 10 ≤ n
    · have ih := digs_len k (n / 10) (by rw [Nat.pow_succ] at h; omega)
      rw [digs_big n h10, List.length_append, digs_small (n % 10) (by omega)]
      simp
      omega
    · rw [digs_small n (by omega)]; simp
theorem digs_19 (n : Nat) (h : n ≤ 9223372036854775807) : (digs n).length ≤ 19 := digs_len 18 n (by omega)

def numRes : Option Int → Int × List Wd
  | some x => (0, [⟨2, x, []⟩, endW])
  | none => (11, [])
theorem words_num (l : List UInt8) (c : UInt8) (r : List UInt8) (hl : l = c :: r) (hd : ∀ c ∈ l, digB c = true) (h : l.length ≤ 600) (x : Option Int) (hx : numL l 0 = x) :
    wordsL l = numRes x := by
  subst hx
  have hc : digB c = true := hd c (by rw [hl]; exact List.mem_cons_self ..)
  have hk := dig_cases c
  rw [hc] at hk
  simp at hk
  obtain ⟨e1, e2⟩ := tw_split digB l [] hd (fun x q e => by cases e)
  rw [List.append_nil] at e1 e2
  have hst : stepL l = numSt (numL l 0) [] := by
    conv => lhs; rw [hl]
    rw [stepL, if_neg (by rw [hk.1.1]; decide), if_neg (by rw [hk.1.2]; decide), if_pos hc, ← hl, e1, e2]
  unfold wordsL
  rw [if_neg (by omega)]
  cases hn : numL l 0 with
  | none =>
    rw [hn] at hst
    rw [lexL_err [] (by rw [hl]; simp) hst]
    rfl
  | some x =>
    rw [hn] at hst
    rw [lexL_put [] (w := ⟨2, x, []⟩) (r := []) hst, lexL_nil]
    rfl
theorem numL_zeros : ∀ z : Nat, numL (List.replicate z 48) 0 = some 0
  | 0 => rfl
  | z + 1 => by
    rw [List.replicate_succ, numL, if_neg (by decide)]
    exact numL_zeros z
theorem dig_zero : digB 48 = true := by decide
theorem words_digs (z n : Nat) (hz : z ≤ 8) (hn : n ≤ 9223372036854775807) : wordsL (List.replicate z 48 ++ digs n) = (0, [⟨2, n, []⟩, endW]) := by
  have hd : ∀ c ∈ List.replicate z 48 ++ digs n, digB c = true := by
    intro c hc
    rcases List.mem_append.1 hc with hc | hc
    · rw [List.eq_of_mem_replicate hc]; exact dig_zero
    · exact (digs_dig n).1 c hc
  have hne : List.replicate z 48 ++ digs n ≠ [] := by
    intro e
    exact (digs_dig n).2 (List.append_eq_nil_iff.1 e).2
  have hlen := digs_19 n hn
  have hx : numL (List.replicate z 48 ++ digs n) 0 = some (n : Int) := by
    rw [numL_append, numL_zeros]
    exact digs_num n (by omega)
  generalize hl : List.replicate z 48 ++ digs n = l at *
  have hl600 : l.length ≤ 600 := by rw [← hl]; simp; omega
  cases l with
  | nil => exact absurd rfl hne
  | cons c r => exact words_num _ c r rfl hd hl600 _ hx
theorem digs_8 : digs 8 = [56] := by rw [digs_small 8 (by omega)]; rfl
theorem digs_9 : digs 9 = [57] := by rw [digs_small 9 (by omega)]; rfl
def p18 : List UInt8 := [57, 50, 50, 51, 51, 55, 50, 48, 51, 54, 56, 53, 52, 55, 55, 53, 56, 48]
theorem words_over (m : Nat) (h : m = 8 ∨ m = 9) : wordsL (p18 ++ digs m) = (11, []) := by
  rcases h with rfl | rfl
  · rw [digs_8]; rfl
  · rw [digs_9]; rfl
theorem words_top : wordsL (p18 ++ [55]) = (0, [⟨2, 9223372036854775807, []⟩, endW]) := by rfl
theorem words_more (z : Nat) (hz : z ≤ 8) : wordsL ([49] ++ List.replicate z 48 ++ (p18 ++ [55])) = (11, []) := by
  have : z = 0 ∨ z = 1 ∨ z = 2 ∨ z = 3 ∨ z = 4 ∨ z = 5 ∨ z = 6 ∨ z = 7 ∨ z = 8 := by omega
  rcases this with rfl | rfl | rfl | rfl | rfl | rfl | rfl | rfl | rfl <;> rfl

theorem own_lit (w : World) (x : Value) (e : TypeId) : (w.alloc (.cells #[x] e)).ownsRow w.heap.size e 1 (.slice (some ⟨w.heap.size, 0, none⟩) 1 1) 1 [x] :=
  ⟨rfl, .inr ⟨w.heap.size, 1, #[x], rfl, Nat.le_refl _, heap_alloc_new w _, Nat.le_refl _, by decide, rfl, rfl⟩⟩
theorem app_mk' (a b : List UInt8) : (ByteArray.mk a.toArray) ++ (ByteArray.mk b.toArray) = ⟨(a ++ b).toArray⟩ := by
  apply ByteArray.ext
  simp
end Go.Proofs.YtfnceamkephpjaaGreat.lx
