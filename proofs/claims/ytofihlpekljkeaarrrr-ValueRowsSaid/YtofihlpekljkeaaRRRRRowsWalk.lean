/- The walk of ValueRows. -/
import Derived.Test.YtofihlpekljkeaaRRRRP
namespace Go.Proofs.YtofihlpekljkeaaRRRR.val
open Go.ChangeShapes Go.WideShapes Go.ChangeAt Go.RowKit Go.Proofs.YtofihlpekljkeaaRRRR.lib
set_option linter.unusedVariables false

theorem checkC (k n : Int) (s : ByteArray) (c : Int) (w : World) (hs : s.size ≤ maxLen) (hc : chk k n s = c) :
    Calls Try.prog 12 #[.agg #[.int .i64 k, .int .i64 n, .string s]] w fun e w' => e = .returned (.int .i64 c) ∧ Below w.heap.size w w' := by
  subst hc
  exact check k n s w hs

theorem vEq_false {k n : Int} {s : ByteArray} (h : ((k = 0 ∨ k = 3) ∧ n ≠ 0) ∨ (k ≠ 3 ∧ s.data.toList ≠ [])) : vEq k n s k (bareN k n) (bareS k s) = false := by
  rcases h with ⟨h1, h2⟩ | ⟨h1, h2⟩
  · have : bareN k n = 0 := by rw [bareN, if_neg (by omega)]
    simp [vEq, this, h2]
  · have e : bareS k s = ByteArray.empty := by rw [bareS, if_neg h1]
    have : (s == ByteArray.empty) = false := by
      rw [Bool.eq_false_iff]
      intro h
      rw [beqBA] at h
      exact h2 (by rw [h]; rfl)
    rw [vEq, e, this]
    simp
theorem chk_arg {k n : Int} {s : ByteArray} (h0 : 0 ≤ k) (h3 : k ≤ 3) (h : ((k = 0 ∨ k = 3) ∧ n ≠ 0) ∨ (k ≠ 3 ∧ s.data.toList ≠ []) ∨ (k = 1 ∧ n ≠ 0 ∧ n ≠ 1)) : chk k n s = 1 := by
  rw [chk, if_neg (by omega), if_pos]
  rcases h with h | h | h
  · exact .inl (vEq_false (.inl h))
  · exact .inl (vEq_false (.inr h))
  · exact .inr h
theorem chk_kind {k n : Int} {s : ByteArray} (h : k < 0 ∨ 3 < k) : chk k n s = 3 := by rw [chk, if_pos h]

theorem below_alloc {N : Nat} {w w1 w3 : World} {o : Obj} (hb1 : Below N w w1) (hN : N ≤ w1.heap.size) (hb3 : Below (w1.alloc o).heap.size (w1.alloc o) w3) : Below N w w3 :=
  Below.trans hb1 (Below.trans ((Below.refl _ _).alloc hN _) (hb3.mono (by simp; omega)))
theorem size_x (s : ByteArray) : (s ++ (⟨#[120]⟩ : ByteArray)).size = s.size + 1 := by rw [ByteArray.size_append]; rfl
theorem list_x (s : ByteArray) : (s ++ (⟨#[120]⟩ : ByteArray)).data.toList ≠ [] := by simp

set_option maxHeartbeats 1000000 in
theorem rows_walk06 (which n : Int) (s : ByteArray) (w : World) (hs : s.size ≤ maxLen) (bw : -9223372036854775808 ≤ which ∧ which ≤ 9223372036854775807) (bn : -9223372036854775808 ≤ n ∧ n ≤ 9223372036854775807) (h7 : which % 8 ≠ 7) :
    Calls Try.prog 4 #[.int .i64 which, .int .i64 n, .string s] w fun e w' => e = .returned (.bool true) ∧ Below w.heap.size w w' := by
  have hm := Int.emod_nonneg which (by omega : (8 : Int) ≠ 0)
  have hM := Int.emod_lt_of_pos which (by omega : (0 : Int) < 8)
  have gm := Int.emod_nonneg n (by omega : (9 : Int) ≠ 0)
  have gM := Int.emod_lt_of_pos n (by omega : (0 : Int) < 9)
  unfold maxLen at hs
  go_enter Try.func4, Try.ntmps4
  go_wp2_with fail
  refine (known _).mono ?_
  rintro e w1 ⟨rfl, hb1⟩
  by_cases h60 : 60 < s.size
  · go_wp2_with fail
    go_ret
    exact ⟨rfl, hb1⟩
  · have hx : ∀ W : World, W = W := fun _ => rfl
    go_wp2_with fail
    refine (within _ _ _ (by omega) (by omega) bw.1 bw.2).mono ?_
    rintro e w2 ⟨rfl, rfl⟩
    rcases (show which % 8 = 0 ∨ which % 8 = 1 ∨ which % 8 = 2 ∨ which % 8 = 3 ∨ which % 8 = 4 ∨ which % 8 = 5 ∨ which % 8 = 6 by omega) with h | h | h | h | h | h | h
    all_goals rw [h]
    all_goals
      go_wp2_with (go_at_call 11; refine (within _ _ _ (by omega) (by omega) (by omega) (by omega)).mono ?_; rintro e w2 ⟨rfl, rfl⟩)
    · refine (checkC _ _ _ 3 _ (by decide) (chk_kind (by omega))).mono ?_
      rintro e w3 ⟨rfl, hb3⟩
      go_wp2
      go_ret
      exact ⟨rfl, below_alloc hb1 hb1.size hb3⟩
    · refine (checkC _ _ _ 3 _ (by decide) (chk_kind (by omega))).mono ?_
      rintro e w3 ⟨rfl, hb3⟩
      go_wp2
      go_ret
      exact ⟨rfl, below_alloc hb1 hb1.size hb3⟩
    · refine (checkC _ _ _ 1 _ (by decide) (chk_arg (by omega) (by omega) (.inl ⟨.inl rfl, by omega⟩))).mono ?_
      rintro e w3 ⟨rfl, hb3⟩
      go_wp2
      go_ret
      exact ⟨rfl, below_alloc hb1 hb1.size hb3⟩
    · refine (checkC _ _ _ 1 _ (by rw [size_x]; unfold maxLen; omega) (chk_arg (by omega) (by omega) (.inr (.inl ⟨by omega, list_x s⟩)))).mono ?_
      rintro e w3 ⟨rfl, hb3⟩
      go_wp2
      go_ret
      exact ⟨rfl, below_alloc hb1 hb1.size hb3⟩
    · refine (checkC _ _ _ 1 _ (by decide) (chk_arg (by omega) (by omega) (.inr (.inr ⟨rfl, by omega, by omega⟩)))).mono ?_
      rintro e w3 ⟨rfl, hb3⟩
      go_wp2
      go_ret
      exact ⟨rfl, below_alloc hb1 hb1.size hb3⟩
    · refine (checkC _ _ _ 1 _ (by rw [size_x]; unfold maxLen; omega) (chk_arg (by omega) (by omega) (.inr (.inl ⟨by omega, list_x s⟩)))).mono ?_
      rintro e w3 ⟨rfl, hb3⟩
      go_wp2
      go_ret
      exact ⟨rfl, below_alloc hb1 hb1.size hb3⟩
    · refine (checkC _ _ _ 1 _ (by unfold maxLen; omega) (chk_arg (by omega) (by omega) (.inl ⟨.inr rfl, by omega⟩))).mono ?_
      rintro e w3 ⟨rfl, hb3⟩
      go_wp2
      go_ret
      exact ⟨rfl, below_alloc hb1 hb1.size hb3⟩

/-- so many bytes of nought: as cells, as a string -/
def zc (m : Nat) : Array Value := madeCells (Value.int .u8 0).cells (m * 1)
def zb (m : Nat) : ByteArray := ⟨(List.replicate m (0 : UInt8)).toArray⟩
theorem info8 : (Try.prog.info? 5).map (fun i => (i.zero, i.size, i.bytes)) = some (some (.int .u8 0), 1, 1) := by kernel_rfl
theorem make8 (m : Nat) (hm : (m : Int) ≤ 1000) (W : World) : (Instr.makeSlice 31 (.int .i64 (m : Int)) (.int .i64 (m : Int))).run Try.prog W = .ok (.slice (some ⟨W.heap.size, 0, none⟩) m m) (W.alloc (.cells (zc m) 5)) := by
  obtain ⟨i0, hi, hz0, hz1, hz2⟩ := info_parts info8
  have h := run_make (P := Try.prog) W 31 5 i0 _ Try.underlying31 hi hz0 .i64 .i64 m m (by omega) (by omega) (by rw [hz2]; omega) (by omega)
  rw [hz1] at h
  simpa [zc] using h
theorem zc_at (m j : Nat) (hj : j < m) : (zc m)[j]? = some (.int .u8 0) := by
  simp [zc, madeCells, hj, Value.cells, Nat.mod_one]
theorem conv8 (m : Nat) (W : World) : (convert 31 9 (.slice (some ⟨W.heap.size, 0, none⟩) m m)).run Try.prog (W.alloc (.cells (zc m) 5)) = .ok (.string (zb m)) (W.alloc (.cells (zc m) 5)) := by
  have h := run_convert_bytes_back (P := Try.prog) (W.alloc (.cells (zc m) 5)) 31 9 5 ⟨W.heap.size, 0, none⟩ m (List.replicate m 0) Try.underlying31 Try.underlying5 Try.underlying9 (fun j hj => by
    simp only [List.length_replicate] at hj
    have e : (⟨W.heap.size, 0, none⟩ : Addr).add j = ⟨W.heap.size, j, none⟩ := by
      unfold Addr.add
      split <;> simp_all
    rw [e, cell_of_row _ _ _ _ _ _ (heap_alloc_new W _), zc_at m j hj]
    simp)
  simp only [List.length_replicate] at h
  exact h
theorem conv8' (m : Nat) (W : World) (o : Obj) : (convert 31 9 (.slice (some ⟨W.heap.size + 1, 0, none⟩) m m)).run Try.prog ((W.alloc o).alloc (.cells (zc m) 5)) = .ok (.string (zb m)) ((W.alloc o).alloc (.cells (zc m) 5)) := by
  have h := conv8 m (W.alloc o)
  have e : (W.alloc o).heap.size = W.heap.size + 1 := by simp
  rw [e] at h
  exact h
theorem zb_size (m : Nat) : (zb m).size = m := by simp [zb, ByteArray.size]

set_option maxHeartbeats 1000000 in
theorem rows_walk7 (which n : Int) (s : ByteArray) (w : World) (hs : s.size ≤ maxLen) (bw : -9223372036854775808 ≤ which ∧ which ≤ 9223372036854775807) (bn : -9223372036854775808 ≤ n ∧ n ≤ 9223372036854775807) (h7 : which % 8 = 7) (h60 : ¬ 60 < s.size) :
    Calls Try.prog 4 #[.int .i64 which, .int .i64 n, .string s] w fun e w' => e = .returned (.bool true) ∧ Below w.heap.size w w' := by
  have gm := Int.emod_nonneg n (by omega : (9 : Int) ≠ 0)
  have gM := Int.emod_lt_of_pos n (by omega : (0 : Int) < 9)
  obtain ⟨m, hm⟩ : ∃ m : Nat, 61 + n % 9 = (m : Int) := ⟨(61 + n % 9).toNat, by omega⟩
  have hm1 : 60 < m := by omega
  have hm2 : m ≤ 1000 := by omega
  have hmk := fun W => make8 m (by omega) W
  rw [← hm] at hmk
  have hcv := fun W o => conv8' m W o
  clear hm
  unfold maxLen at hs
  go_enter Try.func4, Try.ntmps4
  go_wp2_with fail
  refine (known _).mono ?_
  rintro e w1 ⟨rfl, hb1⟩
  go_wp2_with fail
  refine (within _ _ _ (by omega) (by omega) bw.1 bw.2).mono ?_
  rintro e w2 ⟨rfl, rfl⟩
  rw [h7]
  go_wp2_with (go_at_call 11; refine (within _ _ _ (by omega) (by omega) (by omega) (by omega)).mono ?_; rintro e w2 ⟨rfl, rfl⟩)
  refine (checkC _ _ _ 5 _ (by rw [zb_size]; unfold maxLen; omega) ?_).mono ?_
  · have e : vEq 3 0 (zb m) 3 (bareN 3 0) (bareS 3 (zb m)) = true := by
      have e1 : ((zb m) == zb m) = true := (beqBA _ _).2 rfl
      simp [vEq, bareN, bareS, e1]
    rw [chk, if_neg (by omega), if_neg (by simp [e]), if_pos (by rw [zb_size]; exact hm1)]
  rintro e w3 ⟨rfl, hb3⟩
  go_wp2
  go_ret
  refine ⟨rfl, Below.trans hb1 (Below.trans (((Below.refl _ _).alloc hb1.size _).alloc (by have := hb1.size; simp; omega) _) (hb3.mono (by have := hb1.size; simp; omega)))⟩

theorem rows_walk (which n : Int) (s : ByteArray) (w : World) (hs : s.size ≤ maxLen) (bw : -9223372036854775808 ≤ which ∧ which ≤ 9223372036854775807) (bn : -9223372036854775808 ≤ n ∧ n ≤ 9223372036854775807) :
    Calls Try.prog 4 #[.int .i64 which, .int .i64 n, .string s] w fun e w' => e = .returned (.bool true) ∧ Below w.heap.size w w' := by
  by_cases h7 : which % 8 = 7
  · by_cases h60 : 60 < s.size
    · unfold maxLen at hs
      go_enter Try.func4, Try.ntmps4
      go_wp2_with fail
      refine (known _).mono ?_
      rintro e w1 ⟨rfl, hb1⟩
      go_wp2_with fail
      go_ret
      exact ⟨rfl, hb1⟩
    · exact rows_walk7 which n s w hs bw bn h7 h60
  · exact rows_walk06 which n s w hs bw bn h7
end Go.Proofs.YtofihlpekljkeaaRRRR.val
