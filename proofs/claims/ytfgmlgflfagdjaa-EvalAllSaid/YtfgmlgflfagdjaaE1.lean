/- Contracts of eval's small functions: truth, null, checked, sum, less, minus, product, number. -/
import Derived.Test.YtfgmlgflfagdjaaP
import Derived.WalkLawsBesides
namespace Go.Proofs.Ytfgmlgflfagdjaa.ev
open Go.ChangeShapes Go.WideShapes Go.ChangeAt Go.RowKit Go.Proofs.Ytfgmlgflfagdjaa.lib Go.Proofs.Ytfgmlgflfagdjaa.val
set_option linter.unusedVariables false

/-- a value in a slot -/
def vv (v : V) : Value := .agg #[.int .i64 v.k, .int .i64 v.n, .string v.s]
def nul : V := ⟨0, 0, ByteArray.empty⟩
def tru (b : Bool) : V := ⟨1, if b then 1 else 0, ByteArray.empty⟩
/-- the panic of a number beyond the bounds -/
def ovr : Ending := .panicked [{ v := .iface 41 (.int .i64 11), recovered := false }]
def ok64 (n : Int) : Prop := -9223372036854775808 ≤ n ∧ n ≤ 9223372036854775807

theorem truth (b : Bool) (w : World) : Calls Try.prog 69 #[.bool b] w fun e w' => e = .returned (vv (tru b)) ∧ Below w.heap.size w w' := by
  cases b
  all_goals
    go_enter Try.func69, Try.ntmps69
    go_wp2
  · exact bodyPost_ret (v := .agg #[.int .i64 1, .int .i64 0, .string ByteArray.empty]) (by simp [results, Try.results69, go_sem]; rfl) rfl ⟨rfl, (Below.refl _ _).alloc (Nat.le_refl _) _⟩
  · exact bodyPost_ret (v := .agg #[.int .i64 1, .int .i64 1, .string ByteArray.empty]) (by simp [results, Try.results69, go_sem]; rfl) rfl ⟨rfl, (Below.refl _ _).alloc (Nat.le_refl _) _⟩

theorem null (k n : Int) (s : ByteArray) (w : World) : Calls Try.prog 70 #[.agg #[.int .i64 k, .int .i64 n, .string s]] w fun e w' => e = .returned (.bool (k == 0)) ∧ Below w.heap.size w w' := by
  go_enter Try.func70, Try.ntmps70
  go_wp2
  go_ret
  exact ⟨rfl, (Below.refl _ _).alloc (Nat.le_refl _) _⟩

theorem checked_ok (n : Int) (w : World) : Calls Try.prog 86 #[.int .i64 n, .bool false] w fun e w' => e = .returned (.int .i64 n) ∧ w = w' := by
  go_enter Try.func86, Try.ntmps86
  go_wp2
  go_ret
  exact ⟨rfl, rfl⟩
theorem checked_over (n : Int) (w : World) : Calls Try.prog 86 #[.int .i64 n, .bool true] w fun e w' => e = ovr ∧ w = w' := by
  go_enter Try.func86, Try.ntmps86
  go_wp2
  exact ⟨rfl, rfl, rfl⟩

theorem minus_ok (a : Int) (w : World) (h : ok64 (-a)) (ha : ok64 a) : Calls Try.prog 79 #[.int .i64 a] w fun e w' => e = .returned (.int .i64 (-a)) ∧ w = w' := by
  unfold ok64 at *
  have h0 : (a == -9223372036854775808) = false := by simp; omega
  go_enter Try.func79, Try.ntmps79
  go_wp2_with fail
  refine (checked_ok _ _).mono ?_
  rintro e w1 ⟨rfl, rfl⟩
  go_wp2
  go_ret
  exact ⟨rfl, rfl⟩
theorem minus_over (a : Int) (w : World) (h : ¬ ok64 (-a)) (ha : ok64 a) : Calls Try.prog 79 #[.int .i64 a] w fun e w' => e = ovr ∧ w = w' := by
  unfold ok64 at *
  obtain rfl : a = -9223372036854775808 := by omega
  go_enter Try.func79, Try.ntmps79
  go_wp2_with fail
  refine (checked_over _ _).mono ?_
  rintro e w1 ⟨he, rfl⟩
  unfold ovr at he
  subst he
  go_wp2
  exact ⟨rfl, rfl, rfl⟩
theorem sum_ok (a b : Int) (w : World) (h : ok64 (a + b)) (ha : ok64 a) (hb : ok64 b) : Calls Try.prog 80 #[.int .i64 a, .int .i64 b] w fun e w' => e = .returned (.int .i64 (a + b)) ∧ w = w' := by
  unfold ok64 at *
  by_cases b0 : 0 < b
  · have t : ¬ (9223372036854775807 - b < a) := by omega
    go_enter Try.func80, Try.ntmps80
    go_wp2_with fail
    refine (checked_ok _ _).mono ?_
    rintro e w1 ⟨rfl, rfl⟩
    go_wp2
    go_ret
    exact ⟨rfl, rfl⟩
  · by_cases b1 : b < 0
    · have t : ¬ (a < -9223372036854775808 - b) := by omega
      go_enter Try.func80, Try.ntmps80
      go_wp2_with fail
      refine (checked_ok _ _).mono ?_
      rintro e w1 ⟨rfl, rfl⟩
      go_wp2
      go_ret
      exact ⟨rfl, rfl⟩
    · obtain rfl : b = 0 := by omega
      go_enter Try.func80, Try.ntmps80
      go_wp2_with fail
      refine (checked_ok _ _).mono ?_
      rintro e w1 ⟨rfl, rfl⟩
      go_wp2
      go_ret
      exact ⟨ret_int (by simp), rfl⟩
theorem sum_over (a b : Int) (w : World) (h : ¬ ok64 (a + b)) (ha : ok64 a) (hb : ok64 b) : Calls Try.prog 80 #[.int .i64 a, .int .i64 b] w fun e w' => e = ovr ∧ w = w' := by
  unfold ok64 at *
  by_cases b0 : 0 < b
  · have t : (9223372036854775807 - b < a) := by omega
    go_enter Try.func80, Try.ntmps80
    go_wp2_with fail
    refine (checked_over _ _).mono ?_
    rintro e w1 ⟨he, rfl⟩
    unfold ovr at he
    subst he
    go_wp2
    exact ⟨rfl, rfl, rfl⟩
  · by_cases b1 : b < 0
    · have t : (a < -9223372036854775808 - b) := by omega
      go_enter Try.func80, Try.ntmps80
      go_wp2_with fail
      refine (checked_over _ _).mono ?_
      rintro e w1 ⟨he, rfl⟩
      unfold ovr at he
      subst he
      go_wp2
      exact ⟨rfl, rfl, rfl⟩
    · exact absurd h (by omega)
theorem less_ok (a b : Int) (w : World) (h : ok64 (a - b)) (ha : ok64 a) (hb : ok64 b) : Calls Try.prog 81 #[.int .i64 a, .int .i64 b] w fun e w' => e = .returned (.int .i64 (a - b)) ∧ w = w' := by
  unfold ok64 at *
  by_cases b0 : 0 < b
  · have t : ¬ (a < -9223372036854775808 + b) := by omega
    go_enter Try.func81, Try.ntmps81
    go_wp2_with fail
    refine (checked_ok _ _).mono ?_
    rintro e w1 ⟨rfl, rfl⟩
    go_wp2
    go_ret
    exact ⟨rfl, rfl⟩
  · by_cases b1 : b < 0
    · have t : ¬ (9223372036854775807 + b < a) := by omega
      go_enter Try.func81, Try.ntmps81
      go_wp2_with fail
      refine (checked_ok _ _).mono ?_
      rintro e w1 ⟨rfl, rfl⟩
      go_wp2
      go_ret
      exact ⟨rfl, rfl⟩
    · obtain rfl : b = 0 := by omega
      go_enter Try.func81, Try.ntmps81
      go_wp2_with fail
      refine (checked_ok _ _).mono ?_
      rintro e w1 ⟨rfl, rfl⟩
      go_wp2
      go_ret
      exact ⟨ret_int (by simp), rfl⟩
theorem less_over (a b : Int) (w : World) (h : ¬ ok64 (a - b)) (ha : ok64 a) (hb : ok64 b) : Calls Try.prog 81 #[.int .i64 a, .int .i64 b] w fun e w' => e = ovr ∧ w = w' := by
  unfold ok64 at *
  by_cases b0 : 0 < b
  · have t : (a < -9223372036854775808 + b) := by omega
    go_enter Try.func81, Try.ntmps81
    go_wp2_with fail
    refine (checked_over _ _).mono ?_
    rintro e w1 ⟨he, rfl⟩
    unfold ovr at he
    subst he
    go_wp2
    exact ⟨rfl, rfl, rfl⟩
  · by_cases b1 : b < 0
    · have t : (9223372036854775807 + b < a) := by omega
      go_enter Try.func81, Try.ntmps81
      go_wp2_with fail
      refine (checked_over _ _).mono ?_
      rintro e w1 ⟨he, rfl⟩
      unfold ovr at he
      subst he
      go_wp2
      exact ⟨rfl, rfl, rfl⟩
    · exact absurd h (by omega)

theorem product_zero (a b : Int) (w : World) (h : a = 0 ∨ b = 0) : Calls Try.prog 82 #[.int .i64 a, .int .i64 b] w fun e w' => e = .returned (.int .i64 (a * b)) ∧ w = w' := by
  have h0 : a * b = 0 := by rcases h with rfl | rfl <;> simp
  rw [h0]
  clear h0
  rcases h with rfl | rfl
  · go_enter Try.func82, Try.ntmps82
    go_wp2
    go_ret
    exact ⟨rfl, rfl⟩
  · by_cases ha : a = 0
    · subst ha
      go_enter Try.func82, Try.ntmps82
      go_wp2
      go_ret
      exact ⟨rfl, rfl⟩
    · have h1 : (a == 0) = false := by simp; exact ha
      clear ha
      go_enter Try.func82, Try.ntmps82
      go_wp2
      go_ret
      exact ⟨rfl, rfl⟩
set_option maxHeartbeats 400000 in
theorem product_ok (a b : Int) (w : World) (h : ok64 (a * b)) (ha : ok64 a) (hb : ok64 b) (a0 : a ≠ 0) (b0 : b ≠ 0) : Calls Try.prog 82 #[.int .i64 a, .int .i64 b] w fun e w' => e = .returned (.int .i64 (a * b)) ∧ w = w' := by
  unfold ok64 at *
  by_cases a1 : a = -1
  · subst a1
    have h2 : (b == 0) = false := by simp; exact b0
    have h5 : (b == -9223372036854775808) = false := by simp; omega
    by_cases b1 : b = -1
    · subst b1
      go_enter Try.func82, Try.ntmps82
      go_wp2_with fail
      refine (checked_ok _ _).mono ?_
      rintro e w1 ⟨rfl, rfl⟩
      go_wp2
      go_ret
      exact ⟨ret_int (by first | rfl | omega), rfl⟩
    · have h4 : (b == -1) = false := by simp; exact b1
      go_enter Try.func82, Try.ntmps82
      go_wp2_with fail
      refine (checked_ok _ _).mono ?_
      rintro e w1 ⟨rfl, rfl⟩
      go_wp2
      go_ret
      exact ⟨ret_int (by first | rfl | omega), rfl⟩
  · have h1 : (a == 0) = false := by simp; exact a0
    have h3 : (a == -1) = false := by simp; exact a1
    by_cases b1 : b = -1
    · subst b1
      have h5 : (a == -9223372036854775808) = false := by simp; omega
      go_enter Try.func82, Try.ntmps82
      go_wp2_with fail
      refine (checked_ok _ _).mono ?_
      rintro e w1 ⟨rfl, rfl⟩
      go_wp2
      go_ret
      exact ⟨ret_int (by first | rfl | omega), rfl⟩
    · have h2 : (b == 0) = false := by simp; exact b0
      have h4 : (b == -1) = false := by simp; exact b1
      go_enter Try.func82, Try.ntmps82
      go_wp2_with fail
      refine (checked_ok _ _).mono ?_
      rintro e w1 ⟨rfl, rfl⟩
      go_wp2
      go_ret
      exact ⟨ret_int (by first | rfl | omega), rfl⟩

theorem quo_over (a b : Int) (ha : ok64 a) (hb : ok64 b) (b0 : b ≠ 0) (hs : ¬ (b = -1 ∧ a = -9223372036854775808)) (h : ¬ ok64 (a * b)) : wrap64 ((wrap64 (a * b)).tdiv b) ≠ a := by
  intro he
  unfold ok64 at *
  have hc : ∃ q : Int, wrap64 (a * b) = a * b + 18446744073709551616 * q ∧ -9223372036854775808 ≤ wrap64 (a * b) ∧ wrap64 (a * b) ≤ 9223372036854775807 := by
    refine ⟨-((a * b + 9223372036854775808) / 18446744073709551616), ?_, ?_, ?_⟩ <;> unfold wrap64 <;> omega
  obtain ⟨q, h1, h2, h3⟩ := hc
  generalize wrap64 (a * b) = c at *
  have h4 := Int.mul_tdiv_add_tmod c b
  have h5 : (c.tmod b).natAbs < b.natAbs := by
    rw [Int.natAbs_tmod]
    exact Nat.mod_lt _ (by omega)
  have h6 : (c.tdiv b).natAbs ≤ c.natAbs := by
    rw [Int.natAbs_tdiv]
    exact Nat.div_le_self _ _
  generalize c.tdiv b = d at *
  generalize c.tmod b = r at *
  by_cases hd : d = 9223372036854775808
  · subst hd
    have hw : wrap64 9223372036854775808 = -9223372036854775808 := by unfold wrap64; omega
    rw [hw] at he
    exact hs ⟨by omega, by omega⟩
  · have hd2 : wrap64 d = d := by unfold wrap64; omega
    rw [hd2] at he
    subst he
    rw [Int.mul_comm] at h4
    have : q ≠ 0 := by
      rintro rfl
      omega
    omega

theorem product_over (a b : Int) (w : World) (h : ¬ ok64 (a * b)) (ha : ok64 a) (hb : ok64 b) (a0 : a ≠ 0) (b0 : b ≠ 0) : Calls Try.prog 82 #[.int .i64 a, .int .i64 b] w fun e w' => e = ovr ∧ w = w' := by
  have h1 : (a == 0) = false := by simp; exact a0
  have h2 : (b == 0) = false := by simp; exact b0
  by_cases hs : b = -1 ∧ a = -9223372036854775808
  · obtain ⟨rfl, rfl⟩ := hs
    clear h
    go_enter Try.func82, Try.ntmps82
    go_wp2_with fail
    all_goals
      refine (checked_over _ _).mono ?_
      rintro e w1 ⟨he, rfl⟩
      unfold ovr at he
      subst he
      go_wp2
      exact ⟨rfl, rfl, rfl⟩
  · have hq := quo_over a b ha hb b0 hs h
    have hq : (wrap64 ((wrap64 (a * b)).tdiv b) != a) = true := by simpa using hq
    clear h hs
    go_enter Try.func82, Try.ntmps82
    go_wp2_with fail
    refine (checked_over _ _).mono ?_
    rintro e w1 ⟨he, rfl⟩
    unfold ovr at he
    subst he
    go_wp2
    exact ⟨rfl, rfl, rfl⟩

/-- what numbers make; none: beyond the bounds -/
def nres (op a b : Int) : Int := if op = 4 then -a else if op = 14 then a + b else if op = 15 then a - b else a * b
theorem number_ok (op a b : Int) (w : World) (hop : op = 4 ∨ op = 14 ∨ op = 15 ∨ op = 16) (h : ok64 (nres op a b)) (ha : ok64 a) (hb : ok64 b) :
    Calls Try.prog 73 #[.int .i64 op, .int .i64 a, .int .i64 b] w fun e w' => e = .returned (vv ⟨2, nres op a b, ByteArray.empty⟩) ∧ Below w.heap.size w w' := by
  unfold nres at h ⊢
  rcases hop with rfl | rfl | rfl | rfl
  · rw [if_pos rfl] at h ⊢
    go_enter Try.func73, Try.ntmps73
    go_wp2_with fail
    refine (minus_ok a _ h ha).mono ?_
    rintro e w1 ⟨rfl, rfl⟩
    go_wp2
    exact bodyPost_ret (v := .agg #[.int .i64 2, .int .i64 (-a), .string ByteArray.empty]) (by simp [results, Try.results73, go_sem]; rfl) rfl ⟨rfl, (Below.refl _ _).alloc (Nat.le_refl _) _⟩
  · rw [if_neg (by omega), if_pos rfl] at h ⊢
    go_enter Try.func73, Try.ntmps73
    go_wp2_with fail
    refine (sum_ok a b _ h ha hb).mono ?_
    rintro e w1 ⟨rfl, rfl⟩
    go_wp2
    exact bodyPost_ret (v := .agg #[.int .i64 2, .int .i64 (a + b), .string ByteArray.empty]) (by simp [results, Try.results73, go_sem]; rfl) rfl ⟨rfl, (Below.refl _ _).alloc (Nat.le_refl _) _⟩
  · rw [if_neg (by omega), if_neg (by omega), if_pos rfl] at h ⊢
    go_enter Try.func73, Try.ntmps73
    go_wp2_with fail
    refine (less_ok a b _ h ha hb).mono ?_
    rintro e w1 ⟨rfl, rfl⟩
    go_wp2
    exact bodyPost_ret (v := .agg #[.int .i64 2, .int .i64 (a - b), .string ByteArray.empty]) (by simp [results, Try.results73, go_sem]; rfl) rfl ⟨rfl, (Below.refl _ _).alloc (Nat.le_refl _) _⟩
  · rw [if_neg (by omega), if_neg (by omega), if_neg (by omega)] at h ⊢
    have hp : ∀ w : World, Calls Try.prog 82 #[.int .i64 a, .int .i64 b] w fun e w' => e = .returned (.int .i64 (a * b)) ∧ w = w' := fun w => by
      by_cases hz : a = 0 ∨ b = 0
      · exact product_zero a b w hz
      · exact product_ok a b w h ha hb (fun e => hz (.inl e)) (fun e => hz (.inr e))
    have HP := Lib.hid hp
    clear hp
    go_enter Try.func73, Try.ntmps73
    go_wp2_with fail
    refine (HP.out _).mono ?_
    rintro e w1 ⟨rfl, rfl⟩
    go_wp2
    exact bodyPost_ret (v := .agg #[.int .i64 2, .int .i64 (a * b), .string ByteArray.empty]) (by simp [results, Try.results73, go_sem]; rfl) rfl ⟨rfl, (Below.refl _ _).alloc (Nat.le_refl _) _⟩

theorem number_over (op a b : Int) (w : World) (hop : op = 4 ∨ op = 14 ∨ op = 15 ∨ op = 16) (h : ¬ ok64 (nres op a b)) (ha : ok64 a) (hb : ok64 b) :
    Calls Try.prog 73 #[.int .i64 op, .int .i64 a, .int .i64 b] w fun e w' => e = ovr ∧ Below w.heap.size w w' := by
  unfold nres at h
  rcases hop with rfl | rfl | rfl | rfl
  · rw [if_pos rfl] at h
    go_enter Try.func73, Try.ntmps73
    go_wp2_with fail
    refine (minus_over a _ h ha).mono ?_
    rintro e w1 ⟨he, rfl⟩
    unfold ovr at he
    subst he
    go_wp2
    exact ⟨rfl, rfl, (Below.refl _ _).alloc (Nat.le_refl _) _⟩
  · rw [if_neg (by omega), if_pos rfl] at h
    go_enter Try.func73, Try.ntmps73
    go_wp2_with fail
    refine (sum_over a b _ h ha hb).mono ?_
    rintro e w1 ⟨he, rfl⟩
    unfold ovr at he
    subst he
    go_wp2
    exact ⟨rfl, rfl, (Below.refl _ _).alloc (Nat.le_refl _) _⟩
  · rw [if_neg (by omega), if_neg (by omega), if_pos rfl] at h
    go_enter Try.func73, Try.ntmps73
    go_wp2_with fail
    refine (less_over a b _ h ha hb).mono ?_
    rintro e w1 ⟨he, rfl⟩
    unfold ovr at he
    subst he
    go_wp2
    exact ⟨rfl, rfl, (Below.refl _ _).alloc (Nat.le_refl _) _⟩
  · rw [if_neg (by omega), if_neg (by omega), if_neg (by omega)] at h
    have hz : ¬ (a = 0 ∨ b = 0) := by
      rintro (rfl | rfl) <;> exact h (by unfold ok64; omega)
    go_enter Try.func73, Try.ntmps73
    go_wp2_with fail
    refine (product_over a b _ h ha hb (fun e => hz (.inl e)) (fun e => hz (.inr e))).mono ?_
    rintro e w1 ⟨he, rfl⟩
    unfold ovr at he
    subst he
    go_wp2
    exact ⟨rfl, rfl, (Below.refl _ _).alloc (Nat.le_refl _) _⟩
end Go.Proofs.Ytfgmlgflfagdjaa.ev
