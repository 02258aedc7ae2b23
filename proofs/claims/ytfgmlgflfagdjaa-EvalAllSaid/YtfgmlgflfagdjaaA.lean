/- Contracts of the small functions of the value seat: within, isNaN, cmp.Compare, strings.Compare, cmp.Or, value.Compare, Few, Good. -/
import Derived.Test.YtfgmlgflfagdjaaLib
namespace Go.Proofs.Ytfgmlgflfagdjaa.val
open Go.ChangeShapes Go.WideShapes Go.ChangeAt Go.RowKit Go.Proofs.Ytfgmlgflfagdjaa.lib
set_option linter.unusedVariables false

theorem isnan (a : Int) (w : World) : Calls Try.prog 84 #[.int .i64 a] w fun e w' => e = .returned (.bool false) ∧ w = w' := by
  go_enter Try.func84, Try.ntmps84
  go_wp2
  go_ret
  exact ⟨by simp, rfl⟩

def ord (a b : Int) : Int := if a < b then -1 else if b < a then 1 else 0

theorem cmpInt (a b : Int) (w : World) : Calls Try.prog 77 #[.int .i64 a, .int .i64 b] w fun e w' => e = .returned (.int .i64 (ord a b)) ∧ w = w' := by
  unfold ord
  go_enter Try.func77, Try.ntmps77
  go_wp2_with (go_at_call 84; refine (isnan _ _).mono ?_; rintro e w' ⟨rfl, rfl⟩)
  all_goals go_ret
  all_goals exact ⟨by simp [*], rfl⟩

theorem tmod_pos (a n : Int) (hn : 1 ≤ n) (h : a.tmod n < 0) : a.tmod n + n = a % n := by
  rw [Int.tmod_eq_emod] at h ⊢
  split <;> rename_i hc
  · simp [hc] at h; have := Int.emod_nonneg a (by omega : n ≠ 0); omega
  · have : (n.natAbs : Int) = n := by omega
    omega
theorem tmod_nn (a n : Int) (hn : 1 ≤ n) (h : 0 ≤ a.tmod n) : a.tmod n = a % n := by
  rw [Int.tmod_eq_emod] at h ⊢
  split <;> rename_i hc
  · simp
  · have : (n.natAbs : Int) = n := by omega
    simp [hc] at h
    have := Int.emod_lt_of_pos a (by omega : 0 < n)
    omega

theorem within (a n : Int) (w : World) (hn : 1 ≤ n) (hn2 : n ≤ 1000) (ha : -9223372036854775808 ≤ a) (hb : a ≤ 9223372036854775807) :
    Calls Try.prog 35 #[.int .i64 a, .int .i64 n] w fun e w' => e = .returned (.int .i64 (a % n)) ∧ w = w' := by
  have h0 : (n == 0) = false := by simp; omega
  have h1 := Int.emod_nonneg a (by omega : n ≠ 0)
  have h2 := Int.emod_lt_of_pos a (by omega : 0 < n)
  go_enter Try.func35, Try.ntmps35
  go_wp2
  · have h := tmod_pos a n hn (by assumption)
    go_ret
    exact ⟨ret_int (by simp [h]; exact IntWalk.wrap64_in _ ⟨by omega, by omega⟩), rfl⟩
  · have h := tmod_nn a n hn (by assumption)
    go_ret
    exact ⟨ret_int (by simp [h]), rfl⟩

theorem cmpStr0 (a b : ByteArray) (w : World) : Calls Try.prog 85 #[.string a, .string b] w fun e w' => e = .returned (.int .i64 (Lib.compareBytes a.data.toList b.data.toList)) ∧ w = w' := by
  go_enter Try.func85, Try.ntmps85
  go_wp2_with fail
  rw [run_callFunc_extern Try.func89 (by kernel_rfl) (by kernel_rfl) (by kernel_rfl) (e := Extern.BytealgCompare.compare) (by kernel_rfl), Lib.run_compareString]
  simp only [Result.andThen]
  rw [Oper.upon_value]
  go_wp2
  go_ret
  exact ⟨rfl, rfl⟩
theorem cmpStr (a b : ByteArray) (w : World) : Calls Try.prog 78 #[.string a, .string b] w fun e w' => e = .returned (.int .i64 (Lib.compareBytes a.data.toList b.data.toList)) ∧ w = w' := by
  go_enter Try.func78, Try.ntmps78
  go_wp2_with (go_at_call 85; refine (cmpStr0 _ _ _).mono ?_; rintro e w' ⟨rfl, rfl⟩)
  go_ret
  exact ⟨rfl, rfl⟩


/-- the first of three numbers that is not nought -/
def or3 (a b c : Int) : Int := if a = 0 then (if b = 0 then c else b) else a

theorem cmpOr (g : Nat) (a b c : Int) (w : World) (h : w.heap[g]? = some (.cells #[.int .i64 a, .int .i64 b, .int .i64 c] 3 (0, 0))) :
    Calls Try.prog 76 #[.slice (some ⟨g, 0, none⟩) 3 3] w fun e w' => e = .returned (.int .i64 (or3 a b c)) ∧ w = w' := by
  have c0 : w.cell? ⟨g, 0, none⟩ = some (.int .i64 a) := by simpa using cell_of_row w g 0 _ _ _ h
  have c1 : w.cell? ⟨g, 1, none⟩ = some (.int .i64 b) := by simpa using cell_of_row w g 1 _ _ _ h
  have c2 : w.cell? ⟨g, 2, none⟩ = some (.int .i64 c) := by simpa using cell_of_row w g 2 _ _ _ h
  clear h
  go_enter Try.func76, Try.ntmps76
  go_wp2
  refine wp_loop_rounds 4 ?_
  rw [rounds_succ]
  go_wp2
  iterate 3 (all_goals (try (rw [rounds_succ]; go_wp2)))
  all_goals go_ret
  all_goals exact ⟨ret_int (by simp_all [or3]), rfl⟩

set_option maxHeartbeats 400000 in
theorem compare (k n : Int) (s : ByteArray) (k' n' : Int) (s' : ByteArray) (w : World) :
    Calls Try.prog 72 #[.agg #[.int .i64 k, .int .i64 n, .string s], .agg #[.int .i64 k', .int .i64 n', .string s']] w fun e w' => e = .returned (.int .i64 (or3 (ord k k') (ord n n') (Lib.compareBytes s.data.toList s'.data.toList))) ∧ Below w.heap.size w w' := by
  go_enter Try.func72, Try.ntmps72
  go_wp2_with fail
  obtain ⟨W, hW, hB, hs, c0, c1, c2, d0, d1, d2⟩ : ∃ W, W = (w.alloc (.cells #[.int .i64 k, .int .i64 n, .string s] 30)).alloc (.cells #[.int .i64 k', .int .i64 n', .string s'] 30) ∧
      Below w.heap.size w W ∧ w.heap.size + 1 < W.heap.size ∧ W.cell? ⟨w.heap.size, 0, none⟩ = some (.int .i64 k) ∧ W.cell? ⟨w.heap.size, 1, none⟩ = some (.int .i64 n) ∧ W.cell? ⟨w.heap.size, 2, none⟩ = some (.string s) ∧
      W.cell? ⟨w.heap.size + 1, 0, none⟩ = some (.int .i64 k') ∧ W.cell? ⟨w.heap.size + 1, 1, none⟩ = some (.int .i64 n') ∧ W.cell? ⟨w.heap.size + 1, 2, none⟩ = some (.string s') :=
    ⟨_, rfl, ((Below.refl _ _).alloc (Nat.le_refl _) _).alloc (by simp) _, by simp, by simp [go_sem], by simp [go_sem], by simp [go_sem], by simp [go_sem], by simp [go_sem], by simp [go_sem]⟩
  rw [← hW]
  clear hW
  go_region_held3 (fun w' => w'.cell? ⟨w.heap.size, 0, none⟩ = some (.int .i64 k) ∧ w'.cell? ⟨w.heap.size, 1, none⟩ = some (.int .i64 n) ∧ w'.cell? ⟨w.heap.size, 2, none⟩ = some (.string s) ∧
      w'.cell? ⟨w.heap.size + 1, 0, none⟩ = some (.int .i64 k') ∧ w'.cell? ⟨w.heap.size + 1, 1, none⟩ = some (.int .i64 n') ∧ w'.cell? ⟨w.heap.size + 1, 2, none⟩ = some (.string s')) (go_keep)
    ((first
      | (go_at_call 77; refine (cmpInt _ _ _).mono ?_; rintro e w' ⟨rfl, rfl⟩)
      | (go_at_call 78; refine (cmpStr _ _ _).mono ?_; rintro e w' ⟨rfl, rfl⟩)
      | (go_at_call 76; refine (cmpOr _ _ _ _ _ (by exact heap_alloc_new W _)).mono ?_; rintro e w' ⟨rfl, rfl⟩)))
  go_wp2
  go_ret
  exact ⟨rfl, (hB.alloc (by omega) _).drew⟩

theorem few (k n : Int) (s : ByteArray) (w : World) (hs : s.size ≤ maxLen) :
    Calls Try.prog 14 #[.agg #[.int .i64 k, .int .i64 n, .string s]] w fun e w' => e = .returned (.bool (decide (s.size ≤ 80))) ∧ Below w.heap.size w w' := by
  unfold maxLen at hs
  go_enter Try.func14, Try.ntmps14
  go_wp2
  go_ret
  exact ⟨ret_bool (by simp; omega), (Below.refl _ _).alloc (Nat.le_refl _) _⟩

/-- what Good makes of a value -/
def gK (k : Int) : Int := k % 4
def gN (k n : Int) : Int := if k % 4 = 1 then n % 2 else if k % 4 = 2 then n else 0
def gS (k : Int) (s : ByteArray) : ByteArray := if k % 4 = 3 then s.extract 0 (min s.size 60) else ByteArray.empty

theorem good (k n : Int) (s : ByteArray) (w : World) (hs : s.size ≤ maxLen) (hk : -9223372036854775808 ≤ k) (hk' : k ≤ 9223372036854775807) (hn : -9223372036854775808 ≤ n) (hn' : n ≤ 9223372036854775807) :
    Calls Try.prog 18 #[.agg #[.int .i64 k, .int .i64 n, .string s]] w fun e w' => e = .returned (.agg #[.int .i64 (gK k), .int .i64 (gN k n), .string (gS k s)]) ∧ Below w.heap.size w w' := by
  unfold maxLen at hs
  go_enter Try.func18, Try.ntmps18
  go_wp2_with (go_at_call 35; refine (within _ _ _ (by omega) (by omega) (by omega) (by omega)).mono ?_; rintro e w' ⟨rfl, rfl⟩)
  · have h1 : k % 4 = 1 := by simpa using ‹(k % 4 == 1) = true›
    exact bodyPost_ret (v := .agg #[.int .i64 (k % 4), .int .i64 (n % 2), .string ByteArray.empty]) (by simp [results, Try.results18, go_sem]; rfl) rfl
      ⟨by rw [gK, gN, gS, if_pos h1, if_neg (by omega)], ((Below.refl _ _).alloc (Nat.le_refl _) _).alloc (by simp) _⟩
  · have h2 : k % 4 = 2 := by simpa using ‹(k % 4 == 2) = true›
    exact bodyPost_ret (v := .agg #[.int .i64 (k % 4), .int .i64 n, .string ByteArray.empty]) (by simp [results, Try.results18, go_sem]; rfl) rfl
      ⟨by rw [gK, gN, gS, if_neg (by omega), if_pos h2, if_neg (by omega)], ((Below.refl _ _).alloc (Nat.le_refl _) _).alloc (by simp) _⟩
  · have h3 : k % 4 = 3 := by simpa using ‹(k % 4 == 3) = true›
    exact bodyPost_ret (v := .agg #[.int .i64 (k % 4), .int .i64 0, .string (s.extract 0 60)]) (by simp [results, Try.results18, go_sem]) rfl
      ⟨by rw [gK, gN, gS, if_neg (by omega), if_neg (by omega), if_pos h3, show min s.size 60 = 60 by omega], ((Below.refl _ _).alloc (Nat.le_refl _) _).alloc (by simp) _⟩
  · have h3 : k % 4 = 3 := by simpa using ‹(k % 4 == 3) = true›
    exact bodyPost_ret (v := .agg #[.int .i64 (k % 4), .int .i64 0, .string (s.extract 0 s.size)]) (by simp [results, Try.results18, go_sem]) rfl
      ⟨by rw [gK, gN, gS, if_neg (by omega), if_neg (by omega), if_pos h3, show min s.size 60 = s.size by omega], ((Below.refl _ _).alloc (Nat.le_refl _) _).alloc (by simp) _⟩
  · have h1 : ¬ k % 4 = 1 := by simpa using ‹(k % 4 == 1) = false›
    have h2 : ¬ k % 4 = 2 := by simpa using ‹(k % 4 == 2) = false›
    have h3 : ¬ k % 4 = 3 := by simpa using ‹(k % 4 == 3) = false›
    have h0 : k % 4 = 0 := by omega
    exact bodyPost_ret (v := .agg #[.int .i64 0, .int .i64 0, .string ByteArray.empty]) (by simp [results, Try.results18, go_sem]; rfl) rfl
      ⟨by rw [gK, gN, gS, h0, if_neg (by omega), if_neg (by omega), if_neg (by omega)], ((Below.refl _ _).alloc (Nat.le_refl _) _).alloc (by simp) _⟩

end Go.Proofs.Ytfgmlgflfagdjaa.val
