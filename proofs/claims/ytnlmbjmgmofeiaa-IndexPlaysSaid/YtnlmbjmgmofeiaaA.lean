/- Contracts of the small functions of the value seat: within, isNaN, cmp.Compare, strings.Compare, cmp.Or, value.Compare, Few, Good. -/
import Derived.Test.YtnlmbjmgmofeiaaLib
namespace Go.Proofs.Ytnlmbjmgmofeiaa.val
open Go.ChangeShapes Go.WideShapes Go.ChangeAt Go.RowKit Go.Proofs.Ytnlmbjmgmofeiaa.lib
set_option linter.unusedVariables false

theorem isnan (a : Int) (w : World) : Calls Try.prog 61 #[.int .i64 a] w fun e w' => e = .returned (.bool false) ∧ w = w' := by
  go_enter Try.func61, Try.ntmps61
  go_wp2
  go_ret
  exact ⟨by simp, rfl⟩

def ord (a b : Int) : Int := if a < b then -1 else if b < a then 1 else 0

theorem cmpInt (a b : Int) (w : World) : Calls Try.prog 52 #[.int .i64 a, .int .i64 b] w fun e w' => e = .returned (.int .i64 (ord a b)) ∧ w = w' := by
  unfold ord
  go_enter Try.func52, Try.ntmps52
  go_wp2_with (go_at_call 61; refine (isnan _ _).mono ?_; rintro e w' ⟨rfl, rfl⟩)
  all_goals go_ret
  all_goals exact ⟨by simp [*], rfl⟩

theorem tmod_pos (a n : Int) (hn : 1 ≤ n) (h : a.tmod n < 0) : a.tmod n + n = a % n := by
  rw [Int.tmod_eq_emod] at h ⊢
  split <;> rename_i hc
  · simp [hc] at h; have := Int.emod_nonneg a (by omega : n ≠ 0); omega
  · have : (n.natAbs : Int) = n := by omega
    omega
theorem tmod_nn (a n : Int) (hn : 1 ≤ n) (h : 0 ≤ a.tmod n) : a.tmod n = a % n := by
  rw [Int.tmod_eq_emod] at h ⊢
  split <;> rename_i hc
  · simp
  · have : (n.natAbs : Int) = n := by omega
    simp [hc] at h
    have := Int.emod_lt_of_pos a (by omega : 0 < n)
    omega

theorem cmpStr0 (a b : ByteArray) (w : World) : Calls Try.prog 62 #[.string a, .string b] w fun e w' => e = .returned (.int .i64 (Lib.compareBytes a.data.toList b.data.toList)) ∧ w = w' := by
  go_enter Try.func62, Try.ntmps62
  go_wp2_with fail
  rw [run_callFunc_extern Try.func65 (by kernel_rfl) (by kernel_rfl) (by kernel_rfl) (e := Extern.BytealgCompare.compare) (by kernel_rfl), Lib.run_compareString]
  simp only [Result.andThen]
  rw [Oper.upon_value]
  go_wp2
  go_ret
  exact ⟨rfl, rfl⟩
theorem cmpStr (a b : ByteArray) (w : World) : Calls Try.prog 53 #[.string a, .string b] w fun e w' => e = .returned (.int .i64 (Lib.compareBytes a.data.toList b.data.toList)) ∧ w = w' := by
  go_enter Try.func53, Try.ntmps53
  go_wp2_with (go_at_call 62; refine (cmpStr0 _ _ _).mono ?_; rintro e w' ⟨rfl, rfl⟩)
  go_ret
  exact ⟨rfl, rfl⟩


/-- the first of three numbers that is not nought -/
def or3 (a b c : Int) : Int := if a = 0 then (if b = 0 then c else b) else a

theorem cmpOr (g : Nat) (a b c : Int) (w : World) (h : w.heap[g]? = some (.cells #[.int .i64 a, .int .i64 b, .int .i64 c] 3 (0, 0))) :
    Calls Try.prog 51 #[.slice (some ⟨g, 0, none⟩) 3 3] w fun e w' => e = .returned (.int .i64 (or3 a b c)) ∧ w = w' := by
  have c0 : w.cell? ⟨g, 0, none⟩ = some (.int .i64 a) := by simpa using cell_of_row w g 0 _ _ _ h
  have c1 : w.cell? ⟨g, 1, none⟩ = some (.int .i64 b) := by simpa using cell_of_row w g 1 _ _ _ h
  have c2 : w.cell? ⟨g, 2, none⟩ = some (.int .i64 c) := by simpa using cell_of_row w g 2 _ _ _ h
  clear h
  go_enter Try.func51, Try.ntmps51
  go_wp2
  refine wp_loop_rounds 4 ?_
  rw [rounds_succ]
  go_wp2
  iterate 3 (all_goals (try (rw [rounds_succ]; go_wp2)))
  all_goals go_ret
  all_goals exact ⟨ret_int (by simp_all [or3]), rfl⟩

set_option maxHeartbeats 400000 in
theorem compare (k n : Int) (s : ByteArray) (k' n' : Int) (s' : ByteArray) (w : World) :
    Calls Try.prog 37 #[.agg #[.int .i64 k, .int .i64 n, .string s], .agg #[.int .i64 k', .int .i64 n', .string s']] w fun e w' => e = .returned (.int .i64 (or3 (ord k k') (ord n n') (Lib.compareBytes s.data.toList s'.data.toList))) ∧ Below w.heap.size w w' := by
  go_enter Try.func37, Try.ntmps37
  go_wp2_with fail
  obtain ⟨W, hW, hB, hs, c0, c1, c2, d0, d1, d2⟩ : ∃ W, W = (w.alloc (.cells #[.int .i64 k, .int .i64 n, .string s] 41)).alloc (.cells #[.int .i64 k', .int .i64 n', .string s'] 41) ∧
      Below w.heap.size w W ∧ w.heap.size + 1 < W.heap.size ∧ W.cell? ⟨w.heap.size, 0, none⟩ = some (.int .i64 k) ∧ W.cell? ⟨w.heap.size, 1, none⟩ = some (.int .i64 n) ∧ W.cell? ⟨w.heap.size, 2, none⟩ = some (.string s) ∧
      W.cell? ⟨w.heap.size + 1, 0, none⟩ = some (.int .i64 k') ∧ W.cell? ⟨w.heap.size + 1, 1, none⟩ = some (.int .i64 n') ∧ W.cell? ⟨w.heap.size + 1, 2, none⟩ = some (.string s') :=
    ⟨_, rfl, ((Below.refl _ _).alloc (Nat.le_refl _) _).alloc (by simp) _, by simp, by simp [go_sem], by simp [go_sem], by simp [go_sem], by simp [go_sem], by simp [go_sem], by simp [go_sem]⟩
  rw [← hW]
  clear hW
  go_region_held3 (fun w' => w'.cell? ⟨w.heap.size, 0, none⟩ = some (.int .i64 k) ∧ w'.cell? ⟨w.heap.size, 1, none⟩ = some (.int .i64 n) ∧ w'.cell? ⟨w.heap.size, 2, none⟩ = some (.string s) ∧
      w'.cell? ⟨w.heap.size + 1, 0, none⟩ = some (.int .i64 k') ∧ w'.cell? ⟨w.heap.size + 1, 1, none⟩ = some (.int .i64 n') ∧ w'.cell? ⟨w.heap.size + 1, 2, none⟩ = some (.string s')) (go_keep)
    ((first
      | (go_at_call 52; refine (cmpInt _ _ _).mono ?_; rintro e w' ⟨rfl, rfl⟩)
      | (go_at_call 53; refine (cmpStr _ _ _).mono ?_; rintro e w' ⟨rfl, rfl⟩)
      | (go_at_call 51; refine (cmpOr _ _ _ _ _ (by exact heap_alloc_new W _)).mono ?_; rintro e w' ⟨rfl, rfl⟩)))
  go_wp2
  go_ret
  exact ⟨rfl, (hB.alloc (by omega) _).drew⟩

/-- what Good makes of a value -/
def gK (k : Int) : Int := k % 4
def gN (k n : Int) : Int := if k % 4 = 1 then n % 2 else if k % 4 = 2 then n else 0
def gS (k : Int) (s : ByteArray) : ByteArray := if k % 4 = 3 then s.extract 0 (min s.size 60) else ByteArray.empty

end Go.Proofs.Ytnlmbjmgmofeiaa.val
