/- Contracts: logic, pair. (Printed by gen2.py.) -/
import Derived.Test.YtfgmlgflfagdjaaE1
namespace Go.Proofs.Ytfgmlgflfagdjaa.ev
open Go.ChangeShapes Go.WideShapes Go.ChangeAt Go.RowKit Go.Proofs.Ytfgmlgflfagdjaa.lib Go.Proofs.Ytfgmlgflfagdjaa.val
set_option linter.unusedVariables false

def vEqV (a b : V) : Bool := vEq a.k a.n a.s b.k b.n b.s
def logicV (d : Bool) (a b : V) : V := if vEqV a (tru d) = true then a else if vEqV b (tru d) = true then b else if a.k = 0 ∨ b.k = 0 then nul else tru (!d)

theorem eqlVV (a b : V) (c : Bool) (hc : vEqV a b = c) (w : World) : (binOp .eql 30 (.agg #[.int .i64 a.k, .int .i64 a.n, .string a.s]) (.agg #[.int .i64 b.k, .int .i64 b.n, .string b.s])).run Try.prog w = .ok (.bool c) w := by
  subst hc
  exact eqlV _ _ _ _ _ _ w
theorem truthV (b : Bool) (w : World) : Calls Try.prog 69 #[.bool b] w fun e w' => e = .returned (.agg #[.int .i64 (tru b).k, .int .i64 (tru b).n, .string (tru b).s]) ∧ Below w.heap.size w w' := truth b w
theorem nullV (v : V) (c : Bool) (hc : (v.k == 0) = c) (w : World) : Calls Try.prog 70 #[.agg #[.int .i64 v.k, .int .i64 v.n, .string v.s]] w fun e w' => e = .returned (.bool c) ∧ Below w.heap.size w w' := by
  subst hc
  exact null _ _ _ w
/-- a chain of later worlds -/
theorem bch {N : Nat} {a b c : World} (h : Below N a b) (hN : N ≤ b.heap.size) (k : Below b.heap.size b c) : Below N a c := Below.trans h (k.mono hN)
theorem bch0 {a b c : World} (h : Below a.heap.size a b) (k : Below b.heap.size b c) : Below a.heap.size a c := bch h h.size k
set_option maxHeartbeats 2000000 in
theorem logic6a (a b : V) (w : World) (h : vEqV a (tru true) = true) :
    Calls Try.prog 71 #[.int .i64 6, .agg #[.int .i64 a.k, .int .i64 a.n, .string a.s], .agg #[.int .i64 b.k, .int .i64 b.n, .string b.s]] w fun e w' => e = .returned (vv a) ∧ Below w.heap.size w w' := by
  have heq := fun W => eqlVV a (tru true) true h W
  clear h
  go_enter Try.func71, Try.ntmps71
  go_wp2_with fail
  refine wp_loop_rounds 3 ?_
  rw [rounds_succ]
  go_wp2_with fail
  obtain ⟨W, hW_, hbW, B1, B2, B3, B4, B5⟩ : ∃ W_, W_ = (((((w.alloc (.cells #[.int .i64 a.k, .int .i64 a.n, .string a.s] 30)).alloc (.cells #[.int .i64 b.k, .int .i64 b.n, .string b.s] 30)).alloc (.cells #[.int .i64 0, .int .i64 0, .string ⟨#[]⟩] 30)).alloc (.cells #[.int .i64 a.k, .int .i64 a.n, .string a.s, .int .i64 b.k, .int .i64 b.n, .string b.s] 30)).alloc (.cells #[.int .i64 a.k, .int .i64 a.n, .string a.s] 30)) ∧ Below w.heap.size w W_ ∧ Blk W_ (w.heap.size) 30 #[.int .i64 a.k, .int .i64 a.n, .string a.s] ∧ Blk W_ (w.heap.size + 1) 30 #[.int .i64 b.k, .int .i64 b.n, .string b.s] ∧ Blk W_ (w.heap.size + 1 + 1) 30 #[.int .i64 0, .int .i64 0, .string ⟨#[]⟩] ∧ Blk W_ (w.heap.size + 1 + 1 + 1) 30 #[.int .i64 a.k, .int .i64 a.n, .string a.s, .int .i64 b.k, .int .i64 b.n, .string b.s] ∧ Blk W_ (w.heap.size + 1 + 1 + 1 + 1) 30 #[.int .i64 a.k, .int .i64 a.n, .string a.s] :=
    ⟨_, rfl, ((((((Below.refl _ _).alloc (Nat.le_refl _) _).alloc (by simp; try omega) _).alloc (by simp; try omega) _).alloc (by simp; try omega) _).alloc (by simp; try omega) _), (((((blk_new_at w (w.heap.size) _ _ (by simp)).alloc _).alloc _).alloc _).alloc _), ((((blk_new_at (w.alloc (.cells #[.int .i64 a.k, .int .i64 a.n, .string a.s] 30)) (w.heap.size + 1) _ _ (by simp)).alloc _).alloc _).alloc _), (((blk_new_at ((w.alloc (.cells #[.int .i64 a.k, .int .i64 a.n, .string a.s] 30)).alloc (.cells #[.int .i64 b.k, .int .i64 b.n, .string b.s] 30)) (w.heap.size + 1 + 1) _ _ (by simp)).alloc _).alloc _), ((blk_new_at (((w.alloc (.cells #[.int .i64 a.k, .int .i64 a.n, .string a.s] 30)).alloc (.cells #[.int .i64 b.k, .int .i64 b.n, .string b.s] 30)).alloc (.cells #[.int .i64 0, .int .i64 0, .string ⟨#[]⟩] 30)) (w.heap.size + 1 + 1 + 1) _ _ (by simp)).alloc _), (blk_new_at ((((w.alloc (.cells #[.int .i64 a.k, .int .i64 a.n, .string a.s] 30)).alloc (.cells #[.int .i64 b.k, .int .i64 b.n, .string b.s] 30)).alloc (.cells #[.int .i64 0, .int .i64 0, .string ⟨#[]⟩] 30)).alloc (.cells #[.int .i64 a.k, .int .i64 a.n, .string a.s, .int .i64 b.k, .int .i64 b.n, .string b.s] 30)) (w.heap.size + 1 + 1 + 1 + 1) _ _ (by simp))⟩
  rw [← hW_]
  clear hW_
  have D := fun w' (h : Below W.heap.size W.drew w') => B5.three (Below.trans (Below.refl _ _).drew h)
  refine wp_region_one [(0, true), (1, true), (2, false), (3, true)] (by kernel_rfl) (by kernel_rfl) (by kernel_rfl) (by decide) ?_
  repeat ((with_reducible show wpPerm _ _ _ _ ((_, true) :: _) _ _); (first | (refine wpPerm_on (v := ?_) rfl rfl (wanted_free rfl) (fun w' hS => ?_) ?_; rotate_left; (focus (go_simp; (try with_reducible rfl); done)); try simp only [List.setIfInBounds_toArray, List.set_cons_zero, List.set_cons_succ]) | (refine wpPerm_on (v := ?_) rfl rfl (wanted_yes rfl rfl rfl) (fun w' hS => ?_) ?_; rotate_left; (focus (go_simp; (try with_reducible rfl); done)); try simp only [List.setIfInBounds_toArray, List.set_cons_zero, List.set_cons_succ]) | (refine wpPerm_off rfl rfl (wanted_no rfl rfl rfl) ?_; try simp only [List.setIfInBounds_toArray, List.set_cons_zero, List.set_cons_succ]) | (refine wpPerm_off rfl rfl (wanted_undef rfl rfl rfl) ?_; try simp only [List.setIfInBounds_toArray, List.set_cons_zero, List.set_cons_succ])))
  refine wpPerm_do rfl (wanted_free rfl) (fun K hK => ?_); go_simp
  refine (truthV _ _).mono ?_
  rintro e w3 ⟨rfl, hb_⟩
  refine hK.out _ _ (Below.trans (Below.refl _ _) hb_) ?_
  clear hK K D
  repeat ((with_reducible show wpPerm _ _ _ _ ((_, true) :: _) _ _); (first | (refine wpPerm_on (v := ?_) rfl rfl (wanted_free rfl) (fun w' hS => ?_) ?_; rotate_left; (focus (go_simp; (try with_reducible rfl); done)); try simp only [List.setIfInBounds_toArray, List.set_cons_zero, List.set_cons_succ]) | (refine wpPerm_on (v := ?_) rfl rfl (wanted_yes rfl rfl rfl) (fun w' hS => ?_) ?_; rotate_left; (focus (go_simp; (try with_reducible rfl); done)); try simp only [List.setIfInBounds_toArray, List.set_cons_zero, List.set_cons_succ]) | (refine wpPerm_off rfl rfl (wanted_no rfl rfl rfl) ?_; try simp only [List.setIfInBounds_toArray, List.set_cons_zero, List.set_cons_succ]) | (refine wpPerm_off rfl rfl (wanted_undef rfl rfl rfl) ?_; try simp only [List.setIfInBounds_toArray, List.set_cons_zero, List.set_cons_succ])))
  refine wpPerm_done ?_
  have hb4 : Below W.heap.size W w3 := Below.trans (Below.refl _ _).drew hb_
  clear hb_
  clear heq
  have q5 := B5.three hb4
  have q_ := (B3.ext hb4).three (Below.refl _ _)
  have f_ := (B3.ext hb4).free3
  go_wp2
  clear q_ f_
  obtain ⟨wE, hwE, BE, hbE, _, _⟩ := (B3.ext hb4).set3 (.int .i64 a.k) (.int .i64 a.n) (.string a.s)
  rw [← hwE]
  have q_ := BE.three (Below.refl _ _)
  exact bodyPost_ret (v := .agg #[.int .i64 a.k, .int .i64 a.n, .string a.s]) (by simp [results, Try.results71, go_sem, q_]) rfl ⟨rfl, Below.trans (bch0 hbW hb4) (hbE _ (by omega))⟩
set_option maxHeartbeats 2000000 in
theorem logic6b (a b : V) (w : World) (h : vEqV a (tru true) = false) (h2 : vEqV b (tru true) = true) :
    Calls Try.prog 71 #[.int .i64 6, .agg #[.int .i64 a.k, .int .i64 a.n, .string a.s], .agg #[.int .i64 b.k, .int .i64 b.n, .string b.s]] w fun e w' => e = .returned (vv b) ∧ Below w.heap.size w w' := by
  have heq := fun W => eqlVV a (tru true) false h W
  have heq2 := fun W => eqlVV b (tru true) true h2 W
  clear h h2
  go_enter Try.func71, Try.ntmps71
  go_wp2_with fail
  refine wp_loop_rounds 3 ?_
  rw [rounds_succ]
  go_wp2_with fail
  obtain ⟨W, hW_, hbW, B1, B2, B3, B4, B5⟩ : ∃ W_, W_ = (((((w.alloc (.cells #[.int .i64 a.k, .int .i64 a.n, .string a.s] 30)).alloc (.cells #[.int .i64 b.k, .int .i64 b.n, .string b.s] 30)).alloc (.cells #[.int .i64 0, .int .i64 0, .string ⟨#[]⟩] 30)).alloc (.cells #[.int .i64 a.k, .int .i64 a.n, .string a.s, .int .i64 b.k, .int .i64 b.n, .string b.s] 30)).alloc (.cells #[.int .i64 a.k, .int .i64 a.n, .string a.s] 30)) ∧ Below w.heap.size w W_ ∧ Blk W_ (w.heap.size) 30 #[.int .i64 a.k, .int .i64 a.n, .string a.s] ∧ Blk W_ (w.heap.size + 1) 30 #[.int .i64 b.k, .int .i64 b.n, .string b.s] ∧ Blk W_ (w.heap.size + 1 + 1) 30 #[.int .i64 0, .int .i64 0, .string ⟨#[]⟩] ∧ Blk W_ (w.heap.size + 1 + 1 + 1) 30 #[.int .i64 a.k, .int .i64 a.n, .string a.s, .int .i64 b.k, .int .i64 b.n, .string b.s] ∧ Blk W_ (w.heap.size + 1 + 1 + 1 + 1) 30 #[.int .i64 a.k, .int .i64 a.n, .string a.s] :=
    ⟨_, rfl, ((((((Below.refl _ _).alloc (Nat.le_refl _) _).alloc (by simp; try omega) _).alloc (by simp; try omega) _).alloc (by simp; try omega) _).alloc (by simp; try omega) _), (((((blk_new_at w (w.heap.size) _ _ (by simp)).alloc _).alloc _).alloc _).alloc _), ((((blk_new_at (w.alloc (.cells #[.int .i64 a.k, .int .i64 a.n, .string a.s] 30)) (w.heap.size + 1) _ _ (by simp)).alloc _).alloc _).alloc _), (((blk_new_at ((w.alloc (.cells #[.int .i64 a.k, .int .i64 a.n, .string a.s] 30)).alloc (.cells #[.int .i64 b.k, .int .i64 b.n, .string b.s] 30)) (w.heap.size + 1 + 1) _ _ (by simp)).alloc _).alloc _), ((blk_new_at (((w.alloc (.cells #[.int .i64 a.k, .int .i64 a.n, .string a.s] 30)).alloc (.cells #[.int .i64 b.k, .int .i64 b.n, .string b.s] 30)).alloc (.cells #[.int .i64 0, .int .i64 0, .string ⟨#[]⟩] 30)) (w.heap.size + 1 + 1 + 1) _ _ (by simp)).alloc _), (blk_new_at ((((w.alloc (.cells #[.int .i64 a.k, .int .i64 a.n, .string a.s] 30)).alloc (.cells #[.int .i64 b.k, .int .i64 b.n, .string b.s] 30)).alloc (.cells #[.int .i64 0, .int .i64 0, .string ⟨#[]⟩] 30)).alloc (.cells #[.int .i64 a.k, .int .i64 a.n, .string a.s, .int .i64 b.k, .int .i64 b.n, .string b.s] 30)) (w.heap.size + 1 + 1 + 1 + 1) _ _ (by simp))⟩
  rw [← hW_]
  clear hW_
  have D := fun w' (h : Below W.heap.size W.drew w') => B5.three (Below.trans (Below.refl _ _).drew h)
  refine wp_region_one [(0, true), (1, true), (2, false), (3, true)] (by kernel_rfl) (by kernel_rfl) (by kernel_rfl) (by decide) ?_
  repeat ((with_reducible show wpPerm _ _ _ _ ((_, true) :: _) _ _); (first | (refine wpPerm_on (v := ?_) rfl rfl (wanted_free rfl) (fun w' hS => ?_) ?_; rotate_left; (focus (go_simp; (try with_reducible rfl); done)); try simp only [List.setIfInBounds_toArray, List.set_cons_zero, List.set_cons_succ]) | (refine wpPerm_on (v := ?_) rfl rfl (wanted_yes rfl rfl rfl) (fun w' hS => ?_) ?_; rotate_left; (focus (go_simp; (try with_reducible rfl); done)); try simp only [List.setIfInBounds_toArray, List.set_cons_zero, List.set_cons_succ]) | (refine wpPerm_off rfl rfl (wanted_no rfl rfl rfl) ?_; try simp only [List.setIfInBounds_toArray, List.set_cons_zero, List.set_cons_succ]) | (refine wpPerm_off rfl rfl (wanted_undef rfl rfl rfl) ?_; try simp only [List.setIfInBounds_toArray, List.set_cons_zero, List.set_cons_succ])))
  refine wpPerm_do rfl (wanted_free rfl) (fun K hK => ?_); go_simp
  refine (truthV _ _).mono ?_
  rintro e w3 ⟨rfl, hb_⟩
  refine hK.out _ _ (Below.trans (Below.refl _ _) hb_) ?_
  clear hK K D
  repeat ((with_reducible show wpPerm _ _ _ _ ((_, true) :: _) _ _); (first | (refine wpPerm_on (v := ?_) rfl rfl (wanted_free rfl) (fun w' hS => ?_) ?_; rotate_left; (focus (go_simp; (try with_reducible rfl); done)); try simp only [List.setIfInBounds_toArray, List.set_cons_zero, List.set_cons_succ]) | (refine wpPerm_on (v := ?_) rfl rfl (wanted_yes rfl rfl rfl) (fun w' hS => ?_) ?_; rotate_left; (focus (go_simp; (try with_reducible rfl); done)); try simp only [List.setIfInBounds_toArray, List.set_cons_zero, List.set_cons_succ]) | (refine wpPerm_off rfl rfl (wanted_no rfl rfl rfl) ?_; try simp only [List.setIfInBounds_toArray, List.set_cons_zero, List.set_cons_succ]) | (refine wpPerm_off rfl rfl (wanted_undef rfl rfl rfl) ?_; try simp only [List.setIfInBounds_toArray, List.set_cons_zero, List.set_cons_succ])))
  refine wpPerm_done ?_
  have hb4 : Below W.heap.size W w3 := Below.trans (Below.refl _ _).drew hb_
  clear hb_
  have q4 : w3.cell? ⟨w.heap.size + 1 + 1 + 1, 3, none⟩ = some (.int .i64 b.k) ∧ w3.cell? ⟨w.heap.size + 1 + 1 + 1, 4, none⟩ = some (.int .i64 b.n) ∧ w3.cell? ⟨w.heap.size + 1 + 1 + 1, 5, none⟩ = some (.string b.s) := ⟨(B4.ext hb4).cell 3, (B4.ext hb4).cell 4, (B4.ext hb4).cell 5⟩
  have hb5 := bch0 hbW hb4
  go_wp2_with fail
  rw [rounds_succ]
  go_wp2_with fail
  clear q4
  have C1 := B1.ext hb4
  have C2 := B2.ext hb4
  have C3 := B3.ext hb4
  have hN3 := hb5.size
  have hN4 : w.heap.size + 1 + 1 < w3.heap.size := C3.lt
  clear B1 B2 B3 B4 B5 hbW hb4
  obtain ⟨n3, hn3⟩ : ∃ n3, n3 = w3.heap.size := ⟨_, rfl⟩
  obtain ⟨W4, hW4, hbW4, B6⟩ : ∃ W_, W_ = w3.alloc (.cells #[.int .i64 b.k, .int .i64 b.n, .string b.s] 30) ∧ Below w3.heap.size w3 W_ ∧ Blk W_ w3.heap.size 30 #[.int .i64 b.k, .int .i64 b.n, .string b.s] := ⟨_, rfl, (Below.refl _ _).alloc (Nat.le_refl _) _, Blk.new _ _ _⟩
  rw [← hW4]
  clear hW4 hn3 n3
  have D := fun w' (h : Below W4.heap.size W4.drew w') => B6.three (Below.trans (Below.refl _ _).drew h)
  refine wp_region_one [(0, true), (1, true), (2, false), (3, true)] (by kernel_rfl) (by kernel_rfl) (by kernel_rfl) (by decide) ?_
  repeat ((with_reducible show wpPerm _ _ _ _ ((_, true) :: _) _ _); (first | (refine wpPerm_on (v := ?_) rfl rfl (wanted_free rfl) (fun w' hS => ?_) ?_; rotate_left; (focus (go_simp; (try with_reducible rfl); done)); try simp only [List.setIfInBounds_toArray, List.set_cons_zero, List.set_cons_succ]) | (refine wpPerm_on (v := ?_) rfl rfl (wanted_yes rfl rfl rfl) (fun w' hS => ?_) ?_; rotate_left; (focus (go_simp; (try with_reducible rfl); done)); try simp only [List.setIfInBounds_toArray, List.set_cons_zero, List.set_cons_succ]) | (refine wpPerm_off rfl rfl (wanted_no rfl rfl rfl) ?_; try simp only [List.setIfInBounds_toArray, List.set_cons_zero, List.set_cons_succ]) | (refine wpPerm_off rfl rfl (wanted_undef rfl rfl rfl) ?_; try simp only [List.setIfInBounds_toArray, List.set_cons_zero, List.set_cons_succ])))
  refine wpPerm_do rfl (wanted_free rfl) (fun K hK => ?_); go_simp
  refine (truthV _ _).mono ?_
  rintro e w5 ⟨rfl, hb_⟩
  refine hK.out _ _ (Below.trans (Below.refl _ _) hb_) ?_
  clear hK K D
  repeat ((with_reducible show wpPerm _ _ _ _ ((_, true) :: _) _ _); (first | (refine wpPerm_on (v := ?_) rfl rfl (wanted_free rfl) (fun w' hS => ?_) ?_; rotate_left; (focus (go_simp; (try with_reducible rfl); done)); try simp only [List.setIfInBounds_toArray, List.set_cons_zero, List.set_cons_succ]) | (refine wpPerm_on (v := ?_) rfl rfl (wanted_yes rfl rfl rfl) (fun w' hS => ?_) ?_; rotate_left; (focus (go_simp; (try with_reducible rfl); done)); try simp only [List.setIfInBounds_toArray, List.set_cons_zero, List.set_cons_succ]) | (refine wpPerm_off rfl rfl (wanted_no rfl rfl rfl) ?_; try simp only [List.setIfInBounds_toArray, List.set_cons_zero, List.set_cons_succ]) | (refine wpPerm_off rfl rfl (wanted_undef rfl rfl rfl) ?_; try simp only [List.setIfInBounds_toArray, List.set_cons_zero, List.set_cons_succ])))
  refine wpPerm_done ?_
  have hb6 : Below W4.heap.size W4 w5 := Below.trans (Below.refl _ _).drew hb_
  clear hb_
  clear heq heq2
  have q5 := B6.three hb6
  have hb7 := bch0 hbW4 hb6
  have q_ := (C3.ext hb7).three (Below.refl _ _)
  have f_ := (C3.ext hb7).free3
  go_wp2
  clear q_ f_
  obtain ⟨wE, hwE, BE, hbE, _, _⟩ := (C3.ext hb7).set3 (.int .i64 b.k) (.int .i64 b.n) (.string b.s)
  rw [← hwE]
  have q_ := BE.three (Below.refl _ _)
  exact bodyPost_ret (v := .agg #[.int .i64 b.k, .int .i64 b.n, .string b.s]) (by simp [results, Try.results71, go_sem, q_]) rfl ⟨rfl, Below.trans (bch0 hb5 hb7) (hbE _ (by omega))⟩
set_option maxHeartbeats 2000000 in
theorem logic6c (a b : V) (w : World) (h : vEqV a (tru true) = false) (h2 : vEqV b (tru true) = false) (h3 : (a.k == 0) = true) :
    Calls Try.prog 71 #[.int .i64 6, .agg #[.int .i64 a.k, .int .i64 a.n, .string a.s], .agg #[.int .i64 b.k, .int .i64 b.n, .string b.s]] w fun e w' => e = .returned (vv nul) ∧ Below w.heap.size w w' := by
  have heq := fun W => eqlVV a (tru true) false h W
  have heq2 := fun W => eqlVV b (tru true) false h2 W
  clear h h2
  go_enter Try.func71, Try.ntmps71
  go_wp2_with fail
  refine wp_loop_rounds 3 ?_
  rw [rounds_succ]
  go_wp2_with fail
  obtain ⟨W, hW_, hbW, B1, B2, B3, B4, B5⟩ : ∃ W_, W_ = (((((w.alloc (.cells #[.int .i64 a.k, .int .i64 a.n, .string a.s] 30)).alloc (.cells #[.int .i64 b.k, .int .i64 b.n, .string b.s] 30)).alloc (.cells #[.int .i64 0, .int .i64 0, .string ⟨#[]⟩] 30)).alloc (.cells #[.int .i64 a.k, .int .i64 a.n, .string a.s, .int .i64 b.k, .int .i64 b.n, .string b.s] 30)).alloc (.cells #[.int .i64 a.k, .int .i64 a.n, .string a.s] 30)) ∧ Below w.heap.size w W_ ∧ Blk W_ (w.heap.size) 30 #[.int .i64 a.k, .int .i64 a.n, .string a.s] ∧ Blk W_ (w.heap.size + 1) 30 #[.int .i64 b.k, .int .i64 b.n, .string b.s] ∧ Blk W_ (w.heap.size + 1 + 1) 30 #[.int .i64 0, .int .i64 0, .string ⟨#[]⟩] ∧ Blk W_ (w.heap.size + 1 + 1 + 1) 30 #[.int .i64 a.k, .int .i64 a.n, .string a.s, .int .i64 b.k, .int .i64 b.n, .string b.s] ∧ Blk W_ (w.heap.size + 1 + 1 + 1 + 1) 30 #[.int .i64 a.k, .int .i64 a.n, .string a.s] :=
    ⟨_, rfl, ((((((Below.refl _ _).alloc (Nat.le_refl _) _).alloc (by simp; try omega) _).alloc (by simp; try omega) _).alloc (by simp; try omega) _).alloc (by simp; try omega) _), (((((blk_new_at w (w.heap.size) _ _ (by simp)).alloc _).alloc _).alloc _).alloc _), ((((blk_new_at (w.alloc (.cells #[.int .i64 a.k, .int .i64 a.n, .string a.s] 30)) (w.heap.size + 1) _ _ (by simp)).alloc _).alloc _).alloc _), (((blk_new_at ((w.alloc (.cells #[.int .i64 a.k, .int .i64 a.n, .string a.s] 30)).alloc (.cells #[.int .i64 b.k, .int .i64 b.n, .string b.s] 30)) (w.heap.size + 1 + 1) _ _ (by simp)).alloc _).alloc _), ((blk_new_at (((w.alloc (.cells #[.int .i64 a.k, .int .i64 a.n, .string a.s] 30)).alloc (.cells #[.int .i64 b.k, .int .i64 b.n, .string b.s] 30)).alloc (.cells #[.int .i64 0, .int .i64 0, .string ⟨#[]⟩] 30)) (w.heap.size + 1 + 1 + 1) _ _ (by simp)).alloc _), (blk_new_at ((((w.alloc (.cells #[.int .i64 a.k, .int .i64 a.n, .string a.s] 30)).alloc (.cells #[.int .i64 b.k, .int .i64 b.n, .string b.s] 30)).alloc (.cells #[.int .i64 0, .int .i64 0, .string ⟨#[]⟩] 30)).alloc (.cells #[.int .i64 a.k, .int .i64 a.n, .string a.s, .int .i64 b.k, .int .i64 b.n, .string b.s] 30)) (w.heap.size + 1 + 1 + 1 + 1) _ _ (by simp))⟩
  rw [← hW_]
  clear hW_
  have D := fun w' (h : Below W.heap.size W.drew w') => B5.three (Below.trans (Below.refl _ _).drew h)
  refine wp_region_one [(0, true), (1, true), (2, false), (3, true)] (by kernel_rfl) (by kernel_rfl) (by kernel_rfl) (by decide) ?_
  repeat ((with_reducible show wpPerm _ _ _ _ ((_, true) :: _) _ _); (first | (refine wpPerm_on (v := ?_) rfl rfl (wanted_free rfl) (fun w' hS => ?_) ?_; rotate_left; (focus (go_simp; (try with_reducible rfl); done)); try simp only [List.setIfInBounds_toArray, List.set_cons_zero, List.set_cons_succ]) | (refine wpPerm_on (v := ?_) rfl rfl (wanted_yes rfl rfl rfl) (fun w' hS => ?_) ?_; rotate_left; (focus (go_simp; (try with_reducible rfl); done)); try simp only [List.setIfInBounds_toArray, List.set_cons_zero, List.set_cons_succ]) | (refine wpPerm_off rfl rfl (wanted_no rfl rfl rfl) ?_; try simp only [List.setIfInBounds_toArray, List.set_cons_zero, List.set_cons_succ]) | (refine wpPerm_off rfl rfl (wanted_undef rfl rfl rfl) ?_; try simp only [List.setIfInBounds_toArray, List.set_cons_zero, List.set_cons_succ])))
  refine wpPerm_do rfl (wanted_free rfl) (fun K hK => ?_); go_simp
  refine (truthV _ _).mono ?_
  rintro e w3 ⟨rfl, hb_⟩
  refine hK.out _ _ (Below.trans (Below.refl _ _) hb_) ?_
  clear hK K D
  repeat ((with_reducible show wpPerm _ _ _ _ ((_, true) :: _) _ _); (first | (refine wpPerm_on (v := ?_) rfl rfl (wanted_free rfl) (fun w' hS => ?_) ?_; rotate_left; (focus (go_simp; (try with_reducible rfl); done)); try simp only [List.setIfInBounds_toArray, List.set_cons_zero, List.set_cons_succ]) | (refine wpPerm_on (v := ?_) rfl rfl (wanted_yes rfl rfl rfl) (fun w' hS => ?_) ?_; rotate_left; (focus (go_simp; (try with_reducible rfl); done)); try simp only [List.setIfInBounds_toArray, List.set_cons_zero, List.set_cons_succ]) | (refine wpPerm_off rfl rfl (wanted_no rfl rfl rfl) ?_; try simp only [List.setIfInBounds_toArray, List.set_cons_zero, List.set_cons_succ]) | (refine wpPerm_off rfl rfl (wanted_undef rfl rfl rfl) ?_; try simp only [List.setIfInBounds_toArray, List.set_cons_zero, List.set_cons_succ])))
  refine wpPerm_done ?_
  have hb4 : Below W.heap.size W w3 := Below.trans (Below.refl _ _).drew hb_
  clear hb_
  have q4 : w3.cell? ⟨w.heap.size + 1 + 1 + 1, 3, none⟩ = some (.int .i64 b.k) ∧ w3.cell? ⟨w.heap.size + 1 + 1 + 1, 4, none⟩ = some (.int .i64 b.n) ∧ w3.cell? ⟨w.heap.size + 1 + 1 + 1, 5, none⟩ = some (.string b.s) := ⟨(B4.ext hb4).cell 3, (B4.ext hb4).cell 4, (B4.ext hb4).cell 5⟩
  have hb5 := bch0 hbW hb4
  go_wp2_with fail
  rw [rounds_succ]
  go_wp2_with fail
  clear q4
  have C1 := B1.ext hb4
  have C2 := B2.ext hb4
  have C3 := B3.ext hb4
  have hN3 := hb5.size
  have hN4 : w.heap.size + 1 + 1 < w3.heap.size := C3.lt
  clear B1 B2 B3 B4 B5 hbW hb4
  obtain ⟨n3, hn3⟩ : ∃ n3, n3 = w3.heap.size := ⟨_, rfl⟩
  obtain ⟨W4, hW4, hbW4, B6⟩ : ∃ W_, W_ = w3.alloc (.cells #[.int .i64 b.k, .int .i64 b.n, .string b.s] 30) ∧ Below w3.heap.size w3 W_ ∧ Blk W_ w3.heap.size 30 #[.int .i64 b.k, .int .i64 b.n, .string b.s] := ⟨_, rfl, (Below.refl _ _).alloc (Nat.le_refl _) _, Blk.new _ _ _⟩
  rw [← hW4]
  clear hW4 hn3 n3
  have D := fun w' (h : Below W4.heap.size W4.drew w') => B6.three (Below.trans (Below.refl _ _).drew h)
  refine wp_region_one [(0, true), (1, true), (2, false), (3, true)] (by kernel_rfl) (by kernel_rfl) (by kernel_rfl) (by decide) ?_
  repeat ((with_reducible show wpPerm _ _ _ _ ((_, true) :: _) _ _); (first | (refine wpPerm_on (v := ?_) rfl rfl (wanted_free rfl) (fun w' hS => ?_) ?_; rotate_left; (focus (go_simp; (try with_reducible rfl); done)); try simp only [List.setIfInBounds_toArray, List.set_cons_zero, List.set_cons_succ]) | (refine wpPerm_on (v := ?_) rfl rfl (wanted_yes rfl rfl rfl) (fun w' hS => ?_) ?_; rotate_left; (focus (go_simp; (try with_reducible rfl); done)); try simp only [List.setIfInBounds_toArray, List.set_cons_zero, List.set_cons_succ]) | (refine wpPerm_off rfl rfl (wanted_no rfl rfl rfl) ?_; try simp only [List.setIfInBounds_toArray, List.set_cons_zero, List.set_cons_succ]) | (refine wpPerm_off rfl rfl (wanted_undef rfl rfl rfl) ?_; try simp only [List.setIfInBounds_toArray, List.set_cons_zero, List.set_cons_succ])))
  refine wpPerm_do rfl (wanted_free rfl) (fun K hK => ?_); go_simp
  refine (truthV _ _).mono ?_
  rintro e w5 ⟨rfl, hb_⟩
  refine hK.out _ _ (Below.trans (Below.refl _ _) hb_) ?_
  clear hK K D
  repeat ((with_reducible show wpPerm _ _ _ _ ((_, true) :: _) _ _); (first | (refine wpPerm_on (v := ?_) rfl rfl (wanted_free rfl) (fun w' hS => ?_) ?_; rotate_left; (focus (go_simp; (try with_reducible rfl); done)); try simp only [List.setIfInBounds_toArray, List.set_cons_zero, List.set_cons_succ]) | (refine wpPerm_on (v := ?_) rfl rfl (wanted_yes rfl rfl rfl) (fun w' hS => ?_) ?_; rotate_left; (focus (go_simp; (try with_reducible rfl); done)); try simp only [List.setIfInBounds_toArray, List.set_cons_zero, List.set_cons_succ]) | (refine wpPerm_off rfl rfl (wanted_no rfl rfl rfl) ?_; try simp only [List.setIfInBounds_toArray, List.set_cons_zero, List.set_cons_succ]) | (refine wpPerm_off rfl rfl (wanted_undef rfl rfl rfl) ?_; try simp only [List.setIfInBounds_toArray, List.set_cons_zero, List.set_cons_succ])))
  refine wpPerm_done ?_
  have hb6 : Below W4.heap.size W4 w5 := Below.trans (Below.refl _ _).drew hb_
  clear hb_
  clear heq heq2
  have hb7 := bch0 hbW4 hb6
  have C1 := C1.ext hb7
  have C2 := C2.ext hb7
  have C3 := C3.ext hb7
  have hb8 := bch0 hb5 hb7
  clear B6 hb7 hbW4 hb6 hb5
  go_wp2_with fail
  rw [rounds_succ]
  have q1 := C1.three (Below.refl _ _)
  go_wp2_with fail
  clear q1
  refine (nullV a true h3 _).mono ?_
  rintro e w6 ⟨rfl, hb9⟩
  have q_ := (C3.ext hb9).three (Below.refl _ _)
  have f_ := (C3.ext hb9).free3
  go_wp2
  clear q_ f_
  obtain ⟨wE, hwE, BE, hbE, _, _⟩ := (C3.ext hb9).set3 (.int .i64 0) (.int .i64 0) (.string ⟨#[]⟩)
  rw [← hwE]
  have q_ := BE.three (Below.refl _ _)
  exact bodyPost_ret (v := .agg #[.int .i64 0, .int .i64 0, .string ⟨#[]⟩]) (by simp [results, Try.results71, go_sem, q_]) rfl ⟨rfl, Below.trans (bch0 hb8 hb9) (hbE _ (by omega))⟩
set_option maxHeartbeats 2000000 in
theorem logic6d (a b : V) (w : World) (h : vEqV a (tru true) = false) (h2 : vEqV b (tru true) = false) (h3 : (a.k == 0) = false) (h4 : (b.k == 0) = true) :
    Calls Try.prog 71 #[.int .i64 6, .agg #[.int .i64 a.k, .int .i64 a.n, .string a.s], .agg #[.int .i64 b.k, .int .i64 b.n, .string b.s]] w fun e w' => e = .returned (vv nul) ∧ Below w.heap.size w w' := by
  have heq := fun W => eqlVV a (tru true) false h W
  have heq2 := fun W => eqlVV b (tru true) false h2 W
  clear h h2
  go_enter Try.func71, Try.ntmps71
  go_wp2_with fail
  refine wp_loop_rounds 3 ?_
  rw [rounds_succ]
  go_wp2_with fail
  obtain ⟨W, hW_, hbW, B1, B2, B3, B4, B5⟩ : ∃ W_, W_ = (((((w.alloc (.cells #[.int .i64 a.k, .int .i64 a.n, .string a.s] 30)).alloc (.cells #[.int .i64 b.k, .int .i64 b.n, .string b.s] 30)).alloc (.cells #[.int .i64 0, .int .i64 0, .string ⟨#[]⟩] 30)).alloc (.cells #[.int .i64 a.k, .int .i64 a.n, .string a.s, .int .i64 b.k, .int .i64 b.n, .string b.s] 30)).alloc (.cells #[.int .i64 a.k, .int .i64 a.n, .string a.s] 30)) ∧ Below w.heap.size w W_ ∧ Blk W_ (w.heap.size) 30 #[.int .i64 a.k, .int .i64 a.n, .string a.s] ∧ Blk W_ (w.heap.size + 1) 30 #[.int .i64 b.k, .int .i64 b.n, .string b.s] ∧ Blk W_ (w.heap.size + 1 + 1) 30 #[.int .i64 0, .int .i64 0, .string ⟨#[]⟩] ∧ Blk W_ (w.heap.size + 1 + 1 + 1) 30 #[.int .i64 a.k, .int .i64 a.n, .string a.s, .int .i64 b.k, .int .i64 b.n, .string b.s] ∧ Blk W_ (w.heap.size + 1 + 1 + 1 + 1) 30 #[.int .i64 a.k, .int .i64 a.n, .string a.s] :=
    ⟨_, rfl, ((((((Below.refl _ _).alloc (Nat.le_refl _) _).alloc (by simp; try omega) _).alloc (by simp; try omega) _).alloc (by simp; try omega) _).alloc (by simp; try omega) _), (((((blk_new_at w (w.heap.size) _ _ (by simp)).alloc _).alloc _).alloc _).alloc _), ((((blk_new_at (w.alloc (.cells #[.int .i64 a.k, .int .i64 a.n, .string a.s] 30)) (w.heap.size + 1) _ _ (by simp)).alloc _).alloc _).alloc _), (((blk_new_at ((w.alloc (.cells #[.int .i64 a.k, .int .i64 a.n, .string a.s] 30)).alloc (.cells #[.int .i64 b.k, .int .i64 b.n, .string b.s] 30)) (w.heap.size + 1 + 1) _ _ (by simp)).alloc _).alloc _), ((blk_new_at (((w.alloc (.cells #[.int .i64 a.k, .int .i64 a.n, .string a.s] 30)).alloc (.cells #[.int .i64 b.k, .int .i64 b.n, .string b.s] 30)).alloc (.cells #[.int .i64 0, .int .i64 0, .string ⟨#[]⟩] 30)) (w.heap.size + 1 + 1 + 1) _ _ (by simp)).alloc _), (blk_new_at ((((w.alloc (.cells #[.int .i64 a.k, .int .i64 a.n, .string a.s] 30)).alloc (.cells #[.int .i64 b.k, .int .i64 b.n, .string b.s] 30)).alloc (.cells #[.int .i64 0, .int .i64 0, .string ⟨#[]⟩] 30)).alloc (.cells #[.int .i64 a.k, .int .i64 a.n, .string a.s, .int .i64 b.k, .int .i64 b.n, .string b.s] 30)) (w.heap.size + 1 + 1 + 1 + 1) _ _ (by simp))⟩
  rw [← hW_]
  clear hW_
  have D := fun w' (h : Below W.heap.size W.drew w') => B5.three (Below.trans (Below.refl _ _).drew h)
  refine wp_region_one [(0, true), (1, true), (2, false), (3, true)] (by kernel_rfl) (by kernel_rfl) (by kernel_rfl) (by decide) ?_
  repeat ((with_reducible show wpPerm _ _ _ _ ((_, true) :: _) _ _); (first | (refine wpPerm_on (v := ?_) rfl rfl (wanted_free rfl) (fun w' hS => ?_) ?_; rotate_left; (focus (go_simp; (try with_reducible rfl); done)); try simp only [List.setIfInBounds_toArray, List.set_cons_zero, List.set_cons_succ]) | (refine wpPerm_on (v := ?_) rfl rfl (wanted_yes rfl rfl rfl) (fun w' hS => ?_) ?_; rotate_left; (focus (go_simp; (try with_reducible rfl); done)); try simp only [List.setIfInBounds_toArray, List.set_cons_zero, List.set_cons_succ]) | (refine wpPerm_off rfl rfl (wanted_no rfl rfl rfl) ?_; try simp only [List.setIfInBounds_toArray, List.set_cons_zero, List.set_cons_succ]) | (refine wpPerm_off rfl rfl (wanted_undef rfl rfl rfl) ?_; try simp only [List.setIfInBounds_toArray, List.set_cons_zero, List.set_cons_succ])))
  refine wpPerm_do rfl (wanted_free rfl) (fun K hK => ?_); go_simp
  refine (truthV _ _).mono ?_
  rintro e w3 ⟨rfl, hb_⟩
  refine hK.out _ _ (Below.trans (Below.refl _ _) hb_) ?_
  clear hK K D
  repeat ((with_reducible show wpPerm _ _ _ _ ((_, true) :: _) _ _); (first | (refine wpPerm_on (v := ?_) rfl rfl (wanted_free rfl) (fun w' hS => ?_) ?_; rotate_left; (focus (go_simp; (try with_reducible rfl); done)); try simp only [List.setIfInBounds_toArray, List.set_cons_zero, List.set_cons_succ]) | (refine wpPerm_on (v := ?_) rfl rfl (wanted_yes rfl rfl rfl) (fun w' hS => ?_) ?_; rotate_left; (focus (go_simp; (try with_reducible rfl); done)); try simp only [List.setIfInBounds_toArray, List.set_cons_zero, List.set_cons_succ]) | (refine wpPerm_off rfl rfl (wanted_no rfl rfl rfl) ?_; try simp only [List.setIfInBounds_toArray, List.set_cons_zero, List.set_cons_succ]) | (refine wpPerm_off rfl rfl (wanted_undef rfl rfl rfl) ?_; try simp only [List.setIfInBounds_toArray, List.set_cons_zero, List.set_cons_succ])))
  refine wpPerm_done ?_
  have hb4 : Below W.heap.size W w3 := Below.trans (Below.refl _ _).drew hb_
  clear hb_
  have q4 : w3.cell? ⟨w.heap.size + 1 + 1 + 1, 3, none⟩ = some (.int .i64 b.k) ∧ w3.cell? ⟨w.heap.size + 1 + 1 + 1, 4, none⟩ = some (.int .i64 b.n) ∧ w3.cell? ⟨w.heap.size + 1 + 1 + 1, 5, none⟩ = some (.string b.s) := ⟨(B4.ext hb4).cell 3, (B4.ext hb4).cell 4, (B4.ext hb4).cell 5⟩
  have hb5 := bch0 hbW hb4
  go_wp2_with fail
  rw [rounds_succ]
  go_wp2_with fail
  clear q4
  have C1 := B1.ext hb4
  have C2 := B2.ext hb4
  have C3 := B3.ext hb4
  have hN3 := hb5.size
  have hN4 : w.heap.size + 1 + 1 < w3.heap.size := C3.lt
  clear B1 B2 B3 B4 B5 hbW hb4
  obtain ⟨n3, hn3⟩ : ∃ n3, n3 = w3.heap.size := ⟨_, rfl⟩
  obtain ⟨W4, hW4, hbW4, B6⟩ : ∃ W_, W_ = w3.alloc (.cells #[.int .i64 b.k, .int .i64 b.n, .string b.s] 30) ∧ Below w3.heap.size w3 W_ ∧ Blk W_ w3.heap.size 30 #[.int .i64 b.k, .int .i64 b.n, .string b.s] := ⟨_, rfl, (Below.refl _ _).alloc (Nat.le_refl _) _, Blk.new _ _ _⟩
  rw [← hW4]
  clear hW4 hn3 n3
  have D := fun w' (h : Below W4.heap.size W4.drew w') => B6.three (Below.trans (Below.refl _ _).drew h)
  refine wp_region_one [(0, true), (1, true), (2, false), (3, true)] (by kernel_rfl) (by kernel_rfl) (by kernel_rfl) (by decide) ?_
  repeat ((with_reducible show wpPerm _ _ _ _ ((_, true) :: _) _ _); (first | (refine wpPerm_on (v := ?_) rfl rfl (wanted_free rfl) (fun w' hS => ?_) ?_; rotate_left; (focus (go_simp; (try with_reducible rfl); done)); try simp only [List.setIfInBounds_toArray, List.set_cons_zero, List.set_cons_succ]) | (refine wpPerm_on (v := ?_) rfl rfl (wanted_yes rfl rfl rfl) (fun w' hS => ?_) ?_; rotate_left; (focus (go_simp; (try with_reducible rfl); done)); try simp only [List.setIfInBounds_toArray, List.set_cons_zero, List.set_cons_succ]) | (refine wpPerm_off rfl rfl (wanted_no rfl rfl rfl) ?_; try simp only [List.setIfInBounds_toArray, List.set_cons_zero, List.set_cons_succ]) | (refine wpPerm_off rfl rfl (wanted_undef rfl rfl rfl) ?_; try simp only [List.setIfInBounds_toArray, List.set_cons_zero, List.set_cons_succ])))
  refine wpPerm_do rfl (wanted_free rfl) (fun K hK => ?_); go_simp
  refine (truthV _ _).mono ?_
  rintro e w5 ⟨rfl, hb_⟩
  refine hK.out _ _ (Below.trans (Below.refl _ _) hb_) ?_
  clear hK K D
  repeat ((with_reducible show wpPerm _ _ _ _ ((_, true) :: _) _ _); (first | (refine wpPerm_on (v := ?_) rfl rfl (wanted_free rfl) (fun w' hS => ?_) ?_; rotate_left; (focus (go_simp; (try with_reducible rfl); done)); try simp only [List.setIfInBounds_toArray, List.set_cons_zero, List.set_cons_succ]) | (refine wpPerm_on (v := ?_) rfl rfl (wanted_yes rfl rfl rfl) (fun w' hS => ?_) ?_; rotate_left; (focus (go_simp; (try with_reducible rfl); done)); try simp only [List.setIfInBounds_toArray, List.set_cons_zero, List.set_cons_succ]) | (refine wpPerm_off rfl rfl (wanted_no rfl rfl rfl) ?_; try simp only [List.setIfInBounds_toArray, List.set_cons_zero, List.set_cons_succ]) | (refine wpPerm_off rfl rfl (wanted_undef rfl rfl rfl) ?_; try simp only [List.setIfInBounds_toArray, List.set_cons_zero, List.set_cons_succ])))
  refine wpPerm_done ?_
  have hb6 : Below W4.heap.size W4 w5 := Below.trans (Below.refl _ _).drew hb_
  clear hb_
  clear heq heq2
  have hb7 := bch0 hbW4 hb6
  have C1 := C1.ext hb7
  have C2 := C2.ext hb7
  have C3 := C3.ext hb7
  have hb8 := bch0 hb5 hb7
  clear B6 hb7 hbW4 hb6 hb5
  go_wp2_with fail
  rw [rounds_succ]
  have q1 := C1.three (Below.refl _ _)
  go_wp2_with fail
  clear q1
  refine (nullV a false h3 _).mono ?_
  rintro e w6 ⟨rfl, hb9⟩
  have q2 := C2.three hb9
  go_wp2_with fail
  clear q2
  refine (nullV b true h4 _).mono ?_
  rintro e w7 ⟨rfl, hb10⟩
  have hb9 := bch0 hb9 hb10
  have q_ := (C3.ext hb9).three (Below.refl _ _)
  have f_ := (C3.ext hb9).free3
  go_wp2
  clear q_ f_
  obtain ⟨wE, hwE, BE, hbE, _, _⟩ := (C3.ext hb9).set3 (.int .i64 0) (.int .i64 0) (.string ⟨#[]⟩)
  rw [← hwE]
  have q_ := BE.three (Below.refl _ _)
  exact bodyPost_ret (v := .agg #[.int .i64 0, .int .i64 0, .string ⟨#[]⟩]) (by simp [results, Try.results71, go_sem, q_]) rfl ⟨rfl, Below.trans (bch0 hb8 hb9) (hbE _ (by omega))⟩
set_option maxHeartbeats 2000000 in
theorem logic6e (a b : V) (w : World) (h : vEqV a (tru true) = false) (h2 : vEqV b (tru true) = false) (h3 : (a.k == 0) = false) (h4 : (b.k == 0) = false) :
    Calls Try.prog 71 #[.int .i64 6, .agg #[.int .i64 a.k, .int .i64 a.n, .string a.s], .agg #[.int .i64 b.k, .int .i64 b.n, .string b.s]] w fun e w' => e = .returned (vv (tru false)) ∧ Below w.heap.size w w' := by
  have heq := fun W => eqlVV a (tru true) false h W
  have heq2 := fun W => eqlVV b (tru true) false h2 W
  clear h h2
  go_enter Try.func71, Try.ntmps71
  go_wp2_with fail
  refine wp_loop_rounds 3 ?_
  rw [rounds_succ]
  go_wp2_with fail
  obtain ⟨W, hW_, hbW, B1, B2, B3, B4, B5⟩ : ∃ W_, W_ = (((((w.alloc (.cells #[.int .i64 a.k, .int .i64 a.n, .string a.s] 30)).alloc (.cells #[.int .i64 b.k, .int .i64 b.n, .string b.s] 30)).alloc (.cells #[.int .i64 0, .int .i64 0, .string ⟨#[]⟩] 30)).alloc (.cells #[.int .i64 a.k, .int .i64 a.n, .string a.s, .int .i64 b.k, .int .i64 b.n, .string b.s] 30)).alloc (.cells #[.int .i64 a.k, .int .i64 a.n, .string a.s] 30)) ∧ Below w.heap.size w W_ ∧ Blk W_ (w.heap.size) 30 #[.int .i64 a.k, .int .i64 a.n, .string a.s] ∧ Blk W_ (w.heap.size + 1) 30 #[.int .i64 b.k, .int .i64 b.n, .string b.s] ∧ Blk W_ (w.heap.size + 1 + 1) 30 #[.int .i64 0, .int .i64 0, .string ⟨#[]⟩] ∧ Blk W_ (w.heap.size + 1 + 1 + 1) 30 #[.int .i64 a.k, .int .i64 a.n, .string a.s, .int .i64 b.k, .int .i64 b.n, .string b.s] ∧ Blk W_ (w.heap.size + 1 + 1 + 1 + 1) 30 #[.int .i64 a.k, .int .i64 a.n, .string a.s] :=
    ⟨_, rfl, ((((((Below.refl _ _).alloc (Nat.le_refl _) _).alloc (by simp; try omega) _).alloc (by simp; try omega) _).alloc (by simp; try omega) _).alloc (by simp; try omega) _), (((((blk_new_at w (w.heap.size) _ _ (by simp)).alloc _).alloc _).alloc _).alloc _), ((((blk_new_at (w.alloc (.cells #[.int .i64 a.k, .int .i64 a.n, .string a.s] 30)) (w.heap.size + 1) _ _ (by simp)).alloc _).alloc _).alloc _), (((blk_new_at ((w.alloc (.cells #[.int .i64 a.k, .int .i64 a.n, .string a.s] 30)).alloc (.cells #[.int .i64 b.k, .int .i64 b.n, .string b.s] 30)) (w.heap.size + 1 + 1) _ _ (by simp)).alloc _).alloc _), ((blk_new_at (((w.alloc (.cells #[.int .i64 a.k, .int .i64 a.n, .string a.s] 30)).alloc (.cells #[.int .i64 b.k, .int .i64 b.n, .string b.s] 30)).alloc (.cells #[.int .i64 0, .int .i64 0, .string ⟨#[]⟩] 30)) (w.heap.size + 1 + 1 + 1) _ _ (by simp)).alloc _), (blk_new_at ((((w.alloc (.cells #[.int .i64 a.k, .int .i64 a.n, .string a.s] 30)).alloc (.cells #[.int .i64 b.k, .int .i64 b.n, .string b.s] 30)).alloc (.cells #[.int .i64 0, .int .i64 0, .string ⟨#[]⟩] 30)).alloc (.cells #[.int .i64 a.k, .int .i64 a.n, .string a.s, .int .i64 b.k, .int .i64 b.n, .string b.s] 30)) (w.heap.size + 1 + 1 + 1 + 1) _ _ (by simp))⟩
  rw [← hW_]
  clear hW_
  have D := fun w' (h : Below W.heap.size W.drew w') => B5.three (Below.trans (Below.refl _ _).drew h)
  refine wp_region_one [(0, true), (1, true), (2, false), (3, true)] (by kernel_rfl) (by kernel_rfl) (by kernel_rfl) (by decide) ?_
  repeat ((with_reducible show wpPerm _ _ _ _ ((_, true) :: _) _ _); (first | (refine wpPerm_on (v := ?_) rfl rfl (wanted_free rfl) (fun w' hS => ?_) ?_; rotate_left; (focus (go_simp; (try with_reducible rfl); done)); try simp only [List.setIfInBounds_toArray, List.set_cons_zero, List.set_cons_succ]) | (refine wpPerm_on (v := ?_) rfl rfl (wanted_yes rfl rfl rfl) (fun w' hS => ?_) ?_; rotate_left; (focus (go_simp; (try with_reducible rfl); done)); try simp only [List.setIfInBounds_toArray, List.set_cons_zero, List.set_cons_succ]) | (refine wpPerm_off rfl rfl (wanted_no rfl rfl rfl) ?_; try simp only [List.setIfInBounds_toArray, List.set_cons_zero, List.set_cons_succ]) | (refine wpPerm_off rfl rfl (wanted_undef rfl rfl rfl) ?_; try simp only [List.setIfInBounds_toArray, List.set_cons_zero, List.set_cons_succ])))
  refine wpPerm_do rfl (wanted_free rfl) (fun K hK => ?_); go_simp
  refine (truthV _ _).mono ?_
  rintro e w3 ⟨rfl, hb_⟩
  refine hK.out _ _ (Below.trans (Below.refl _ _) hb_) ?_
  clear hK K D
  repeat ((with_reducible show wpPerm _ _ _ _ ((_, true) :: _) _ _); (first | (refine wpPerm_on (v := ?_) rfl rfl (wanted_free rfl) (fun w' hS => ?_) ?_; rotate_left; (focus (go_simp; (try with_reducible rfl); done)); try simp only [List.setIfInBounds_toArray, List.set_cons_zero, List.set_cons_succ]) | (refine wpPerm_on (v := ?_) rfl rfl (wanted_yes rfl rfl rfl) (fun w' hS => ?_) ?_; rotate_left; (focus (go_simp; (try with_reducible rfl); done)); try simp only [List.setIfInBounds_toArray, List.set_cons_zero, List.set_cons_succ]) | (refine wpPerm_off rfl rfl (wanted_no rfl rfl rfl) ?_; try simp only [List.setIfInBounds_toArray, List.set_cons_zero, List.set_cons_succ]) | (refine wpPerm_off rfl rfl (wanted_undef rfl rfl rfl) ?_; try simp only [List.setIfInBounds_toArray, List.set_cons_zero, List.set_cons_succ])))
  refine wpPerm_done ?_
  have hb4 : Below W.heap.size W w3 := Below.trans (Below.refl _ _).drew hb_
  clear hb_
  have q4 : w3.cell? ⟨w.heap.size + 1 + 1 + 1, 3, none⟩ = some (.int .i64 b.k) ∧ w3.cell? ⟨w.heap.size + 1 + 1 + 1, 4, none⟩ = some (.int .i64 b.n) ∧ w3.cell? ⟨w.heap.size + 1 + 1 + 1, 5, none⟩ = some (.string b.s) := ⟨(B4.ext hb4).cell 3, (B4.ext hb4).cell 4, (B4.ext hb4).cell 5⟩
  have hb5 := bch0 hbW hb4
  go_wp2_with fail
  rw [rounds_succ]
  go_wp2_with fail
  clear q4
  have C1 := B1.ext hb4
  have C2 := B2.ext hb4
  have C3 := B3.ext hb4
  have hN3 := hb5.size
  have hN4 : w.heap.size + 1 + 1 < w3.heap.size := C3.lt
  clear B1 B2 B3 B4 B5 hbW hb4
  obtain ⟨n3, hn3⟩ : ∃ n3, n3 = w3.heap.size := ⟨_, rfl⟩
  obtain ⟨W4, hW4, hbW4, B6⟩ : ∃ W_, W_ = w3.alloc (.cells #[.int .i64 b.k, .int .i64 b.n, .string b.s] 30) ∧ Below w3.heap.size w3 W_ ∧ Blk W_ w3.heap.size 30 #[.int .i64 b.k, .int .i64 b.n, .string b.s] := ⟨_, rfl, (Below.refl _ _).alloc (Nat.le_refl _) _, Blk.new _ _ _⟩
  rw [← hW4]
  clear hW4 hn3 n3
  have D := fun w' (h : Below W4.heap.size W4.drew w') => B6.three (Below.trans (Below.refl _ _).drew h)
  refine wp_region_one [(0, true), (1, true), (2, false), (3, true)] (by kernel_rfl) (by kernel_rfl) (by kernel_rfl) (by decide) ?_
  repeat ((with_reducible show wpPerm _ _ _ _ ((_, true) :: _) _ _); (first | (refine wpPerm_on (v := ?_) rfl rfl (wanted_free rfl) (fun w' hS => ?_) ?_; rotate_left; (focus (go_simp; (try with_reducible rfl); done)); try simp only [List.setIfInBounds_toArray, List.set_cons_zero, List.set_cons_succ]) | (refine wpPerm_on (v := ?_) rfl rfl (wanted_yes rfl rfl rfl) (fun w' hS => ?_) ?_; rotate_left; (focus (go_simp; (try with_reducible rfl); done)); try simp only [List.setIfInBounds_toArray, List.set_cons_zero, List.set_cons_succ]) | (refine wpPerm_off rfl rfl (wanted_no rfl rfl rfl) ?_; try simp only [List.setIfInBounds_toArray, List.set_cons_zero, List.set_cons_succ]) | (refine wpPerm_off rfl rfl (wanted_undef rfl rfl rfl) ?_; try simp only [List.setIfInBounds_toArray, List.set_cons_zero, List.set_cons_succ])))
  refine wpPerm_do rfl (wanted_free rfl) (fun K hK => ?_); go_simp
  refine (truthV _ _).mono ?_
  rintro e w5 ⟨rfl, hb_⟩
  refine hK.out _ _ (Below.trans (Below.refl _ _) hb_) ?_
  clear hK K D
  repeat ((with_reducible show wpPerm _ _ _ _ ((_, true) :: _) _ _); (first | (refine wpPerm_on (v := ?_) rfl rfl (wanted_free rfl) (fun w' hS => ?_) ?_; rotate_left; (focus (go_simp; (try with_reducible rfl); done)); try simp only [List.setIfInBounds_toArray, List.set_cons_zero, List.set_cons_succ]) | (refine wpPerm_on (v := ?_) rfl rfl (wanted_yes rfl rfl rfl) (fun w' hS => ?_) ?_; rotate_left; (focus (go_simp; (try with_reducible rfl); done)); try simp only [List.setIfInBounds_toArray, List.set_cons_zero, List.set_cons_succ]) | (refine wpPerm_off rfl rfl (wanted_no rfl rfl rfl) ?_; try simp only [List.setIfInBounds_toArray, List.set_cons_zero, List.set_cons_succ]) | (refine wpPerm_off rfl rfl (wanted_undef rfl rfl rfl) ?_; try simp only [List.setIfInBounds_toArray, List.set_cons_zero, List.set_cons_succ])))
  refine wpPerm_done ?_
  have hb6 : Below W4.heap.size W4 w5 := Below.trans (Below.refl _ _).drew hb_
  clear hb_
  clear heq heq2
  have hb7 := bch0 hbW4 hb6
  have C1 := C1.ext hb7
  have C2 := C2.ext hb7
  have C3 := C3.ext hb7
  have hb8 := bch0 hb5 hb7
  clear B6 hb7 hbW4 hb6 hb5
  go_wp2_with fail
  rw [rounds_succ]
  have q1 := C1.three (Below.refl _ _)
  go_wp2_with fail
  clear q1
  refine (nullV a false h3 _).mono ?_
  rintro e w6 ⟨rfl, hb9⟩
  have q2 := C2.three hb9
  go_wp2_with fail
  clear q2
  refine (nullV b false h4 _).mono ?_
  rintro e w7 ⟨rfl, hb10⟩
  have hb9 := bch0 hb9 hb10
  go_wp2_with fail
  refine (truthV false _).mono ?_
  rintro e w8 ⟨rfl, hb11⟩
  have hb9 := bch0 hb9 hb11
  have q_ := (C3.ext hb9).three (Below.refl _ _)
  have f_ := (C3.ext hb9).free3
  go_wp2
  clear q_ f_
  obtain ⟨wE, hwE, BE, hbE, _, _⟩ := (C3.ext hb9).set3 (.int .i64 (tru false).k) (.int .i64 (tru false).n) (.string (tru false).s)
  rw [← hwE]
  have q_ := BE.three (Below.refl _ _)
  exact bodyPost_ret (v := .agg #[.int .i64 (tru false).k, .int .i64 (tru false).n, .string (tru false).s]) (by simp [results, Try.results71, go_sem, q_]) rfl ⟨rfl, Below.trans (bch0 hb8 hb9) (hbE _ (by omega))⟩

theorem logic6 (a b : V) (w : World) :
    Calls Try.prog 71 #[.int .i64 6, .agg #[.int .i64 a.k, .int .i64 a.n, .string a.s], .agg #[.int .i64 b.k, .int .i64 b.n, .string b.s]] w fun e w' => e = .returned (vv (logicV true a b)) ∧ Below w.heap.size w w' := by
  unfold logicV
  cases h : vEqV a (tru true) with
  | true => rw [if_pos rfl]; exact logic6a a b w h
  | false =>
    rw [if_neg (by simp)]
    cases h2 : vEqV b (tru true) with
    | true => rw [if_pos rfl]; exact logic6b a b w h h2
    | false =>
      rw [if_neg (by simp)]
      cases h3 : a.k == 0 with
      | true => rw [if_pos (.inl (by simpa using h3))]; exact logic6c a b w h h2 h3
      | false =>
        cases h4 : b.k == 0 with
        | true => rw [if_pos (.inr (by simpa using h4))]; exact logic6d a b w h h2 h3 h4
        | false => rw [if_neg (by simp at h3 h4; omega)]; exact logic6e a b w h h2 h3 h4
set_option maxHeartbeats 2000000 in
theorem logic7a (a b : V) (w : World) (h : vEqV a (tru false) = true) :
    Calls Try.prog 71 #[.int .i64 7, .agg #[.int .i64 a.k, .int .i64 a.n, .string a.s], .agg #[.int .i64 b.k, .int .i64 b.n, .string b.s]] w fun e w' => e = .returned (vv a) ∧ Below w.heap.size w w' := by
  have heq := fun W => eqlVV a (tru false) true h W
  clear h
  go_enter Try.func71, Try.ntmps71
  go_wp2_with fail
  refine wp_loop_rounds 3 ?_
  rw [rounds_succ]
  go_wp2_with fail
  obtain ⟨W, hW_, hbW, B1, B2, B3, B4, B5⟩ : ∃ W_, W_ = (((((w.alloc (.cells #[.int .i64 a.k, .int .i64 a.n, .string a.s] 30)).alloc (.cells #[.int .i64 b.k, .int .i64 b.n, .string b.s] 30)).alloc (.cells #[.int .i64 0, .int .i64 0, .string ⟨#[]⟩] 30)).alloc (.cells #[.int .i64 a.k, .int .i64 a.n, .string a.s, .int .i64 b.k, .int .i64 b.n, .string b.s] 30)).alloc (.cells #[.int .i64 a.k, .int .i64 a.n, .string a.s] 30)) ∧ Below w.heap.size w W_ ∧ Blk W_ (w.heap.size) 30 #[.int .i64 a.k, .int .i64 a.n, .string a.s] ∧ Blk W_ (w.heap.size + 1) 30 #[.int .i64 b.k, .int .i64 b.n, .string b.s] ∧ Blk W_ (w.heap.size + 1 + 1) 30 #[.int .i64 0, .int .i64 0, .string ⟨#[]⟩] ∧ Blk W_ (w.heap.size + 1 + 1 + 1) 30 #[.int .i64 a.k, .int .i64 a.n, .string a.s, .int .i64 b.k, .int .i64 b.n, .string b.s] ∧ Blk W_ (w.heap.size + 1 + 1 + 1 + 1) 30 #[.int .i64 a.k, .int .i64 a.n, .string a.s] :=
    ⟨_, rfl, ((((((Below.refl _ _).alloc (Nat.le_refl _) _).alloc (by simp; try omega) _).alloc (by simp; try omega) _).alloc (by simp; try omega) _).alloc (by simp; try omega) _), (((((blk_new_at w (w.heap.size) _ _ (by simp)).alloc _).alloc _).alloc _).alloc _), ((((blk_new_at (w.alloc (.cells #[.int .i64 a.k, .int .i64 a.n, .string a.s] 30)) (w.heap.size + 1) _ _ (by simp)).alloc _).alloc _).alloc _), (((blk_new_at ((w.alloc (.cells #[.int .i64 a.k, .int .i64 a.n, .string a.s] 30)).alloc (.cells #[.int .i64 b.k, .int .i64 b.n, .string b.s] 30)) (w.heap.size + 1 + 1) _ _ (by simp)).alloc _).alloc _), ((blk_new_at (((w.alloc (.cells #[.int .i64 a.k, .int .i64 a.n, .string a.s] 30)).alloc (.cells #[.int .i64 b.k, .int .i64 b.n, .string b.s] 30)).alloc (.cells #[.int .i64 0, .int .i64 0, .string ⟨#[]⟩] 30)) (w.heap.size + 1 + 1 + 1) _ _ (by simp)).alloc _), (blk_new_at ((((w.alloc (.cells #[.int .i64 a.k, .int .i64 a.n, .string a.s] 30)).alloc (.cells #[.int .i64 b.k, .int .i64 b.n, .string b.s] 30)).alloc (.cells #[.int .i64 0, .int .i64 0, .string ⟨#[]⟩] 30)).alloc (.cells #[.int .i64 a.k, .int .i64 a.n, .string a.s, .int .i64 b.k, .int .i64 b.n, .string b.s] 30)) (w.heap.size + 1 + 1 + 1 + 1) _ _ (by simp))⟩
  rw [← hW_]
  clear hW_
  have D := fun w' (h : Below W.heap.size W.drew w') => B5.three (Below.trans (Below.refl _ _).drew h)
  refine wp_region_one [(0, true), (1, true), (2, false), (3, true)] (by kernel_rfl) (by kernel_rfl) (by kernel_rfl) (by decide) ?_
  repeat ((with_reducible show wpPerm _ _ _ _ ((_, true) :: _) _ _); (first | (refine wpPerm_on (v := ?_) rfl rfl (wanted_free rfl) (fun w' hS => ?_) ?_; rotate_left; (focus (go_simp; (try with_reducible rfl); done)); try simp only [List.setIfInBounds_toArray, List.set_cons_zero, List.set_cons_succ]) | (refine wpPerm_on (v := ?_) rfl rfl (wanted_yes rfl rfl rfl) (fun w' hS => ?_) ?_; rotate_left; (focus (go_simp; (try with_reducible rfl); done)); try simp only [List.setIfInBounds_toArray, List.set_cons_zero, List.set_cons_succ]) | (refine wpPerm_off rfl rfl (wanted_no rfl rfl rfl) ?_; try simp only [List.setIfInBounds_toArray, List.set_cons_zero, List.set_cons_succ]) | (refine wpPerm_off rfl rfl (wanted_undef rfl rfl rfl) ?_; try simp only [List.setIfInBounds_toArray, List.set_cons_zero, List.set_cons_succ])))
  refine wpPerm_do rfl (wanted_free rfl) (fun K hK => ?_); go_simp
  refine (truthV _ _).mono ?_
  rintro e w3 ⟨rfl, hb_⟩
  refine hK.out _ _ (Below.trans (Below.refl _ _) hb_) ?_
  clear hK K D
  repeat ((with_reducible show wpPerm _ _ _ _ ((_, true) :: _) _ _); (first | (refine wpPerm_on (v := ?_) rfl rfl (wanted_free rfl) (fun w' hS => ?_) ?_; rotate_left; (focus (go_simp; (try with_reducible rfl); done)); try simp only [List.setIfInBounds_toArray, List.set_cons_zero, List.set_cons_succ]) | (refine wpPerm_on (v := ?_) rfl rfl (wanted_yes rfl rfl rfl) (fun w' hS => ?_) ?_; rotate_left; (focus (go_simp; (try with_reducible rfl); done)); try simp only [List.setIfInBounds_toArray, List.set_cons_zero, List.set_cons_succ]) | (refine wpPerm_off rfl rfl (wanted_no rfl rfl rfl) ?_; try simp only [List.setIfInBounds_toArray, List.set_cons_zero, List.set_cons_succ]) | (refine wpPerm_off rfl rfl (wanted_undef rfl rfl rfl) ?_; try simp only [List.setIfInBounds_toArray, List.set_cons_zero, List.set_cons_succ])))
  refine wpPerm_done ?_
  have hb4 : Below W.heap.size W w3 := Below.trans (Below.refl _ _).drew hb_
  clear hb_
  clear heq
  have q5 := B5.three hb4
  have q_ := (B3.ext hb4).three (Below.refl _ _)
  have f_ := (B3.ext hb4).free3
  go_wp2
  clear q_ f_
  obtain ⟨wE, hwE, BE, hbE, _, _⟩ := (B3.ext hb4).set3 (.int .i64 a.k) (.int .i64 a.n) (.string a.s)
  rw [← hwE]
  have q_ := BE.three (Below.refl _ _)
  exact bodyPost_ret (v := .agg #[.int .i64 a.k, .int .i64 a.n, .string a.s]) (by simp [results, Try.results71, go_sem, q_]) rfl ⟨rfl, Below.trans (bch0 hbW hb4) (hbE _ (by omega))⟩
set_option maxHeartbeats 2000000 in
theorem logic7b (a b : V) (w : World) (h : vEqV a (tru false) = false) (h2 : vEqV b (tru false) = true) :
    Calls Try.prog 71 #[.int .i64 7, .agg #[.int .i64 a.k, .int .i64 a.n, .string a.s], .agg #[.int .i64 b.k, .int .i64 b.n, .string b.s]] w fun e w' => e = .returned (vv b) ∧ Below w.heap.size w w' := by
  have heq := fun W => eqlVV a (tru false) false h W
  have heq2 := fun W => eqlVV b (tru false) true h2 W
  clear h h2
  go_enter Try.func71, Try.ntmps71
  go_wp2_with fail
  refine wp_loop_rounds 3 ?_
  rw [rounds_succ]
  go_wp2_with fail
  obtain ⟨W, hW_, hbW, B1, B2, B3, B4, B5⟩ : ∃ W_, W_ = (((((w.alloc (.cells #[.int .i64 a.k, .int .i64 a.n, .string a.s] 30)).alloc (.cells #[.int .i64 b.k, .int .i64 b.n, .string b.s] 30)).alloc (.cells #[.int .i64 0, .int .i64 0, .string ⟨#[]⟩] 30)).alloc (.cells #[.int .i64 a.k, .int .i64 a.n, .string a.s, .int .i64 b.k, .int .i64 b.n, .string b.s] 30)).alloc (.cells #[.int .i64 a.k, .int .i64 a.n, .string a.s] 30)) ∧ Below w.heap.size w W_ ∧ Blk W_ (w.heap.size) 30 #[.int .i64 a.k, .int .i64 a.n, .string a.s] ∧ Blk W_ (w.heap.size + 1) 30 #[.int .i64 b.k, .int .i64 b.n, .string b.s] ∧ Blk W_ (w.heap.size + 1 + 1) 30 #[.int .i64 0, .int .i64 0, .string ⟨#[]⟩] ∧ Blk W_ (w.heap.size + 1 + 1 + 1) 30 #[.int .i64 a.k, .int .i64 a.n, .string a.s, .int .i64 b.k, .int .i64 b.n, .string b.s] ∧ Blk W_ (w.heap.size + 1 + 1 + 1 + 1) 30 #[.int .i64 a.k, .int .i64 a.n, .string a.s] :=
    ⟨_, rfl, ((((((Below.refl _ _).alloc (Nat.le_refl _) _).alloc (by simp; try omega) _).alloc (by simp; try omega) _).alloc (by simp; try omega) _).alloc (by simp; try omega) _), (((((blk_new_at w (w.heap.size) _ _ (by simp)).alloc _).alloc _).alloc _).alloc _), ((((blk_new_at (w.alloc (.cells #[.int .i64 a.k, .int .i64 a.n, .string a.s] 30)) (w.heap.size + 1) _ _ (by simp)).alloc _).alloc _).alloc _), (((blk_new_at ((w.alloc (.cells #[.int .i64 a.k, .int .i64 a.n, .string a.s] 30)).alloc (.cells #[.int .i64 b.k, .int .i64 b.n, .string b.s] 30)) (w.heap.size + 1 + 1) _ _ (by simp)).alloc _).alloc _), ((blk_new_at (((w.alloc (.cells #[.int .i64 a.k, .int .i64 a.n, .string a.s] 30)).alloc (.cells #[.int .i64 b.k, .int .i64 b.n, .string b.s] 30)).alloc (.cells #[.int .i64 0, .int .i64 0, .string ⟨#[]⟩] 30)) (w.heap.size + 1 + 1 + 1) _ _ (by simp)).alloc _), (blk_new_at ((((w.alloc (.cells #[.int .i64 a.k, .int .i64 a.n, .string a.s] 30)).alloc (.cells #[.int .i64 b.k, .int .i64 b.n, .string b.s] 30)).alloc (.cells #[.int .i64 0, .int .i64 0, .string ⟨#[]⟩] 30)).alloc (.cells #[.int .i64 a.k, .int .i64 a.n, .string a.s, .int .i64 b.k, .int .i64 b.n, .string b.s] 30)) (w.heap.size + 1 + 1 + 1 + 1) _ _ (by simp))⟩
  rw [← hW_]
  clear hW_
  have D := fun w' (h : Below W.heap.size W.drew w') => B5.three (Below.trans (Below.refl _ _).drew h)
  refine wp_region_one [(0, true), (1, true), (2, false), (3, true)] (by kernel_rfl) (by kernel_rfl) (by kernel_rfl) (by decide) ?_
  repeat ((with_reducible show wpPerm _ _ _ _ ((_, true) :: _) _ _); (first | (refine wpPerm_on (v := ?_) rfl rfl (wanted_free rfl) (fun w' hS => ?_) ?_; rotate_left; (focus (go_simp; (try with_reducible rfl); done)); try simp only [List.setIfInBounds_toArray, List.set_cons_zero, List.set_cons_succ]) | (refine wpPerm_on (v := ?_) rfl rfl (wanted_yes rfl rfl rfl) (fun w' hS => ?_) ?_; rotate_left; (focus (go_simp; (try with_reducible rfl); done)); try simp only [List.setIfInBounds_toArray, List.set_cons_zero, List.set_cons_succ]) | (refine wpPerm_off rfl rfl (wanted_no rfl rfl rfl) ?_; try simp only [List.setIfInBounds_toArray, List.set_cons_zero, List.set_cons_succ]) | (refine wpPerm_off rfl rfl (wanted_undef rfl rfl rfl) ?_; try simp only [List.setIfInBounds_toArray, List.set_cons_zero, List.set_cons_succ])))
  refine wpPerm_do rfl (wanted_free rfl) (fun K hK => ?_); go_simp
  refine (truthV _ _).mono ?_
  rintro e w3 ⟨rfl, hb_⟩
  refine hK.out _ _ (Below.trans (Below.refl _ _) hb_) ?_
  clear hK K D
  repeat ((with_reducible show wpPerm _ _ _ _ ((_, true) :: _) _ _); (first | (refine wpPerm_on (v := ?_) rfl rfl (wanted_free rfl) (fun w' hS => ?_) ?_; rotate_left; (focus (go_simp; (try with_reducible rfl); done)); try simp only [List.setIfInBounds_toArray, List.set_cons_zero, List.set_cons_succ]) | (refine wpPerm_on (v := ?_) rfl rfl (wanted_yes rfl rfl rfl) (fun w' hS => ?_) ?_; rotate_left; (focus (go_simp; (try with_reducible rfl); done)); try simp only [List.setIfInBounds_toArray, List.set_cons_zero, List.set_cons_succ]) | (refine wpPerm_off rfl rfl (wanted_no rfl rfl rfl) ?_; try simp only [List.setIfInBounds_toArray, List.set_cons_zero, List.set_cons_succ]) | (refine wpPerm_off rfl rfl (wanted_undef rfl rfl rfl) ?_; try simp only [List.setIfInBounds_toArray, List.set_cons_zero, List.set_cons_succ])))
  refine wpPerm_done ?_
  have hb4 : Below W.heap.size W w3 := Below.trans (Below.refl _ _).drew hb_
  clear hb_
  have q4 : w3.cell? ⟨w.heap.size + 1 + 1 + 1, 3, none⟩ = some (.int .i64 b.k) ∧ w3.cell? ⟨w.heap.size + 1 + 1 + 1, 4, none⟩ = some (.int .i64 b.n) ∧ w3.cell? ⟨w.heap.size + 1 + 1 + 1, 5, none⟩ = some (.string b.s) := ⟨(B4.ext hb4).cell 3, (B4.ext hb4).cell 4, (B4.ext hb4).cell 5⟩
  have hb5 := bch0 hbW hb4
  go_wp2_with fail
  rw [rounds_succ]
  go_wp2_with fail
  clear q4
  have C1 := B1.ext hb4
  have C2 := B2.ext hb4
  have C3 := B3.ext hb4
  have hN3 := hb5.size
  have hN4 : w.heap.size + 1 + 1 < w3.heap.size := C3.lt
  clear B1 B2 B3 B4 B5 hbW hb4
  obtain ⟨n3, hn3⟩ : ∃ n3, n3 = w3.heap.size := ⟨_, rfl⟩
  obtain ⟨W4, hW4, hbW4, B6⟩ : ∃ W_, W_ = w3.alloc (.cells #[.int .i64 b.k, .int .i64 b.n, .string b.s] 30) ∧ Below w3.heap.size w3 W_ ∧ Blk W_ w3.heap.size 30 #[.int .i64 b.k, .int .i64 b.n, .string b.s] := ⟨_, rfl, (Below.refl _ _).alloc (Nat.le_refl _) _, Blk.new _ _ _⟩
  rw [← hW4]
  clear hW4 hn3 n3
  have D := fun w' (h : Below W4.heap.size W4.drew w') => B6.three (Below.trans (Below.refl _ _).drew h)
  refine wp_region_one [(0, true), (1, true), (2, false), (3, true)] (by kernel_rfl) (by kernel_rfl) (by kernel_rfl) (by decide) ?_
  repeat ((with_reducible show wpPerm _ _ _ _ ((_, true) :: _) _ _); (first | (refine wpPerm_on (v := ?_) rfl rfl (wanted_free rfl) (fun w' hS => ?_) ?_; rotate_left; (focus (go_simp; (try with_reducible rfl); done)); try simp only [List.setIfInBounds_toArray, List.set_cons_zero, List.set_cons_succ]) | (refine wpPerm_on (v := ?_) rfl rfl (wanted_yes rfl rfl rfl) (fun w' hS => ?_) ?_; rotate_left; (focus (go_simp; (try with_reducible rfl); done)); try simp only [List.setIfInBounds_toArray, List.set_cons_zero, List.set_cons_succ]) | (refine wpPerm_off rfl rfl (wanted_no rfl rfl rfl) ?_; try simp only [List.setIfInBounds_toArray, List.set_cons_zero, List.set_cons_succ]) | (refine wpPerm_off rfl rfl (wanted_undef rfl rfl rfl) ?_; try simp only [List.setIfInBounds_toArray, List.set_cons_zero, List.set_cons_succ])))
  refine wpPerm_do rfl (wanted_free rfl) (fun K hK => ?_); go_simp
  refine (truthV _ _).mono ?_
  rintro e w5 ⟨rfl, hb_⟩
  refine hK.out _ _ (Below.trans (Below.refl _ _) hb_) ?_
  clear hK K D
  repeat ((with_reducible show wpPerm _ _ _ _ ((_, true) :: _) _ _); (first | (refine wpPerm_on (v := ?_) rfl rfl (wanted_free rfl) (fun w' hS => ?_) ?_; rotate_left; (focus (go_simp; (try with_reducible rfl); done)); try simp only [List.setIfInBounds_toArray, List.set_cons_zero, List.set_cons_succ]) | (refine wpPerm_on (v := ?_) rfl rfl (wanted_yes rfl rfl rfl) (fun w' hS => ?_) ?_; rotate_left; (focus (go_simp; (try with_reducible rfl); done)); try simp only [List.setIfInBounds_toArray, List.set_cons_zero, List.set_cons_succ]) | (refine wpPerm_off rfl rfl (wanted_no rfl rfl rfl) ?_; try simp only [List.setIfInBounds_toArray, List.set_cons_zero, List.set_cons_succ]) | (refine wpPerm_off rfl rfl (wanted_undef rfl rfl rfl) ?_; try simp only [List.setIfInBounds_toArray, List.set_cons_zero, List.set_cons_succ])))
  refine wpPerm_done ?_
  have hb6 : Below W4.heap.size W4 w5 := Below.trans (Below.refl _ _).drew hb_
  clear hb_
  clear heq heq2
  have q5 := B6.three hb6
  have hb7 := bch0 hbW4 hb6
  have q_ := (C3.ext hb7).three (Below.refl _ _)
  have f_ := (C3.ext hb7).free3
  go_wp2
  clear q_ f_
  obtain ⟨wE, hwE, BE, hbE, _, _⟩ := (C3.ext hb7).set3 (.int .i64 b.k) (.int .i64 b.n) (.string b.s)
  rw [← hwE]
  have q_ := BE.three (Below.refl _ _)
  exact bodyPost_ret (v := .agg #[.int .i64 b.k, .int .i64 b.n, .string b.s]) (by simp [results, Try.results71, go_sem, q_]) rfl ⟨rfl, Below.trans (bch0 hb5 hb7) (hbE _ (by omega))⟩
set_option maxHeartbeats 2000000 in
theorem logic7c (a b : V) (w : World) (h : vEqV a (tru false) = false) (h2 : vEqV b (tru false) = false) (h3 : (a.k == 0) = true) :
    Calls Try.prog 71 #[.int .i64 7, .agg #[.int .i64 a.k, .int .i64 a.n, .string a.s], .agg #[.int .i64 b.k, .int .i64 b.n, .string b.s]] w fun e w' => e = .returned (vv nul) ∧ Below w.heap.size w w' := by
  have heq := fun W => eqlVV a (tru false) false h W
  have heq2 := fun W => eqlVV b (tru false) false h2 W
  clear h h2
  go_enter Try.func71, Try.ntmps71
  go_wp2_with fail
  refine wp_loop_rounds 3 ?_
  rw [rounds_succ]
  go_wp2_with fail
  obtain ⟨W, hW_, hbW, B1, B2, B3, B4, B5⟩ : ∃ W_, W_ = (((((w.alloc (.cells #[.int .i64 a.k, .int .i64 a.n, .string a.s] 30)).alloc (.cells #[.int .i64 b.k, .int .i64 b.n, .string b.s] 30)).alloc (.cells #[.int .i64 0, .int .i64 0, .string ⟨#[]⟩] 30)).alloc (.cells #[.int .i64 a.k, .int .i64 a.n, .string a.s, .int .i64 b.k, .int .i64 b.n, .string b.s] 30)).alloc (.cells #[.int .i64 a.k, .int .i64 a.n, .string a.s] 30)) ∧ Below w.heap.size w W_ ∧ Blk W_ (w.heap.size) 30 #[.int .i64 a.k, .int .i64 a.n, .string a.s] ∧ Blk W_ (w.heap.size + 1) 30 #[.int .i64 b.k, .int .i64 b.n, .string b.s] ∧ Blk W_ (w.heap.size + 1 + 1) 30 #[.int .i64 0, .int .i64 0, .string ⟨#[]⟩] ∧ Blk W_ (w.heap.size + 1 + 1 + 1) 30 #[.int .i64 a.k, .int .i64 a.n, .string a.s, .int .i64 b.k, .int .i64 b.n, .string b.s] ∧ Blk W_ (w.heap.size + 1 + 1 + 1 + 1) 30 #[.int .i64 a.k, .int .i64 a.n, .string a.s] :=
    ⟨_, rfl, ((((((Below.refl _ _).alloc (Nat.le_refl _) _).alloc (by simp; try omega) _).alloc (by simp; try omega) _).alloc (by simp; try omega) _).alloc (by simp; try omega) _), (((((blk_new_at w (w.heap.size) _ _ (by simp)).alloc _).alloc _).alloc _).alloc _), ((((blk_new_at (w.alloc (.cells #[.int .i64 a.k, .int .i64 a.n, .string a.s] 30)) (w.heap.size + 1) _ _ (by simp)).alloc _).alloc _).alloc _), (((blk_new_at ((w.alloc (.cells #[.int .i64 a.k, .int .i64 a.n, .string a.s] 30)).alloc (.cells #[.int .i64 b.k, .int .i64 b.n, .string b.s] 30)) (w.heap.size + 1 + 1) _ _ (by simp)).alloc _).alloc _), ((blk_new_at (((w.alloc (.cells #[.int .i64 a.k, .int .i64 a.n, .string a.s] 30)).alloc (.cells #[.int .i64 b.k, .int .i64 b.n, .string b.s] 30)).alloc (.cells #[.int .i64 0, .int .i64 0, .string ⟨#[]⟩] 30)) (w.heap.size + 1 + 1 + 1) _ _ (by simp)).alloc _), (blk_new_at ((((w.alloc (.cells #[.int .i64 a.k, .int .i64 a.n, .string a.s] 30)).alloc (.cells #[.int .i64 b.k, .int .i64 b.n, .string b.s] 30)).alloc (.cells #[.int .i64 0, .int .i64 0, .string ⟨#[]⟩] 30)).alloc (.cells #[.int .i64 a.k, .int .i64 a.n, .string a.s, .int .i64 b.k, .int .i64 b.n, .string b.s] 30)) (w.heap.size + 1 + 1 + 1 + 1) _ _ (by simp))⟩
  rw [← hW_]
  clear hW_
  have D := fun w' (h : Below W.heap.size W.drew w') => B5.three (Below.trans (Below.refl _ _).drew h)
  refine wp_region_one [(0, true), (1, true), (2, false), (3, true)] (by kernel_rfl) (by kernel_rfl) (by kernel_rfl) (by decide) ?_
  repeat ((with_reducible show wpPerm _ _ _ _ ((_, true) :: _) _ _); (first | (refine wpPerm_on (v := ?_) rfl rfl (wanted_free rfl) (fun w' hS => ?_) ?_; rotate_left; (focus (go_simp; (try with_reducible rfl); done)); try simp only [List.setIfInBounds_toArray, List.set_cons_zero, List.set_cons_succ]) | (refine wpPerm_on (v := ?_) rfl rfl (wanted_yes rfl rfl rfl) (fun w' hS => ?_) ?_; rotate_left; (focus (go_simp; (try with_reducible rfl); done)); try simp only [List.setIfInBounds_toArray, List.set_cons_zero, List.set_cons_succ]) | (refine wpPerm_off rfl rfl (wanted_no rfl rfl rfl) ?_; try simp only [List.setIfInBounds_toArray, List.set_cons_zero, List.set_cons_succ]) | (refine wpPerm_off rfl rfl (wanted_undef rfl rfl rfl) ?_; try simp only [List.setIfInBounds_toArray, List.set_cons_zero, List.set_cons_succ])))
  refine wpPerm_do rfl (wanted_free rfl) (fun K hK => ?_); go_simp
  refine (truthV _ _).mono ?_
  rintro e w3 ⟨rfl, hb_⟩
  refine hK.out _ _ (Below.trans (Below.refl _ _) hb_) ?_
  clear hK K D
  repeat ((with_reducible show wpPerm _ _ _ _ ((_, true) :: _) _ _); (first | (refine wpPerm_on (v := ?_) rfl rfl (wanted_free rfl) (fun w' hS => ?_) ?_; rotate_left; (focus (go_simp; (try with_reducible rfl); done)); try simp only [List.setIfInBounds_toArray, List.set_cons_zero, List.set_cons_succ]) | (refine wpPerm_on (v := ?_) rfl rfl (wanted_yes rfl rfl rfl) (fun w' hS => ?_) ?_; rotate_left; (focus (go_simp; (try with_reducible rfl); done)); try simp only [List.setIfInBounds_toArray, List.set_cons_zero, List.set_cons_succ]) | (refine wpPerm_off rfl rfl (wanted_no rfl rfl rfl) ?_; try simp only [List.setIfInBounds_toArray, List.set_cons_zero, List.set_cons_succ]) | (refine wpPerm_off rfl rfl (wanted_undef rfl rfl rfl) ?_; try simp only [List.setIfInBounds_toArray, List.set_cons_zero, List.set_cons_succ])))
  refine wpPerm_done ?_
  have hb4 : Below W.heap.size W w3 := Below.trans (Below.refl _ _).drew hb_
  clear hb_
  have q4 : w3.cell? ⟨w.heap.size + 1 + 1 + 1, 3, none⟩ = some (.int .i64 b.k) ∧ w3.cell? ⟨w.heap.size + 1 + 1 + 1, 4, none⟩ = some (.int .i64 b.n) ∧ w3.cell? ⟨w.heap.size + 1 + 1 + 1, 5, none⟩ = some (.string b.s) := ⟨(B4.ext hb4).cell 3, (B4.ext hb4).cell 4, (B4.ext hb4).cell 5⟩
  have hb5 := bch0 hbW hb4
  go_wp2_with fail
  rw [rounds_succ]
  go_wp2_with fail
  clear q4
  have C1 := B1.ext hb4
  have C2 := B2.ext hb4
  have C3 := B3.ext hb4
  have hN3 := hb5.size
  have hN4 : w.heap.size + 1 + 1 < w3.heap.size := C3.lt
  clear B1 B2 B3 B4 B5 hbW hb4
  obtain ⟨n3, hn3⟩ : ∃ n3, n3 = w3.heap.size := ⟨_, rfl⟩
  obtain ⟨W4, hW4, hbW4, B6⟩ : ∃ W_, W_ = w3.alloc (.cells #[.int .i64 b.k, .int .i64 b.n, .string b.s] 30) ∧ Below w3.heap.size w3 W_ ∧ Blk W_ w3.heap.size 30 #[.int .i64 b.k, .int .i64 b.n, .string b.s] := ⟨_, rfl, (Below.refl _ _).alloc (Nat.le_refl _) _, Blk.new _ _ _⟩
  rw [← hW4]
  clear hW4 hn3 n3
  have D := fun w' (h : Below W4.heap.size W4.drew w') => B6.three (Below.trans (Below.refl _ _).drew h)
  refine wp_region_one [(0, true), (1, true), (2, false), (3, true)] (by kernel_rfl) (by kernel_rfl) (by kernel_rfl) (by decide) ?_
  repeat ((with_reducible show wpPerm _ _ _ _ ((_, true) :: _) _ _); (first | (refine wpPerm_on (v := ?_) rfl rfl (wanted_free rfl) (fun w' hS => ?_) ?_; rotate_left; (focus (go_simp; (try with_reducible rfl); done)); try simp only [List.setIfInBounds_toArray, List.set_cons_zero, List.set_cons_succ]) | (refine wpPerm_on (v := ?_) rfl rfl (wanted_yes rfl rfl rfl) (fun w' hS => ?_) ?_; rotate_left; (focus (go_simp; (try with_reducible rfl); done)); try simp only [List.setIfInBounds_toArray, List.set_cons_zero, List.set_cons_succ]) | (refine wpPerm_off rfl rfl (wanted_no rfl rfl rfl) ?_; try simp only [List.setIfInBounds_toArray, List.set_cons_zero, List.set_cons_succ]) | (refine wpPerm_off rfl rfl (wanted_undef rfl rfl rfl) ?_; try simp only [List.setIfInBounds_toArray, List.set_cons_zero, List.set_cons_succ])))
  refine wpPerm_do rfl (wanted_free rfl) (fun K hK => ?_); go_simp
  refine (truthV _ _).mono ?_
  rintro e w5 ⟨rfl, hb_⟩
  refine hK.out _ _ (Below.trans (Below.refl _ _) hb_) ?_
  clear hK K D
  repeat ((with_reducible show wpPerm _ _ _ _ ((_, true) :: _) _ _); (first | (refine wpPerm_on (v := ?_) rfl rfl (wanted_free rfl) (fun w' hS => ?_) ?_; rotate_left; (focus (go_simp; (try with_reducible rfl); done)); try simp only [List.setIfInBounds_toArray, List.set_cons_zero, List.set_cons_succ]) | (refine wpPerm_on (v := ?_) rfl rfl (wanted_yes rfl rfl rfl) (fun w' hS => ?_) ?_; rotate_left; (focus (go_simp; (try with_reducible rfl); done)); try simp only [List.setIfInBounds_toArray, List.set_cons_zero, List.set_cons_succ]) | (refine wpPerm_off rfl rfl (wanted_no rfl rfl rfl) ?_; try simp only [List.setIfInBounds_toArray, List.set_cons_zero, List.set_cons_succ]) | (refine wpPerm_off rfl rfl (wanted_undef rfl rfl rfl) ?_; try simp only [List.setIfInBounds_toArray, List.set_cons_zero, List.set_cons_succ])))
  refine wpPerm_done ?_
  have hb6 : Below W4.heap.size W4 w5 := Below.trans (Below.refl _ _).drew hb_
  clear hb_
  clear heq heq2
  have hb7 := bch0 hbW4 hb6
  have C1 := C1.ext hb7
  have C2 := C2.ext hb7
  have C3 := C3.ext hb7
  have hb8 := bch0 hb5 hb7
  clear B6 hb7 hbW4 hb6 hb5
  go_wp2_with fail
  rw [rounds_succ]
  have q1 := C1.three (Below.refl _ _)
  go_wp2_with fail
  clear q1
  refine (nullV a true h3 _).mono ?_
  rintro e w6 ⟨rfl, hb9⟩
  have q_ := (C3.ext hb9).three (Below.refl _ _)
  have f_ := (C3.ext hb9).free3
  go_wp2
  clear q_ f_
  obtain ⟨wE, hwE, BE, hbE, _, _⟩ := (C3.ext hb9).set3 (.int .i64 0) (.int .i64 0) (.string ⟨#[]⟩)
  rw [← hwE]
  have q_ := BE.three (Below.refl _ _)
  exact bodyPost_ret (v := .agg #[.int .i64 0, .int .i64 0, .string ⟨#[]⟩]) (by simp [results, Try.results71, go_sem, q_]) rfl ⟨rfl, Below.trans (bch0 hb8 hb9) (hbE _ (by omega))⟩
set_option maxHeartbeats 2000000 in
theorem logic7d (a b : V) (w : World) (h : vEqV a (tru false) = false) (h2 : vEqV b (tru false) = false) (h3 : (a.k == 0) = false) (h4 : (b.k == 0) = true) :
    Calls Try.prog 71 #[.int .i64 7, .agg #[.int .i64 a.k, .int .i64 a.n, .string a.s], .agg #[.int .i64 b.k, .int .i64 b.n, .string b.s]] w fun e w' => e = .returned (vv nul) ∧ Below w.heap.size w w' := by
  have heq := fun W => eqlVV a (tru false) false h W
  have heq2 := fun W => eqlVV b (tru false) false h2 W
  clear h h2
  go_enter Try.func71, Try.ntmps71
  go_wp2_with fail
  refine wp_loop_rounds 3 ?_
  rw [rounds_succ]
  go_wp2_with fail
  obtain ⟨W, hW_, hbW, B1, B2, B3, B4, B5⟩ : ∃ W_, W_ = (((((w.alloc (.cells #[.int .i64 a.k, .int .i64 a.n, .string a.s] 30)).alloc (.cells #[.int .i64 b.k, .int .i64 b.n, .string b.s] 30)).alloc (.cells #[.int .i64 0, .int .i64 0, .string ⟨#[]⟩] 30)).alloc (.cells #[.int .i64 a.k, .int .i64 a.n, .string a.s, .int .i64 b.k, .int .i64 b.n, .string b.s] 30)).alloc (.cells #[.int .i64 a.k, .int .i64 a.n, .string a.s] 30)) ∧ Below w.heap.size w W_ ∧ Blk W_ (w.heap.size) 30 #[.int .i64 a.k, .int .i64 a.n, .string a.s] ∧ Blk W_ (w.heap.size + 1) 30 #[.int .i64 b.k, .int .i64 b.n, .string b.s] ∧ Blk W_ (w.heap.size + 1 + 1) 30 #[.int .i64 0, .int .i64 0, .string ⟨#[]⟩] ∧ Blk W_ (w.heap.size + 1 + 1 + 1) 30 #[.int .i64 a.k, .int .i64 a.n, .string a.s, .int .i64 b.k, .int .i64 b.n, .string b.s] ∧ Blk W_ (w.heap.size + 1 + 1 + 1 + 1) 30 #[.int .i64 a.k, .int .i64 a.n, .string a.s] :=
    ⟨_, rfl, ((((((Below.refl _ _).alloc (Nat.le_refl _) _).alloc (by simp; try omega) _).alloc (by simp; try omega) _).alloc (by simp; try omega) _).alloc (by simp; try omega) _), (((((blk_new_at w (w.heap.size) _ _ (by simp)).alloc _).alloc _).alloc _).alloc _), ((((blk_new_at (w.alloc (.cells #[.int .i64 a.k, .int .i64 a.n, .string a.s] 30)) (w.heap.size + 1) _ _ (by simp)).alloc _).alloc _).alloc _), (((blk_new_at ((w.alloc (.cells #[.int .i64 a.k, .int .i64 a.n, .string a.s] 30)).alloc (.cells #[.int .i64 b.k, .int .i64 b.n, .string b.s] 30)) (w.heap.size + 1 + 1) _ _ (by simp)).alloc _).alloc _), ((blk_new_at (((w.alloc (.cells #[.int .i64 a.k, .int .i64 a.n, .string a.s] 30)).alloc (.cells #[.int .i64 b.k, .int .i64 b.n, .string b.s] 30)).alloc (.cells #[.int .i64 0, .int .i64 0, .string ⟨#[]⟩] 30)) (w.heap.size + 1 + 1 + 1) _ _ (by simp)).alloc _), (blk_new_at ((((w.alloc (.cells #[.int .i64 a.k, .int .i64 a.n, .string a.s] 30)).alloc (.cells #[.int .i64 b.k, .int .i64 b.n, .string b.s] 30)).alloc (.cells #[.int .i64 0, .int .i64 0, .string ⟨#[]⟩] 30)).alloc (.cells #[.int .i64 a.k, .int .i64 a.n, .string a.s, .int .i64 b.k, .int .i64 b.n, .string b.s] 30)) (w.heap.size + 1 + 1 + 1 + 1) _ _ (by simp))⟩
  rw [← hW_]
  clear hW_
  have D := fun w' (h : Below W.heap.size W.drew w') => B5.three (Below.trans (Below.refl _ _).drew h)
  refine wp_region_one [(0, true), (1, true), (2, false), (3, true)] (by kernel_rfl) (by kernel_rfl) (by kernel_rfl) (by decide) ?_
  repeat ((with_reducible show wpPerm _ _ _ _ ((_, true) :: _) _ _); (first | (refine wpPerm_on (v := ?_) rfl rfl (wanted_free rfl) (fun w' hS => ?_) ?_; rotate_left; (focus (go_simp; (try with_reducible rfl); done)); try simp only [List.setIfInBounds_toArray, List.set_cons_zero, List.set_cons_succ]) | (refine wpPerm_on (v := ?_) rfl rfl (wanted_yes rfl rfl rfl) (fun w' hS => ?_) ?_; rotate_left; (focus (go_simp; (try with_reducible rfl); done)); try simp only [List.setIfInBounds_toArray, List.set_cons_zero, List.set_cons_succ]) | (refine wpPerm_off rfl rfl (wanted_no rfl rfl rfl) ?_; try simp only [List.setIfInBounds_toArray, List.set_cons_zero, List.set_cons_succ]) | (refine wpPerm_off rfl rfl (wanted_undef rfl rfl rfl) ?_; try simp only [List.setIfInBounds_toArray, List.set_cons_zero, List.set_cons_succ])))
  refine wpPerm_do rfl (wanted_free rfl) (fun K hK => ?_); go_simp
  refine (truthV _ _).mono ?_
  rintro e w3 ⟨rfl, hb_⟩
  refine hK.out _ _ (Below.trans (Below.refl _ _) hb_) ?_
  clear hK K D
  repeat ((with_reducible show wpPerm _ _ _ _ ((_, true) :: _) _ _); (first | (refine wpPerm_on (v := ?_) rfl rfl (wanted_free rfl) (fun w' hS => ?_) ?_; rotate_left; (focus (go_simp; (try with_reducible rfl); done)); try simp only [List.setIfInBounds_toArray, List.set_cons_zero, List.set_cons_succ]) | (refine wpPerm_on (v := ?_) rfl rfl (wanted_yes rfl rfl rfl) (fun w' hS => ?_) ?_; rotate_left; (focus (go_simp; (try with_reducible rfl); done)); try simp only [List.setIfInBounds_toArray, List.set_cons_zero, List.set_cons_succ]) | (refine wpPerm_off rfl rfl (wanted_no rfl rfl rfl) ?_; try simp only [List.setIfInBounds_toArray, List.set_cons_zero, List.set_cons_succ]) | (refine wpPerm_off rfl rfl (wanted_undef rfl rfl rfl) ?_; try simp only [List.setIfInBounds_toArray, List.set_cons_zero, List.set_cons_succ])))
  refine wpPerm_done ?_
  have hb4 : Below W.heap.size W w3 := Below.trans (Below.refl _ _).drew hb_
  clear hb_
  have q4 : w3.cell? ⟨w.heap.size + 1 + 1 + 1, 3, none⟩ = some (.int .i64 b.k) ∧ w3.cell? ⟨w.heap.size + 1 + 1 + 1, 4, none⟩ = some (.int .i64 b.n) ∧ w3.cell? ⟨w.heap.size + 1 + 1 + 1, 5, none⟩ = some (.string b.s) := ⟨(B4.ext hb4).cell 3, (B4.ext hb4).cell 4, (B4.ext hb4).cell 5⟩
  have hb5 := bch0 hbW hb4
  go_wp2_with fail
  rw [rounds_succ]
  go_wp2_with fail
  clear q4
  have C1 := B1.ext hb4
  have C2 := B2.ext hb4
  have C3 := B3.ext hb4
  have hN3 := hb5.size
  have hN4 : w.heap.size + 1 + 1 < w3.heap.size := C3.lt
  clear B1 B2 B3 B4 B5 hbW hb4
  obtain ⟨n3, hn3⟩ : ∃ n3, n3 = w3.heap.size := ⟨_, rfl⟩
  obtain ⟨W4, hW4, hbW4, B6⟩ : ∃ W_, W_ = w3.alloc (.cells #[.int .i64 b.k, .int .i64 b.n, .string b.s] 30) ∧ Below w3.heap.size w3 W_ ∧ Blk W_ w3.heap.size 30 #[.int .i64 b.k, .int .i64 b.n, .string b.s] := ⟨_, rfl, (Below.refl _ _).alloc (Nat.le_refl _) _, Blk.new _ _ _⟩
  rw [← hW4]
  clear hW4 hn3 n3
  have D := fun w' (h : Below W4.heap.size W4.drew w') => B6.three (Below.trans (Below.refl _ _).drew h)
  refine wp_region_one [(0, true), (1, true), (2, false), (3, true)] (by kernel_rfl) (by kernel_rfl) (by kernel_rfl) (by decide) ?_
  repeat ((with_reducible show wpPerm _ _ _ _ ((_, true) :: _) _ _); (first | (refine wpPerm_on (v := ?_) rfl rfl (wanted_free rfl) (fun w' hS => ?_) ?_; rotate_left; (focus (go_simp; (try with_reducible rfl); done)); try simp only [List.setIfInBounds_toArray, List.set_cons_zero, List.set_cons_succ]) | (refine wpPerm_on (v := ?_) rfl rfl (wanted_yes rfl rfl rfl) (fun w' hS => ?_) ?_; rotate_left; (focus (go_simp; (try with_reducible rfl); done)); try simp only [List.setIfInBounds_toArray, List.set_cons_zero, List.set_cons_succ]) | (refine wpPerm_off rfl rfl (wanted_no rfl rfl rfl) ?_; try simp only [List.setIfInBounds_toArray, List.set_cons_zero, List.set_cons_succ]) | (refine wpPerm_off rfl rfl (wanted_undef rfl rfl rfl) ?_; try simp only [List.setIfInBounds_toArray, List.set_cons_zero, List.set_cons_succ])))
  refine wpPerm_do rfl (wanted_free rfl) (fun K hK => ?_); go_simp
  refine (truthV _ _).mono ?_
  rintro e w5 ⟨rfl, hb_⟩
  refine hK.out _ _ (Below.trans (Below.refl _ _) hb_) ?_
  clear hK K D
  repeat ((with_reducible show wpPerm _ _ _ _ ((_, true) :: _) _ _); (first | (refine wpPerm_on (v := ?_) rfl rfl (wanted_free rfl) (fun w' hS => ?_) ?_; rotate_left; (focus (go_simp; (try with_reducible rfl); done)); try simp only [List.setIfInBounds_toArray, List.set_cons_zero, List.set_cons_succ]) | (refine wpPerm_on (v := ?_) rfl rfl (wanted_yes rfl rfl rfl) (fun w' hS => ?_) ?_; rotate_left; (focus (go_simp; (try with_reducible rfl); done)); try simp only [List.setIfInBounds_toArray, List.set_cons_zero, List.set_cons_succ]) | (refine wpPerm_off rfl rfl (wanted_no rfl rfl rfl) ?_; try simp only [List.setIfInBounds_toArray, List.set_cons_zero, List.set_cons_succ]) | (refine wpPerm_off rfl rfl (wanted_undef rfl rfl rfl) ?_; try simp only [List.setIfInBounds_toArray, List.set_cons_zero, List.set_cons_succ])))
  refine wpPerm_done ?_
  have hb6 : Below W4.heap.size W4 w5 := Below.trans (Below.refl _ _).drew hb_
  clear hb_
  clear heq heq2
  have hb7 := bch0 hbW4 hb6
  have C1 := C1.ext hb7
  have C2 := C2.ext hb7
  have C3 := C3.ext hb7
  have hb8 := bch0 hb5 hb7
  clear B6 hb7 hbW4 hb6 hb5
  go_wp2_with fail
  rw [rounds_succ]
  have q1 := C1.three (Below.refl _ _)
  go_wp2_with fail
  clear q1
  refine (nullV a false h3 _).mono ?_
  rintro e w6 ⟨rfl, hb9⟩
  have q2 := C2.three hb9
  go_wp2_with fail
  clear q2
  refine (nullV b true h4 _).mono ?_
  rintro e w7 ⟨rfl, hb10⟩
  have hb9 := bch0 hb9 hb10
  have q_ := (C3.ext hb9).three (Below.refl _ _)
  have f_ := (C3.ext hb9).free3
  go_wp2
  clear q_ f_
  obtain ⟨wE, hwE, BE, hbE, _, _⟩ := (C3.ext hb9).set3 (.int .i64 0) (.int .i64 0) (.string ⟨#[]⟩)
  rw [← hwE]
  have q_ := BE.three (Below.refl _ _)
  exact bodyPost_ret (v := .agg #[.int .i64 0, .int .i64 0, .string ⟨#[]⟩]) (by simp [results, Try.results71, go_sem, q_]) rfl ⟨rfl, Below.trans (bch0 hb8 hb9) (hbE _ (by omega))⟩
set_option maxHeartbeats 2000000 in
theorem logic7e (a b : V) (w : World) (h : vEqV a (tru false) = false) (h2 : vEqV b (tru false) = false) (h3 : (a.k == 0) = false) (h4 : (b.k == 0) = false) :
    Calls Try.prog 71 #[.int .i64 7, .agg #[.int .i64 a.k, .int .i64 a.n, .string a.s], .agg #[.int .i64 b.k, .int .i64 b.n, .string b.s]] w fun e w' => e = .returned (vv (tru true)) ∧ Below w.heap.size w w' := by
  have heq := fun W => eqlVV a (tru false) false h W
  have heq2 := fun W => eqlVV b (tru false) false h2 W
  clear h h2
  go_enter Try.func71, Try.ntmps71
  go_wp2_with fail
  refine wp_loop_rounds 3 ?_
  rw [rounds_succ]
  go_wp2_with fail
  obtain ⟨W, hW_, hbW, B1, B2, B3, B4, B5⟩ : ∃ W_, W_ = (((((w.alloc (.cells #[.int .i64 a.k, .int .i64 a.n, .string a.s] 30)).alloc (.cells #[.int .i64 b.k, .int .i64 b.n, .string b.s] 30)).alloc (.cells #[.int .i64 0, .int .i64 0, .string ⟨#[]⟩] 30)).alloc (.cells #[.int .i64 a.k, .int .i64 a.n, .string a.s, .int .i64 b.k, .int .i64 b.n, .string b.s] 30)).alloc (.cells #[.int .i64 a.k, .int .i64 a.n, .string a.s] 30)) ∧ Below w.heap.size w W_ ∧ Blk W_ (w.heap.size) 30 #[.int .i64 a.k, .int .i64 a.n, .string a.s] ∧ Blk W_ (w.heap.size + 1) 30 #[.int .i64 b.k, .int .i64 b.n, .string b.s] ∧ Blk W_ (w.heap.size + 1 + 1) 30 #[.int .i64 0, .int .i64 0, .string ⟨#[]⟩] ∧ Blk W_ (w.heap.size + 1 + 1 + 1) 30 #[.int .i64 a.k, .int .i64 a.n, .string a.s, .int .i64 b.k, .int .i64 b.n, .string b.s] ∧ Blk W_ (w.heap.size + 1 + 1 + 1 + 1) 30 #[.int .i64 a.k, .int .i64 a.n, .string a.s] :=
    ⟨_, rfl, ((((((Below.refl _ _).alloc (Nat.le_refl _) _).alloc (by simp; try omega) _).alloc (by simp; try omega) _).alloc (by simp; try omega) _).alloc (by simp; try omega) _), (((((blk_new_at w (w.heap.size) _ _ (by simp)).alloc _).alloc _).alloc _).alloc _), ((((blk_new_at (w.alloc (.cells #[.int .i64 a.k, .int .i64 a.n, .string a.s] 30)) (w.heap.size + 1) _ _ (by simp)).alloc _).alloc _).alloc _), (((blk_new_at ((w.alloc (.cells #[.int .i64 a.k, .int .i64 a.n, .string a.s] 30)).alloc (.cells #[.int .i64 b.k, .int .i64 b.n, .string b.s] 30)) (w.heap.size + 1 + 1) _ _ (by simp)).alloc _).alloc _), ((blk_new_at (((w.alloc (.cells #[.int .i64 a.k, .int .i64 a.n, .string a.s] 30)).alloc (.cells #[.int .i64 b.k, .int .i64 b.n, .string b.s] 30)).alloc (.cells #[.int .i64 0, .int .i64 0, .string ⟨#[]⟩] 30)) (w.heap.size + 1 + 1 + 1) _ _ (by simp)).alloc _), (blk_new_at ((((w.alloc (.cells #[.int .i64 a.k, .int .i64 a.n, .string a.s] 30)).alloc (.cells #[.int .i64 b.k, .int .i64 b.n, .string b.s] 30)).alloc (.cells #[.int .i64 0, .int .i64 0, .string ⟨#[]⟩] 30)).alloc (.cells #[.int .i64 a.k, .int .i64 a.n, .string a.s, .int .i64 b.k, .int .i64 b.n, .string b.s] 30)) (w.heap.size + 1 + 1 + 1 + 1) _ _ (by simp))⟩
  rw [← hW_]
  clear hW_
  have D := fun w' (h : Below W.heap.size W.drew w') => B5.three (Below.trans (Below.refl _ _).drew h)
  refine wp_region_one [(0, true), (1, true), (2, false), (3, true)] (by kernel_rfl) (by kernel_rfl) (by kernel_rfl) (by decide) ?_
  repeat ((with_reducible show wpPerm _ _ _ _ ((_, true) :: _) _ _); (first | (refine wpPerm_on (v := ?_) rfl rfl (wanted_free rfl) (fun w' hS => ?_) ?_; rotate_left; (focus (go_simp; (try with_reducible rfl); done)); try simp only [List.setIfInBounds_toArray, List.set_cons_zero, List.set_cons_succ]) | (refine wpPerm_on (v := ?_) rfl rfl (wanted_yes rfl rfl rfl) (fun w' hS => ?_) ?_; rotate_left; (focus (go_simp; (try with_reducible rfl); done)); try simp only [List.setIfInBounds_toArray, List.set_cons_zero, List.set_cons_succ]) | (refine wpPerm_off rfl rfl (wanted_no rfl rfl rfl) ?_; try simp only [List.setIfInBounds_toArray, List.set_cons_zero, List.set_cons_succ]) | (refine wpPerm_off rfl rfl (wanted_undef rfl rfl rfl) ?_; try simp only [List.setIfInBounds_toArray, List.set_cons_zero, List.set_cons_succ])))
  refine wpPerm_do rfl (wanted_free rfl) (fun K hK => ?_); go_simp
  refine (truthV _ _).mono ?_
  rintro e w3 ⟨rfl, hb_⟩
  refine hK.out _ _ (Below.trans (Below.refl _ _) hb_) ?_
  clear hK K D
  repeat ((with_reducible show wpPerm _ _ _ _ ((_, true) :: _) _ _); (first | (refine wpPerm_on (v := ?_) rfl rfl (wanted_free rfl) (fun w' hS => ?_) ?_; rotate_left; (focus (go_simp; (try with_reducible rfl); done)); try simp only [List.setIfInBounds_toArray, List.set_cons_zero, List.set_cons_succ]) | (refine wpPerm_on (v := ?_) rfl rfl (wanted_yes rfl rfl rfl) (fun w' hS => ?_) ?_; rotate_left; (focus (go_simp; (try with_reducible rfl); done)); try simp only [List.setIfInBounds_toArray, List.set_cons_zero, List.set_cons_succ]) | (refine wpPerm_off rfl rfl (wanted_no rfl rfl rfl) ?_; try simp only [List.setIfInBounds_toArray, List.set_cons_zero, List.set_cons_succ]) | (refine wpPerm_off rfl rfl (wanted_undef rfl rfl rfl) ?_; try simp only [List.setIfInBounds_toArray, List.set_cons_zero, List.set_cons_succ])))
  refine wpPerm_done ?_
  have hb4 : Below W.heap.size W w3 := Below.trans (Below.refl _ _).drew hb_
  clear hb_
  have q4 : w3.cell? ⟨w.heap.size + 1 + 1 + 1, 3, none⟩ = some (.int .i64 b.k) ∧ w3.cell? ⟨w.heap.size + 1 + 1 + 1, 4, none⟩ = some (.int .i64 b.n) ∧ w3.cell? ⟨w.heap.size + 1 + 1 + 1, 5, none⟩ = some (.string b.s) := ⟨(B4.ext hb4).cell 3, (B4.ext hb4).cell 4, (B4.ext hb4).cell 5⟩
  have hb5 := bch0 hbW hb4
  go_wp2_with fail
  rw [rounds_succ]
  go_wp2_with fail
  clear q4
  have C1 := B1.ext hb4
  have C2 := B2.ext hb4
  have C3 := B3.ext hb4
  have hN3 := hb5.size
  have hN4 : w.heap.size + 1 + 1 < w3.heap.size := C3.lt
  clear B1 B2 B3 B4 B5 hbW hb4
  obtain ⟨n3, hn3⟩ : ∃ n3, n3 = w3.heap.size := ⟨_, rfl⟩
  obtain ⟨W4, hW4, hbW4, B6⟩ : ∃ W_, W_ = w3.alloc (.cells #[.int .i64 b.k, .int .i64 b.n, .string b.s] 30) ∧ Below w3.heap.size w3 W_ ∧ Blk W_ w3.heap.size 30 #[.int .i64 b.k, .int .i64 b.n, .string b.s] := ⟨_, rfl, (Below.refl _ _).alloc (Nat.le_refl _) _, Blk.new _ _ _⟩
  rw [← hW4]
  clear hW4 hn3 n3
  have D := fun w' (h : Below W4.heap.size W4.drew w') => B6.three (Below.trans (Below.refl _ _).drew h)
  refine wp_region_one [(0, true), (1, true), (2, false), (3, true)] (by kernel_rfl) (by kernel_rfl) (by kernel_rfl) (by decide) ?_
  repeat ((with_reducible show wpPerm _ _ _ _ ((_, true) :: _) _ _); (first | (refine wpPerm_on (v := ?_) rfl rfl (wanted_free rfl) (fun w' hS => ?_) ?_; rotate_left; (focus (go_simp; (try with_reducible rfl); done)); try simp only [List.setIfInBounds_toArray, List.set_cons_zero, List.set_cons_succ]) | (refine wpPerm_on (v := ?_) rfl rfl (wanted_yes rfl rfl rfl) (fun w' hS => ?_) ?_; rotate_left; (focus (go_simp; (try with_reducible rfl); done)); try simp only [List.setIfInBounds_toArray, List.set_cons_zero, List.set_cons_succ]) | (refine wpPerm_off rfl rfl (wanted_no rfl rfl rfl) ?_; try simp only [List.setIfInBounds_toArray, List.set_cons_zero, List.set_cons_succ]) | (refine wpPerm_off rfl rfl (wanted_undef rfl rfl rfl) ?_; try simp only [List.setIfInBounds_toArray, List.set_cons_zero, List.set_cons_succ])))
  refine wpPerm_do rfl (wanted_free rfl) (fun K hK => ?_); go_simp
  refine (truthV _ _).mono ?_
  rintro e w5 ⟨rfl, hb_⟩
  refine hK.out _ _ (Below.trans (Below.refl _ _) hb_) ?_
  clear hK K D
  repeat ((with_reducible show wpPerm _ _ _ _ ((_, true) :: _) _ _); (first | (refine wpPerm_on (v := ?_) rfl rfl (wanted_free rfl) (fun w' hS => ?_) ?_; rotate_left; (focus (go_simp; (try with_reducible rfl); done)); try simp only [List.setIfInBounds_toArray, List.set_cons_zero, List.set_cons_succ]) | (refine wpPerm_on (v := ?_) rfl rfl (wanted_yes rfl rfl rfl) (fun w' hS => ?_) ?_; rotate_left; (focus (go_simp; (try with_reducible rfl); done)); try simp only [List.setIfInBounds_toArray, List.set_cons_zero, List.set_cons_succ]) | (refine wpPerm_off rfl rfl (wanted_no rfl rfl rfl) ?_; try simp only [List.setIfInBounds_toArray, List.set_cons_zero, List.set_cons_succ]) | (refine wpPerm_off rfl rfl (wanted_undef rfl rfl rfl) ?_; try simp only [List.setIfInBounds_toArray, List.set_cons_zero, List.set_cons_succ])))
  refine wpPerm_done ?_
  have hb6 : Below W4.heap.size W4 w5 := Below.trans (Below.refl _ _).drew hb_
  clear hb_
  clear heq heq2
  have hb7 := bch0 hbW4 hb6
  have C1 := C1.ext hb7
  have C2 := C2.ext hb7
  have C3 := C3.ext hb7
  have hb8 := bch0 hb5 hb7
  clear B6 hb7 hbW4 hb6 hb5
  go_wp2_with fail
  rw [rounds_succ]
  have q1 := C1.three (Below.refl _ _)
  go_wp2_with fail
  clear q1
  refine (nullV a false h3 _).mono ?_
  rintro e w6 ⟨rfl, hb9⟩
  have q2 := C2.three hb9
  go_wp2_with fail
  clear q2
  refine (nullV b false h4 _).mono ?_
  rintro e w7 ⟨rfl, hb10⟩
  have hb9 := bch0 hb9 hb10
  go_wp2_with fail
  refine (truthV true _).mono ?_
  rintro e w8 ⟨rfl, hb11⟩
  have hb9 := bch0 hb9 hb11
  have q_ := (C3.ext hb9).three (Below.refl _ _)
  have f_ := (C3.ext hb9).free3
  go_wp2
  clear q_ f_
  obtain ⟨wE, hwE, BE, hbE, _, _⟩ := (C3.ext hb9).set3 (.int .i64 (tru true).k) (.int .i64 (tru true).n) (.string (tru true).s)
  rw [← hwE]
  have q_ := BE.three (Below.refl _ _)
  exact bodyPost_ret (v := .agg #[.int .i64 (tru true).k, .int .i64 (tru true).n, .string (tru true).s]) (by simp [results, Try.results71, go_sem, q_]) rfl ⟨rfl, Below.trans (bch0 hb8 hb9) (hbE _ (by omega))⟩

theorem logic7 (a b : V) (w : World) :
    Calls Try.prog 71 #[.int .i64 7, .agg #[.int .i64 a.k, .int .i64 a.n, .string a.s], .agg #[.int .i64 b.k, .int .i64 b.n, .string b.s]] w fun e w' => e = .returned (vv (logicV false a b)) ∧ Below w.heap.size w w' := by
  unfold logicV
  cases h : vEqV a (tru false) with
  | true => rw [if_pos rfl]; exact logic7a a b w h
  | false =>
    rw [if_neg (by simp)]
    cases h2 : vEqV b (tru false) with
    | true => rw [if_pos rfl]; exact logic7b a b w h h2
    | false =>
      rw [if_neg (by simp)]
      cases h3 : a.k == 0 with
      | true => rw [if_pos (.inl (by simpa using h3))]; exact logic7c a b w h h2 h3
      | false =>
        cases h4 : b.k == 0 with
        | true => rw [if_pos (.inr (by simpa using h4))]; exact logic7d a b w h h2 h3 h4
        | false => rw [if_neg (by simp at h3 h4; omega)]; exact logic7e a b w h h2 h3 h4
end Go.Proofs.Ytfgmlgflfagdjaa.ev
