/- Contract: pair. (Printed by gen3.py.) -/
import Derived.Test.YtfgmlgflfagdjaaE2
namespace Go.Proofs.Ytfgmlgflfagdjaa.ev
open Go.ChangeShapes Go.WideShapes Go.ChangeAt Go.RowKit Go.Proofs.Ytfgmlgflfagdjaa.lib Go.Proofs.Ytfgmlgflfagdjaa.val
set_option linter.unusedVariables false

theorem compareVc (a b : V) (c : Int) (hc : cmpV a b = c) (w : World) :
    Calls Try.prog 72 #[.agg #[.int .i64 a.k, .int .i64 a.n, .string a.s], .agg #[.int .i64 b.k, .int .i64 b.n, .string b.s]] w fun e w' => e = .returned (.int .i64 c) ∧ Below w.heap.size w w' := by
  subst hc
  exact compare a.k a.n a.s b.k b.n b.s w
def opcode (op c n : Int) : Bool := if op = 3 then n == 0 else if op = 8 then c == 0 else if op = 9 then c != 0 else if op = 10 then decide (c < 0) else if op = 11 then decide (c ≤ 0) else if op = 12 then decide (0 < c) else decide (0 ≤ c)
instance (n : Int) : Decidable (ok64 n) := by unfold ok64; exact inferInstance
/-- what a node makes of two values; none: beyond the bounds -/
def pairV (op : Int) (a b : V) : Option V :=
  if op = 5 then some (tru (a.k == 0)) else if op = 6 then some (logicV true a b) else if op = 7 then some (logicV false a b) else if a.k = 0 ∨ b.k = 0 then some nul else
  if op = 3 ∨ (8 ≤ op ∧ op ≤ 13) then some (tru (opcode op (cmpV a b) a.n)) else if ok64 (nres op a.n b.n) then some ⟨2, nres op a.n b.n, ByteArray.empty⟩ else none
theorem logicVr (d : Bool) (op : Int) (hop : (op = 6 ∧ d = true) ∨ (op = 7 ∧ d = false)) (a b : V) (w : World) :
    Calls Try.prog 71 #[.int .i64 op, .agg #[.int .i64 a.k, .int .i64 a.n, .string a.s], .agg #[.int .i64 b.k, .int .i64 b.n, .string b.s]] w fun e w' => e = .returned (.agg #[.int .i64 (logicV d a b).k, .int .i64 (logicV d a b).n, .string (logicV d a b).s]) ∧ Below w.heap.size w w' := by
  rcases hop with ⟨rfl, rfl⟩ | ⟨rfl, rfl⟩
  · exact logic6 a b w
  · exact logic7 a b w
set_option maxHeartbeats 1000000 in
theorem pair5 (a b : V) (w : World)  :
    Calls Try.prog 52 #[.int .i64 5, .agg #[.int .i64 a.k, .int .i64 a.n, .string a.s], .agg #[.int .i64 b.k, .int .i64 b.n, .string b.s]] w fun e w' => e = .returned (vv (tru (a.k == 0))) ∧ Below w.heap.size w w' := by
  go_enter Try.func52, Try.ntmps52
  go_wp2_with fail
  obtain ⟨W, hW_, hbW, B1, B2, B3⟩ : ∃ W_, W_ = (((w.alloc (.cells #[.int .i64 a.k, .int .i64 a.n, .string a.s] 30)).alloc (.cells #[.int .i64 b.k, .int .i64 b.n, .string b.s] 30)).alloc (.cells #[.int .i64 0, .int .i64 0, .string ⟨#[]⟩] 30)) ∧ Below w.heap.size w W_ ∧ Blk W_ (w.heap.size) 30 #[.int .i64 a.k, .int .i64 a.n, .string a.s] ∧ Blk W_ (w.heap.size + 1) 30 #[.int .i64 b.k, .int .i64 b.n, .string b.s] ∧ Blk W_ (w.heap.size + 1 + 1) 30 #[.int .i64 0, .int .i64 0, .string ⟨#[]⟩] :=
    ⟨_, rfl, ((((Below.refl _ _).alloc (Nat.le_refl _) _).alloc (by simp; try omega) _).alloc (by simp; try omega) _), (((blk_new_at w (w.heap.size) _ _ (by simp)).alloc _).alloc _), ((blk_new_at (w.alloc (.cells #[.int .i64 a.k, .int .i64 a.n, .string a.s] 30)) (w.heap.size + 1) _ _ (by simp)).alloc _), (blk_new_at ((w.alloc (.cells #[.int .i64 a.k, .int .i64 a.n, .string a.s] 30)).alloc (.cells #[.int .i64 b.k, .int .i64 b.n, .string b.s] 30)) (w.heap.size + 1 + 1) _ _ (by simp))⟩
  rw [← hW_]
  clear hW_
  refine (nullV a _ rfl _).mono ?_
  rintro e w3 ⟨rfl, hb3⟩
  go_wp2_with fail
  refine (truthV _ _).mono ?_
  rintro e w4 ⟨rfl, hb4⟩
  have hb4 := bch0 hb3 hb4
  have q_ := (B3.ext hb4).three (Below.refl _ _)
  have f_ := (B3.ext hb4).free3
  go_wp2
  clear q_ f_
  obtain ⟨wE, hwE, BE, hbE, _, _⟩ := (B3.ext hb4).set3 (.int .i64 (tru (a.k == 0)).k) (.int .i64 (tru (a.k == 0)).n) (.string (tru (a.k == 0)).s)
  rw [← hwE]
  have q_ := BE.three (Below.refl _ _)
  exact bodyPost_ret (v := .agg #[.int .i64 (tru (a.k == 0)).k, .int .i64 (tru (a.k == 0)).n, .string (tru (a.k == 0)).s]) (by simp [results, Try.results52, go_sem, q_]) rfl ⟨rfl, Below.trans (bch0 hbW hb4) (hbE _ (by omega))⟩
set_option maxHeartbeats 1000000 in
theorem pair6 (a b : V) (w : World)  :
    Calls Try.prog 52 #[.int .i64 6, .agg #[.int .i64 a.k, .int .i64 a.n, .string a.s], .agg #[.int .i64 b.k, .int .i64 b.n, .string b.s]] w fun e w' => e = .returned (vv (logicV true a b)) ∧ Below w.heap.size w w' := by
  go_enter Try.func52, Try.ntmps52
  go_wp2_with fail
  obtain ⟨W, hW_, hbW, B1, B2, B3⟩ : ∃ W_, W_ = (((w.alloc (.cells #[.int .i64 a.k, .int .i64 a.n, .string a.s] 30)).alloc (.cells #[.int .i64 b.k, .int .i64 b.n, .string b.s] 30)).alloc (.cells #[.int .i64 0, .int .i64 0, .string ⟨#[]⟩] 30)) ∧ Below w.heap.size w W_ ∧ Blk W_ (w.heap.size) 30 #[.int .i64 a.k, .int .i64 a.n, .string a.s] ∧ Blk W_ (w.heap.size + 1) 30 #[.int .i64 b.k, .int .i64 b.n, .string b.s] ∧ Blk W_ (w.heap.size + 1 + 1) 30 #[.int .i64 0, .int .i64 0, .string ⟨#[]⟩] :=
    ⟨_, rfl, ((((Below.refl _ _).alloc (Nat.le_refl _) _).alloc (by simp; try omega) _).alloc (by simp; try omega) _), (((blk_new_at w (w.heap.size) _ _ (by simp)).alloc _).alloc _), ((blk_new_at (w.alloc (.cells #[.int .i64 a.k, .int .i64 a.n, .string a.s] 30)) (w.heap.size + 1) _ _ (by simp)).alloc _), (blk_new_at ((w.alloc (.cells #[.int .i64 a.k, .int .i64 a.n, .string a.s] 30)).alloc (.cells #[.int .i64 b.k, .int .i64 b.n, .string b.s] 30)) (w.heap.size + 1 + 1) _ _ (by simp))⟩
  rw [← hW_]
  clear hW_
  refine (logicVr true 6 (by first | exact .inl ⟨rfl, rfl⟩ | exact .inr ⟨rfl, rfl⟩) a b _).mono ?_
  rintro e w4 ⟨rfl, hb4⟩
  have q_ := (B3.ext hb4).three (Below.refl _ _)
  have f_ := (B3.ext hb4).free3
  go_wp2
  clear q_ f_
  obtain ⟨wE, hwE, BE, hbE, _, _⟩ := (B3.ext hb4).set3 (.int .i64 (logicV true a b).k) (.int .i64 (logicV true a b).n) (.string (logicV true a b).s)
  rw [← hwE]
  have q_ := BE.three (Below.refl _ _)
  exact bodyPost_ret (v := .agg #[.int .i64 (logicV true a b).k, .int .i64 (logicV true a b).n, .string (logicV true a b).s]) (by simp [results, Try.results52, go_sem, q_]) rfl ⟨rfl, Below.trans (bch0 hbW hb4) (hbE _ (by omega))⟩
set_option maxHeartbeats 1000000 in
theorem pair7 (a b : V) (w : World)  :
    Calls Try.prog 52 #[.int .i64 7, .agg #[.int .i64 a.k, .int .i64 a.n, .string a.s], .agg #[.int .i64 b.k, .int .i64 b.n, .string b.s]] w fun e w' => e = .returned (vv (logicV false a b)) ∧ Below w.heap.size w w' := by
  go_enter Try.func52, Try.ntmps52
  go_wp2_with fail
  obtain ⟨W, hW_, hbW, B1, B2, B3⟩ : ∃ W_, W_ = (((w.alloc (.cells #[.int .i64 a.k, .int .i64 a.n, .string a.s] 30)).alloc (.cells #[.int .i64 b.k, .int .i64 b.n, .string b.s] 30)).alloc (.cells #[.int .i64 0, .int .i64 0, .string ⟨#[]⟩] 30)) ∧ Below w.heap.size w W_ ∧ Blk W_ (w.heap.size) 30 #[.int .i64 a.k, .int .i64 a.n, .string a.s] ∧ Blk W_ (w.heap.size + 1) 30 #[.int .i64 b.k, .int .i64 b.n, .string b.s] ∧ Blk W_ (w.heap.size + 1 + 1) 30 #[.int .i64 0, .int .i64 0, .string ⟨#[]⟩] :=
    ⟨_, rfl, ((((Below.refl _ _).alloc (Nat.le_refl _) _).alloc (by simp; try omega) _).alloc (by simp; try omega) _), (((blk_new_at w (w.heap.size) _ _ (by simp)).alloc _).alloc _), ((blk_new_at (w.alloc (.cells #[.int .i64 a.k, .int .i64 a.n, .string a.s] 30)) (w.heap.size + 1) _ _ (by simp)).alloc _), (blk_new_at ((w.alloc (.cells #[.int .i64 a.k, .int .i64 a.n, .string a.s] 30)).alloc (.cells #[.int .i64 b.k, .int .i64 b.n, .string b.s] 30)) (w.heap.size + 1 + 1) _ _ (by simp))⟩
  rw [← hW_]
  clear hW_
  refine (logicVr false 7 (by first | exact .inl ⟨rfl, rfl⟩ | exact .inr ⟨rfl, rfl⟩) a b _).mono ?_
  rintro e w4 ⟨rfl, hb4⟩
  have q_ := (B3.ext hb4).three (Below.refl _ _)
  have f_ := (B3.ext hb4).free3
  go_wp2
  clear q_ f_
  obtain ⟨wE, hwE, BE, hbE, _, _⟩ := (B3.ext hb4).set3 (.int .i64 (logicV false a b).k) (.int .i64 (logicV false a b).n) (.string (logicV false a b).s)
  rw [← hwE]
  have q_ := BE.three (Below.refl _ _)
  exact bodyPost_ret (v := .agg #[.int .i64 (logicV false a b).k, .int .i64 (logicV false a b).n, .string (logicV false a b).s]) (by simp [results, Try.results52, go_sem, q_]) rfl ⟨rfl, Below.trans (bch0 hbW hb4) (hbE _ (by omega))⟩
set_option maxHeartbeats 1000000 in
theorem pair3n (a b : V) (w : World) (h : (a.k == 0) = true) :
    Calls Try.prog 52 #[.int .i64 3, .agg #[.int .i64 a.k, .int .i64 a.n, .string a.s], .agg #[.int .i64 b.k, .int .i64 b.n, .string b.s]] w fun e w' => e = .returned (vv nul) ∧ Below w.heap.size w w' := by
  go_enter Try.func52, Try.ntmps52
  go_wp2_with fail
  obtain ⟨W, hW_, hbW, B1, B2, B3⟩ : ∃ W_, W_ = (((w.alloc (.cells #[.int .i64 a.k, .int .i64 a.n, .string a.s] 30)).alloc (.cells #[.int .i64 b.k, .int .i64 b.n, .string b.s] 30)).alloc (.cells #[.int .i64 0, .int .i64 0, .string ⟨#[]⟩] 30)) ∧ Below w.heap.size w W_ ∧ Blk W_ (w.heap.size) 30 #[.int .i64 a.k, .int .i64 a.n, .string a.s] ∧ Blk W_ (w.heap.size + 1) 30 #[.int .i64 b.k, .int .i64 b.n, .string b.s] ∧ Blk W_ (w.heap.size + 1 + 1) 30 #[.int .i64 0, .int .i64 0, .string ⟨#[]⟩] :=
    ⟨_, rfl, ((((Below.refl _ _).alloc (Nat.le_refl _) _).alloc (by simp; try omega) _).alloc (by simp; try omega) _), (((blk_new_at w (w.heap.size) _ _ (by simp)).alloc _).alloc _), ((blk_new_at (w.alloc (.cells #[.int .i64 a.k, .int .i64 a.n, .string a.s] 30)) (w.heap.size + 1) _ _ (by simp)).alloc _), (blk_new_at ((w.alloc (.cells #[.int .i64 a.k, .int .i64 a.n, .string a.s] 30)).alloc (.cells #[.int .i64 b.k, .int .i64 b.n, .string b.s] 30)) (w.heap.size + 1 + 1) _ _ (by simp))⟩
  rw [← hW_]
  clear hW_
  refine (nullV a true h _).mono ?_
  rintro e w4 ⟨rfl, hb4⟩
  have q_ := (B3.ext hb4).three (Below.refl _ _)
  have f_ := (B3.ext hb4).free3
  go_wp2
  clear q_ f_
  obtain ⟨wE, hwE, BE, hbE, _, _⟩ := (B3.ext hb4).set3 (.int .i64 0) (.int .i64 0) (.string ⟨#[]⟩)
  rw [← hwE]
  have q_ := BE.three (Below.refl _ _)
  exact bodyPost_ret (v := .agg #[.int .i64 0, .int .i64 0, .string ⟨#[]⟩]) (by simp [results, Try.results52, go_sem, q_]) rfl ⟨rfl, Below.trans (bch0 hbW hb4) (hbE _ (by omega))⟩
set_option maxHeartbeats 1000000 in
theorem pair3m (a b : V) (w : World) (h : (a.k == 0) = false) (h2 : (b.k == 0) = true) :
    Calls Try.prog 52 #[.int .i64 3, .agg #[.int .i64 a.k, .int .i64 a.n, .string a.s], .agg #[.int .i64 b.k, .int .i64 b.n, .string b.s]] w fun e w' => e = .returned (vv nul) ∧ Below w.heap.size w w' := by
  go_enter Try.func52, Try.ntmps52
  go_wp2_with fail
  obtain ⟨W, hW_, hbW, B1, B2, B3⟩ : ∃ W_, W_ = (((w.alloc (.cells #[.int .i64 a.k, .int .i64 a.n, .string a.s] 30)).alloc (.cells #[.int .i64 b.k, .int .i64 b.n, .string b.s] 30)).alloc (.cells #[.int .i64 0, .int .i64 0, .string ⟨#[]⟩] 30)) ∧ Below w.heap.size w W_ ∧ Blk W_ (w.heap.size) 30 #[.int .i64 a.k, .int .i64 a.n, .string a.s] ∧ Blk W_ (w.heap.size + 1) 30 #[.int .i64 b.k, .int .i64 b.n, .string b.s] ∧ Blk W_ (w.heap.size + 1 + 1) 30 #[.int .i64 0, .int .i64 0, .string ⟨#[]⟩] :=
    ⟨_, rfl, ((((Below.refl _ _).alloc (Nat.le_refl _) _).alloc (by simp; try omega) _).alloc (by simp; try omega) _), (((blk_new_at w (w.heap.size) _ _ (by simp)).alloc _).alloc _), ((blk_new_at (w.alloc (.cells #[.int .i64 a.k, .int .i64 a.n, .string a.s] 30)) (w.heap.size + 1) _ _ (by simp)).alloc _), (blk_new_at ((w.alloc (.cells #[.int .i64 a.k, .int .i64 a.n, .string a.s] 30)).alloc (.cells #[.int .i64 b.k, .int .i64 b.n, .string b.s] 30)) (w.heap.size + 1 + 1) _ _ (by simp))⟩
  rw [← hW_]
  clear hW_
  refine (nullV a false h _).mono ?_
  rintro e w3 ⟨rfl, hb3⟩
  have q2 := B2.three hb3
  go_wp2_with fail
  clear q2
  refine (nullV b true h2 _).mono ?_
  rintro e w4 ⟨rfl, hb4⟩
  have hb4 := bch0 hb3 hb4
  have q_ := (B3.ext hb4).three (Below.refl _ _)
  have f_ := (B3.ext hb4).free3
  go_wp2
  clear q_ f_
  obtain ⟨wE, hwE, BE, hbE, _, _⟩ := (B3.ext hb4).set3 (.int .i64 0) (.int .i64 0) (.string ⟨#[]⟩)
  rw [← hwE]
  have q_ := BE.three (Below.refl _ _)
  exact bodyPost_ret (v := .agg #[.int .i64 0, .int .i64 0, .string ⟨#[]⟩]) (by simp [results, Try.results52, go_sem, q_]) rfl ⟨rfl, Below.trans (bch0 hbW hb4) (hbE _ (by omega))⟩
set_option maxHeartbeats 1000000 in
theorem pair3t (a b : V) (w : World) (h : (a.k == 0) = false) (h2 : (b.k == 0) = false) :
    Calls Try.prog 52 #[.int .i64 3, .agg #[.int .i64 a.k, .int .i64 a.n, .string a.s], .agg #[.int .i64 b.k, .int .i64 b.n, .string b.s]] w fun e w' => e = .returned (vv (tru (opcode 3 (cmpV a b) a.n))) ∧ Below w.heap.size w w' := by
  go_enter Try.func52, Try.ntmps52
  go_wp2_with fail
  obtain ⟨W, hW_, hbW, B1, B2, B3⟩ : ∃ W_, W_ = (((w.alloc (.cells #[.int .i64 a.k, .int .i64 a.n, .string a.s] 30)).alloc (.cells #[.int .i64 b.k, .int .i64 b.n, .string b.s] 30)).alloc (.cells #[.int .i64 0, .int .i64 0, .string ⟨#[]⟩] 30)) ∧ Below w.heap.size w W_ ∧ Blk W_ (w.heap.size) 30 #[.int .i64 a.k, .int .i64 a.n, .string a.s] ∧ Blk W_ (w.heap.size + 1) 30 #[.int .i64 b.k, .int .i64 b.n, .string b.s] ∧ Blk W_ (w.heap.size + 1 + 1) 30 #[.int .i64 0, .int .i64 0, .string ⟨#[]⟩] :=
    ⟨_, rfl, ((((Below.refl _ _).alloc (Nat.le_refl _) _).alloc (by simp; try omega) _).alloc (by simp; try omega) _), (((blk_new_at w (w.heap.size) _ _ (by simp)).alloc _).alloc _), ((blk_new_at (w.alloc (.cells #[.int .i64 a.k, .int .i64 a.n, .string a.s] 30)) (w.heap.size + 1) _ _ (by simp)).alloc _), (blk_new_at ((w.alloc (.cells #[.int .i64 a.k, .int .i64 a.n, .string a.s] 30)).alloc (.cells #[.int .i64 b.k, .int .i64 b.n, .string b.s] 30)) (w.heap.size + 1 + 1) _ _ (by simp))⟩
  rw [← hW_]
  clear hW_
  refine (nullV a false h _).mono ?_
  rintro e w3 ⟨rfl, hb3⟩
  have q2 := B2.three hb3
  go_wp2_with fail
  clear q2
  refine (nullV b false h2 _).mono ?_
  rintro e w4 ⟨rfl, hb4⟩
  have hb4 := bch0 hb3 hb4
  have q1 := B1.three hb4
  have q2 := B2.three hb4
  go_wp2_with fail
  clear q1 q2
  obtain ⟨c, hc⟩ : ∃ c, cmpV a b = c := ⟨_, rfl⟩
  have HC := Lib.hid hc
  clear hc
  refine (compareVc a b c HC.out _).mono ?_
  rintro e w5 ⟨rfl, hb5⟩
  have hb5 := bch0 hb4 hb5
  have q1 := B1.three hb5
  go_wp2_with fail
  clear q1
  refine (truthV (a.n == 0) _).mono ?_
  rintro e w6 ⟨rfl, hb6⟩
  have hb6 := bch0 hb5 hb6
  have ho : opcode 3 (cmpV a b) a.n = (a.n == 0) := by rw [HC.out]; rfl
  have HO := Lib.hid ho
  clear ho
  have q_ := (B3.ext hb6).three (Below.refl _ _)
  have f_ := (B3.ext hb6).free3
  go_wp2
  clear q_ f_
  obtain ⟨wE, hwE, BE, hbE, _, _⟩ := (B3.ext hb6).set3 (.int .i64 (tru (a.n == 0)).k) (.int .i64 (tru (a.n == 0)).n) (.string (tru (a.n == 0)).s)
  rw [← hwE]
  have q_ := BE.three (Below.refl _ _)
  exact bodyPost_ret (v := .agg #[.int .i64 (tru (a.n == 0)).k, .int .i64 (tru (a.n == 0)).n, .string (tru (a.n == 0)).s]) (by simp [results, Try.results52, go_sem, q_]) rfl ⟨by rw [HO.out]; rfl, Below.trans (bch0 hbW hb6) (hbE _ (by omega))⟩
set_option maxHeartbeats 1000000 in
theorem pair8n (a b : V) (w : World) (h : (a.k == 0) = true) :
    Calls Try.prog 52 #[.int .i64 8, .agg #[.int .i64 a.k, .int .i64 a.n, .string a.s], .agg #[.int .i64 b.k, .int .i64 b.n, .string b.s]] w fun e w' => e = .returned (vv nul) ∧ Below w.heap.size w w' := by
  go_enter Try.func52, Try.ntmps52
  go_wp2_with fail
  obtain ⟨W, hW_, hbW, B1, B2, B3⟩ : ∃ W_, W_ = (((w.alloc (.cells #[.int .i64 a.k, .int .i64 a.n, .string a.s] 30)).alloc (.cells #[.int .i64 b.k, .int .i64 b.n, .string b.s] 30)).alloc (.cells #[.int .i64 0, .int .i64 0, .string ⟨#[]⟩] 30)) ∧ Below w.heap.size w W_ ∧ Blk W_ (w.heap.size) 30 #[.int .i64 a.k, .int .i64 a.n, .string a.s] ∧ Blk W_ (w.heap.size + 1) 30 #[.int .i64 b.k, .int .i64 b.n, .string b.s] ∧ Blk W_ (w.heap.size + 1 + 1) 30 #[.int .i64 0, .int .i64 0, .string ⟨#[]⟩] :=
    ⟨_, rfl, ((((Below.refl _ _).alloc (Nat.le_refl _) _).alloc (by simp; try omega) _).alloc (by simp; try omega) _), (((blk_new_at w (w.heap.size) _ _ (by simp)).alloc _).alloc _), ((blk_new_at (w.alloc (.cells #[.int .i64 a.k, .int .i64 a.n, .string a.s] 30)) (w.heap.size + 1) _ _ (by simp)).alloc _), (blk_new_at ((w.alloc (.cells #[.int .i64 a.k, .int .i64 a.n, .string a.s] 30)).alloc (.cells #[.int .i64 b.k, .int .i64 b.n, .string b.s] 30)) (w.heap.size + 1 + 1) _ _ (by simp))⟩
  rw [← hW_]
  clear hW_
  refine (nullV a true h _).mono ?_
  rintro e w4 ⟨rfl, hb4⟩
  have q_ := (B3.ext hb4).three (Below.refl _ _)
  have f_ := (B3.ext hb4).free3
  go_wp2
  clear q_ f_
  obtain ⟨wE, hwE, BE, hbE, _, _⟩ := (B3.ext hb4).set3 (.int .i64 0) (.int .i64 0) (.string ⟨#[]⟩)
  rw [← hwE]
  have q_ := BE.three (Below.refl _ _)
  exact bodyPost_ret (v := .agg #[.int .i64 0, .int .i64 0, .string ⟨#[]⟩]) (by simp [results, Try.results52, go_sem, q_]) rfl ⟨rfl, Below.trans (bch0 hbW hb4) (hbE _ (by omega))⟩
set_option maxHeartbeats 1000000 in
theorem pair8m (a b : V) (w : World) (h : (a.k == 0) = false) (h2 : (b.k == 0) = true) :
    Calls Try.prog 52 #[.int .i64 8, .agg #[.int .i64 a.k, .int .i64 a.n, .string a.s], .agg #[.int .i64 b.k, .int .i64 b.n, .string b.s]] w fun e w' => e = .returned (vv nul) ∧ Below w.heap.size w w' := by
  go_enter Try.func52, Try.ntmps52
  go_wp2_with fail
  obtain ⟨W, hW_, hbW, B1, B2, B3⟩ : ∃ W_, W_ = (((w.alloc (.cells #[.int .i64 a.k, .int .i64 a.n, .string a.s] 30)).alloc (.cells #[.int .i64 b.k, .int .i64 b.n, .string b.s] 30)).alloc (.cells #[.int .i64 0, .int .i64 0, .string ⟨#[]⟩] 30)) ∧ Below w.heap.size w W_ ∧ Blk W_ (w.heap.size) 30 #[.int .i64 a.k, .int .i64 a.n, .string a.s] ∧ Blk W_ (w.heap.size + 1) 30 #[.int .i64 b.k, .int .i64 b.n, .string b.s] ∧ Blk W_ (w.heap.size + 1 + 1) 30 #[.int .i64 0, .int .i64 0, .string ⟨#[]⟩] :=
    ⟨_, rfl, ((((Below.refl _ _).alloc (Nat.le_refl _) _).alloc (by simp; try omega) _).alloc (by simp; try omega) _), (((blk_new_at w (w.heap.size) _ _ (by simp)).alloc _).alloc _), ((blk_new_at (w.alloc (.cells #[.int .i64 a.k, .int .i64 a.n, .string a.s] 30)) (w.heap.size + 1) _ _ (by simp)).alloc _), (blk_new_at ((w.alloc (.cells #[.int .i64 a.k, .int .i64 a.n, .string a.s] 30)).alloc (.cells #[.int .i64 b.k, .int .i64 b.n, .string b.s] 30)) (w.heap.size + 1 + 1) _ _ (by simp))⟩
  rw [← hW_]
  clear hW_
  refine (nullV a false h _).mono ?_
  rintro e w3 ⟨rfl, hb3⟩
  have q2 := B2.three hb3
  go_wp2_with fail
  clear q2
  refine (nullV b true h2 _).mono ?_
  rintro e w4 ⟨rfl, hb4⟩
  have hb4 := bch0 hb3 hb4
  have q_ := (B3.ext hb4).three (Below.refl _ _)
  have f_ := (B3.ext hb4).free3
  go_wp2
  clear q_ f_
  obtain ⟨wE, hwE, BE, hbE, _, _⟩ := (B3.ext hb4).set3 (.int .i64 0) (.int .i64 0) (.string ⟨#[]⟩)
  rw [← hwE]
  have q_ := BE.three (Below.refl _ _)
  exact bodyPost_ret (v := .agg #[.int .i64 0, .int .i64 0, .string ⟨#[]⟩]) (by simp [results, Try.results52, go_sem, q_]) rfl ⟨rfl, Below.trans (bch0 hbW hb4) (hbE _ (by omega))⟩
set_option maxHeartbeats 1000000 in
theorem pair8t (a b : V) (w : World) (h : (a.k == 0) = false) (h2 : (b.k == 0) = false) :
    Calls Try.prog 52 #[.int .i64 8, .agg #[.int .i64 a.k, .int .i64 a.n, .string a.s], .agg #[.int .i64 b.k, .int .i64 b.n, .string b.s]] w fun e w' => e = .returned (vv (tru (opcode 8 (cmpV a b) a.n))) ∧ Below w.heap.size w w' := by
  go_enter Try.func52, Try.ntmps52
  go_wp2_with fail
  obtain ⟨W, hW_, hbW, B1, B2, B3⟩ : ∃ W_, W_ = (((w.alloc (.cells #[.int .i64 a.k, .int .i64 a.n, .string a.s] 30)).alloc (.cells #[.int .i64 b.k, .int .i64 b.n, .string b.s] 30)).alloc (.cells #[.int .i64 0, .int .i64 0, .string ⟨#[]⟩] 30)) ∧ Below w.heap.size w W_ ∧ Blk W_ (w.heap.size) 30 #[.int .i64 a.k, .int .i64 a.n, .string a.s] ∧ Blk W_ (w.heap.size + 1) 30 #[.int .i64 b.k, .int .i64 b.n, .string b.s] ∧ Blk W_ (w.heap.size + 1 + 1) 30 #[.int .i64 0, .int .i64 0, .string ⟨#[]⟩] :=
    ⟨_, rfl, ((((Below.refl _ _).alloc (Nat.le_refl _) _).alloc (by simp; try omega) _).alloc (by simp; try omega) _), (((blk_new_at w (w.heap.size) _ _ (by simp)).alloc _).alloc _), ((blk_new_at (w.alloc (.cells #[.int .i64 a.k, .int .i64 a.n, .string a.s] 30)) (w.heap.size + 1) _ _ (by simp)).alloc _), (blk_new_at ((w.alloc (.cells #[.int .i64 a.k, .int .i64 a.n, .string a.s] 30)).alloc (.cells #[.int .i64 b.k, .int .i64 b.n, .string b.s] 30)) (w.heap.size + 1 + 1) _ _ (by simp))⟩
  rw [← hW_]
  clear hW_
  refine (nullV a false h _).mono ?_
  rintro e w3 ⟨rfl, hb3⟩
  have q2 := B2.three hb3
  go_wp2_with fail
  clear q2
  refine (nullV b false h2 _).mono ?_
  rintro e w4 ⟨rfl, hb4⟩
  have hb4 := bch0 hb3 hb4
  have q1 := B1.three hb4
  have q2 := B2.three hb4
  go_wp2_with fail
  clear q1 q2
  obtain ⟨c, hc⟩ : ∃ c, cmpV a b = c := ⟨_, rfl⟩
  have HC := Lib.hid hc
  clear hc
  refine (compareVc a b c HC.out _).mono ?_
  rintro e w5 ⟨rfl, hb5⟩
  have hb5 := bch0 hb4 hb5
  go_wp2_with fail
  refine (truthV (c == 0) _).mono ?_
  rintro e w6 ⟨rfl, hb6⟩
  have hb6 := bch0 hb5 hb6
  have ho : opcode 8 (cmpV a b) a.n = (c == 0) := by rw [HC.out]; rfl
  have HO := Lib.hid ho
  clear ho
  have q_ := (B3.ext hb6).three (Below.refl _ _)
  have f_ := (B3.ext hb6).free3
  go_wp2
  clear q_ f_
  obtain ⟨wE, hwE, BE, hbE, _, _⟩ := (B3.ext hb6).set3 (.int .i64 (tru (c == 0)).k) (.int .i64 (tru (c == 0)).n) (.string (tru (c == 0)).s)
  rw [← hwE]
  have q_ := BE.three (Below.refl _ _)
  exact bodyPost_ret (v := .agg #[.int .i64 (tru (c == 0)).k, .int .i64 (tru (c == 0)).n, .string (tru (c == 0)).s]) (by simp [results, Try.results52, go_sem, q_]) rfl ⟨by rw [HO.out]; rfl, Below.trans (bch0 hbW hb6) (hbE _ (by omega))⟩
set_option maxHeartbeats 1000000 in
theorem pair9n (a b : V) (w : World) (h : (a.k == 0) = true) :
    Calls Try.prog 52 #[.int .i64 9, .agg #[.int .i64 a.k, .int .i64 a.n, .string a.s], .agg #[.int .i64 b.k, .int .i64 b.n, .string b.s]] w fun e w' => e = .returned (vv nul) ∧ Below w.heap.size w w' := by
  go_enter Try.func52, Try.ntmps52
  go_wp2_with fail
  obtain ⟨W, hW_, hbW, B1, B2, B3⟩ : ∃ W_, W_ = (((w.alloc (.cells #[.int .i64 a.k, .int .i64 a.n, .string a.s] 30)).alloc (.cells #[.int .i64 b.k, .int .i64 b.n, .string b.s] 30)).alloc (.cells #[.int .i64 0, .int .i64 0, .string ⟨#[]⟩] 30)) ∧ Below w.heap.size w W_ ∧ Blk W_ (w.heap.size) 30 #[.int .i64 a.k, .int .i64 a.n, .string a.s] ∧ Blk W_ (w.heap.size + 1) 30 #[.int .i64 b.k, .int .i64 b.n, .string b.s] ∧ Blk W_ (w.heap.size + 1 + 1) 30 #[.int .i64 0, .int .i64 0, .string ⟨#[]⟩] :=
    ⟨_, rfl, ((((Below.refl _ _).alloc (Nat.le_refl _) _).alloc (by simp; try omega) _).alloc (by simp; try omega) _), (((blk_new_at w (w.heap.size) _ _ (by simp)).alloc _).alloc _), ((blk_new_at (w.alloc (.cells #[.int .i64 a.k, .int .i64 a.n, .string a.s] 30)) (w.heap.size + 1) _ _ (by simp)).alloc _), (blk_new_at ((w.alloc (.cells #[.int .i64 a.k, .int .i64 a.n, .string a.s] 30)).alloc (.cells #[.int .i64 b.k, .int .i64 b.n, .string b.s] 30)) (w.heap.size + 1 + 1) _ _ (by simp))⟩
  rw [← hW_]
  clear hW_
  refine (nullV a true h _).mono ?_
  rintro e w4 ⟨rfl, hb4⟩
  have q_ := (B3.ext hb4).three (Below.refl _ _)
  have f_ := (B3.ext hb4).free3
  go_wp2
  clear q_ f_
  obtain ⟨wE, hwE, BE, hbE, _, _⟩ := (B3.ext hb4).set3 (.int .i64 0) (.int .i64 0) (.string ⟨#[]⟩)
  rw [← hwE]
  have q_ := BE.three (Below.refl _ _)
  exact bodyPost_ret (v := .agg #[.int .i64 0, .int .i64 0, .string ⟨#[]⟩]) (by simp [results, Try.results52, go_sem, q_]) rfl ⟨rfl, Below.trans (bch0 hbW hb4) (hbE _ (by omega))⟩
set_option maxHeartbeats 1000000 in
theorem pair9m (a b : V) (w : World) (h : (a.k == 0) = false) (h2 : (b.k == 0) = true) :
    Calls Try.prog 52 #[.int .i64 9, .agg #[.int .i64 a.k, .int .i64 a.n, .string a.s], .agg #[.int .i64 b.k, .int .i64 b.n, .string b.s]] w fun e w' => e = .returned (vv nul) ∧ Below w.heap.size w w' := by
  go_enter Try.func52, Try.ntmps52
  go_wp2_with fail
  obtain ⟨W, hW_, hbW, B1, B2, B3⟩ : ∃ W_, W_ = (((w.alloc (.cells #[.int .i64 a.k, .int .i64 a.n, .string a.s] 30)).alloc (.cells #[.int .i64 b.k, .int .i64 b.n, .string b.s] 30)).alloc (.cells #[.int .i64 0, .int .i64 0, .string ⟨#[]⟩] 30)) ∧ Below w.heap.size w W_ ∧ Blk W_ (w.heap.size) 30 #[.int .i64 a.k, .int .i64 a.n, .string a.s] ∧ Blk W_ (w.heap.size + 1) 30 #[.int .i64 b.k, .int .i64 b.n, .string b.s] ∧ Blk W_ (w.heap.size + 1 + 1) 30 #[.int .i64 0, .int .i64 0, .string ⟨#[]⟩] :=
    ⟨_, rfl, ((((Below.refl _ _).alloc (Nat.le_refl _) _).alloc (by simp; try omega) _).alloc (by simp; try omega) _), (((blk_new_at w (w.heap.size) _ _ (by simp)).alloc _).alloc _), ((blk_new_at (w.alloc (.cells #[.int .i64 a.k, .int .i64 a.n, .string a.s] 30)) (w.heap.size + 1) _ _ (by simp)).alloc _), (blk_new_at ((w.alloc (.cells #[.int .i64 a.k, .int .i64 a.n, .string a.s] 30)).alloc (.cells #[.int .i64 b.k, .int .i64 b.n, .string b.s] 30)) (w.heap.size + 1 + 1) _ _ (by simp))⟩
  rw [← hW_]
  clear hW_
  refine (nullV a false h _).mono ?_
  rintro e w3 ⟨rfl, hb3⟩
  have q2 := B2.three hb3
  go_wp2_with fail
  clear q2
  refine (nullV b true h2 _).mono ?_
  rintro e w4 ⟨rfl, hb4⟩
  have hb4 := bch0 hb3 hb4
  have q_ := (B3.ext hb4).three (Below.refl _ _)
  have f_ := (B3.ext hb4).free3
  go_wp2
  clear q_ f_
  obtain ⟨wE, hwE, BE, hbE, _, _⟩ := (B3.ext hb4).set3 (.int .i64 0) (.int .i64 0) (.string ⟨#[]⟩)
  rw [← hwE]
  have q_ := BE.three (Below.refl _ _)
  exact bodyPost_ret (v := .agg #[.int .i64 0, .int .i64 0, .string ⟨#[]⟩]) (by simp [results, Try.results52, go_sem, q_]) rfl ⟨rfl, Below.trans (bch0 hbW hb4) (hbE _ (by omega))⟩
set_option maxHeartbeats 1000000 in
theorem pair9t (a b : V) (w : World) (h : (a.k == 0) = false) (h2 : (b.k == 0) = false) :
    Calls Try.prog 52 #[.int .i64 9, .agg #[.int .i64 a.k, .int .i64 a.n, .string a.s], .agg #[.int .i64 b.k, .int .i64 b.n, .string b.s]] w fun e w' => e = .returned (vv (tru (opcode 9 (cmpV a b) a.n))) ∧ Below w.heap.size w w' := by
  go_enter Try.func52, Try.ntmps52
  go_wp2_with fail
  obtain ⟨W, hW_, hbW, B1, B2, B3⟩ : ∃ W_, W_ = (((w.alloc (.cells #[.int .i64 a.k, .int .i64 a.n, .string a.s] 30)).alloc (.cells #[.int .i64 b.k, .int .i64 b.n, .string b.s] 30)).alloc (.cells #[.int .i64 0, .int .i64 0, .string ⟨#[]⟩] 30)) ∧ Below w.heap.size w W_ ∧ Blk W_ (w.heap.size) 30 #[.int .i64 a.k, .int .i64 a.n, .string a.s] ∧ Blk W_ (w.heap.size + 1) 30 #[.int .i64 b.k, .int .i64 b.n, .string b.s] ∧ Blk W_ (w.heap.size + 1 + 1) 30 #[.int .i64 0, .int .i64 0, .string ⟨#[]⟩] :=
    ⟨_, rfl, ((((Below.refl _ _).alloc (Nat.le_refl _) _).alloc (by simp; try omega) _).alloc (by simp; try omega) _), (((blk_new_at w (w.heap.size) _ _ (by simp)).alloc _).alloc _), ((blk_new_at (w.alloc (.cells #[.int .i64 a.k, .int .i64 a.n, .string a.s] 30)) (w.heap.size + 1) _ _ (by simp)).alloc _), (blk_new_at ((w.alloc (.cells #[.int .i64 a.k, .int .i64 a.n, .string a.s] 30)).alloc (.cells #[.int .i64 b.k, .int .i64 b.n, .string b.s] 30)) (w.heap.size + 1 + 1) _ _ (by simp))⟩
  rw [← hW_]
  clear hW_
  refine (nullV a false h _).mono ?_
  rintro e w3 ⟨rfl, hb3⟩
  have q2 := B2.three hb3
  go_wp2_with fail
  clear q2
  refine (nullV b false h2 _).mono ?_
  rintro e w4 ⟨rfl, hb4⟩
  have hb4 := bch0 hb3 hb4
  have q1 := B1.three hb4
  have q2 := B2.three hb4
  go_wp2_with fail
  clear q1 q2
  obtain ⟨c, hc⟩ : ∃ c, cmpV a b = c := ⟨_, rfl⟩
  have HC := Lib.hid hc
  clear hc
  refine (compareVc a b c HC.out _).mono ?_
  rintro e w5 ⟨rfl, hb5⟩
  have hb5 := bch0 hb4 hb5
  go_wp2_with fail
  refine (truthV (c != 0) _).mono ?_
  rintro e w6 ⟨rfl, hb6⟩
  have hb6 := bch0 hb5 hb6
  have ho : opcode 9 (cmpV a b) a.n = (c != 0) := by rw [HC.out]; rfl
  have HO := Lib.hid ho
  clear ho
  have q_ := (B3.ext hb6).three (Below.refl _ _)
  have f_ := (B3.ext hb6).free3
  go_wp2
  clear q_ f_
  obtain ⟨wE, hwE, BE, hbE, _, _⟩ := (B3.ext hb6).set3 (.int .i64 (tru (c != 0)).k) (.int .i64 (tru (c != 0)).n) (.string (tru (c != 0)).s)
  rw [← hwE]
  have q_ := BE.three (Below.refl _ _)
  exact bodyPost_ret (v := .agg #[.int .i64 (tru (c != 0)).k, .int .i64 (tru (c != 0)).n, .string (tru (c != 0)).s]) (by simp [results, Try.results52, go_sem, q_]) rfl ⟨by rw [HO.out]; rfl, Below.trans (bch0 hbW hb6) (hbE _ (by omega))⟩
set_option maxHeartbeats 1000000 in
theorem pair10n (a b : V) (w : World) (h : (a.k == 0) = true) :
    Calls Try.prog 52 #[.int .i64 10, .agg #[.int .i64 a.k, .int .i64 a.n, .string a.s], .agg #[.int .i64 b.k, .int .i64 b.n, .string b.s]] w fun e w' => e = .returned (vv nul) ∧ Below w.heap.size w w' := by
  go_enter Try.func52, Try.ntmps52
  go_wp2_with fail
  obtain ⟨W, hW_, hbW, B1, B2, B3⟩ : ∃ W_, W_ = (((w.alloc (.cells #[.int .i64 a.k, .int .i64 a.n, .string a.s] 30)).alloc (.cells #[.int .i64 b.k, .int .i64 b.n, .string b.s] 30)).alloc (.cells #[.int .i64 0, .int .i64 0, .string ⟨#[]⟩] 30)) ∧ Below w.heap.size w W_ ∧ Blk W_ (w.heap.size) 30 #[.int .i64 a.k, .int .i64 a.n, .string a.s] ∧ Blk W_ (w.heap.size + 1) 30 #[.int .i64 b.k, .int .i64 b.n, .string b.s] ∧ Blk W_ (w.heap.size + 1 + 1) 30 #[.int .i64 0, .int .i64 0, .string ⟨#[]⟩] :=
    ⟨_, rfl, ((((Below.refl _ _).alloc (Nat.le_refl _) _).alloc (by simp; try omega) _).alloc (by simp; try omega) _), (((blk_new_at w (w.heap.size) _ _ (by simp)).alloc _).alloc _), ((blk_new_at (w.alloc (.cells #[.int .i64 a.k, .int .i64 a.n, .string a.s] 30)) (w.heap.size + 1) _ _ (by simp)).alloc _), (blk_new_at ((w.alloc (.cells #[.int .i64 a.k, .int .i64 a.n, .string a.s] 30)).alloc (.cells #[.int .i64 b.k, .int .i64 b.n, .string b.s] 30)) (w.heap.size + 1 + 1) _ _ (by simp))⟩
  rw [← hW_]
  clear hW_
  refine (nullV a true h _).mono ?_
  rintro e w4 ⟨rfl, hb4⟩
  have q_ := (B3.ext hb4).three (Below.refl _ _)
  have f_ := (B3.ext hb4).free3
  go_wp2
  clear q_ f_
  obtain ⟨wE, hwE, BE, hbE, _, _⟩ := (B3.ext hb4).set3 (.int .i64 0) (.int .i64 0) (.string ⟨#[]⟩)
  rw [← hwE]
  have q_ := BE.three (Below.refl _ _)
  exact bodyPost_ret (v := .agg #[.int .i64 0, .int .i64 0, .string ⟨#[]⟩]) (by simp [results, Try.results52, go_sem, q_]) rfl ⟨rfl, Below.trans (bch0 hbW hb4) (hbE _ (by omega))⟩
set_option maxHeartbeats 1000000 in
theorem pair10m (a b : V) (w : World) (h : (a.k == 0) = false) (h2 : (b.k == 0) = true) :
    Calls Try.prog 52 #[.int .i64 10, .agg #[.int .i64 a.k, .int .i64 a.n, .string a.s], .agg #[.int .i64 b.k, .int .i64 b.n, .string b.s]] w fun e w' => e = .returned (vv nul) ∧ Below w.heap.size w w' := by
  go_enter Try.func52, Try.ntmps52
  go_wp2_with fail
  obtain ⟨W, hW_, hbW, B1, B2, B3⟩ : ∃ W_, W_ = (((w.alloc (.cells #[.int .i64 a.k, .int .i64 a.n, .string a.s] 30)).alloc (.cells #[.int .i64 b.k, .int .i64 b.n, .string b.s] 30)).alloc (.cells #[.int .i64 0, .int .i64 0, .string ⟨#[]⟩] 30)) ∧ Below w.heap.size w W_ ∧ Blk W_ (w.heap.size) 30 #[.int .i64 a.k, .int .i64 a.n, .string a.s] ∧ Blk W_ (w.heap.size + 1) 30 #[.int .i64 b.k, .int .i64 b.n, .string b.s] ∧ Blk W_ (w.heap.size + 1 + 1) 30 #[.int .i64 0, .int .i64 0, .string ⟨#[]⟩] :=
    ⟨_, rfl, ((((Below.refl _ _).alloc (Nat.le_refl _) _).alloc (by simp; try omega) _).alloc (by simp; try omega) _), (((blk_new_at w (w.heap.size) _ _ (by simp)).alloc _).alloc _), ((blk_new_at (w.alloc (.cells #[.int .i64 a.k, .int .i64 a.n, .string a.s] 30)) (w.heap.size + 1) _ _ (by simp)).alloc _), (blk_new_at ((w.alloc (.cells #[.int .i64 a.k, .int .i64 a.n, .string a.s] 30)).alloc (.cells #[.int .i64 b.k, .int .i64 b.n, .string b.s] 30)) (w.heap.size + 1 + 1) _ _ (by simp))⟩
  rw [← hW_]
  clear hW_
  refine (nullV a false h _).mono ?_
  rintro e w3 ⟨rfl, hb3⟩
  have q2 := B2.three hb3
  go_wp2_with fail
  clear q2
  refine (nullV b true h2 _).mono ?_
  rintro e w4 ⟨rfl, hb4⟩
  have hb4 := bch0 hb3 hb4
  have q_ := (B3.ext hb4).three (Below.refl _ _)
  have f_ := (B3.ext hb4).free3
  go_wp2
  clear q_ f_
  obtain ⟨wE, hwE, BE, hbE, _, _⟩ := (B3.ext hb4).set3 (.int .i64 0) (.int .i64 0) (.string ⟨#[]⟩)
  rw [← hwE]
  have q_ := BE.three (Below.refl _ _)
  exact bodyPost_ret (v := .agg #[.int .i64 0, .int .i64 0, .string ⟨#[]⟩]) (by simp [results, Try.results52, go_sem, q_]) rfl ⟨rfl, Below.trans (bch0 hbW hb4) (hbE _ (by omega))⟩
set_option maxHeartbeats 1000000 in
theorem pair10t (a b : V) (w : World) (h : (a.k == 0) = false) (h2 : (b.k == 0) = false) :
    Calls Try.prog 52 #[.int .i64 10, .agg #[.int .i64 a.k, .int .i64 a.n, .string a.s], .agg #[.int .i64 b.k, .int .i64 b.n, .string b.s]] w fun e w' => e = .returned (vv (tru (opcode 10 (cmpV a b) a.n))) ∧ Below w.heap.size w w' := by
  go_enter Try.func52, Try.ntmps52
  go_wp2_with fail
  obtain ⟨W, hW_, hbW, B1, B2, B3⟩ : ∃ W_, W_ = (((w.alloc (.cells #[.int .i64 a.k, .int .i64 a.n, .string a.s] 30)).alloc (.cells #[.int .i64 b.k, .int .i64 b.n, .string b.s] 30)).alloc (.cells #[.int .i64 0, .int .i64 0, .string ⟨#[]⟩] 30)) ∧ Below w.heap.size w W_ ∧ Blk W_ (w.heap.size) 30 #[.int .i64 a.k, .int .i64 a.n, .string a.s] ∧ Blk W_ (w.heap.size + 1) 30 #[.int .i64 b.k, .int .i64 b.n, .string b.s] ∧ Blk W_ (w.heap.size + 1 + 1) 30 #[.int .i64 0, .int .i64 0, .string ⟨#[]⟩] :=
    ⟨_, rfl, ((((Below.refl _ _).alloc (Nat.le_refl _) _).alloc (by simp; try omega) _).alloc (by simp; try omega) _), (((blk_new_at w (w.heap.size) _ _ (by simp)).alloc _).alloc _), ((blk_new_at (w.alloc (.cells #[.int .i64 a.k, .int .i64 a.n, .string a.s] 30)) (w.heap.size + 1) _ _ (by simp)).alloc _), (blk_new_at ((w.alloc (.cells #[.int .i64 a.k, .int .i64 a.n, .string a.s] 30)).alloc (.cells #[.int .i64 b.k, .int .i64 b.n, .string b.s] 30)) (w.heap.size + 1 + 1) _ _ (by simp))⟩
  rw [← hW_]
  clear hW_
  refine (nullV a false h _).mono ?_
  rintro e w3 ⟨rfl, hb3⟩
  have q2 := B2.three hb3
  go_wp2_with fail
  clear q2
  refine (nullV b false h2 _).mono ?_
  rintro e w4 ⟨rfl, hb4⟩
  have hb4 := bch0 hb3 hb4
  have q1 := B1.three hb4
  have q2 := B2.three hb4
  go_wp2_with fail
  clear q1 q2
  obtain ⟨c, hc⟩ : ∃ c, cmpV a b = c := ⟨_, rfl⟩
  have HC := Lib.hid hc
  clear hc
  refine (compareVc a b c HC.out _).mono ?_
  rintro e w5 ⟨rfl, hb5⟩
  have hb5 := bch0 hb4 hb5
  go_wp2_with fail
  refine (truthV (decide (c < 0)) _).mono ?_
  rintro e w6 ⟨rfl, hb6⟩
  have hb6 := bch0 hb5 hb6
  have ho : opcode 10 (cmpV a b) a.n = (decide (c < 0)) := by rw [HC.out]; rfl
  have HO := Lib.hid ho
  clear ho
  have q_ := (B3.ext hb6).three (Below.refl _ _)
  have f_ := (B3.ext hb6).free3
  go_wp2
  clear q_ f_
  obtain ⟨wE, hwE, BE, hbE, _, _⟩ := (B3.ext hb6).set3 (.int .i64 (tru (decide (c < 0))).k) (.int .i64 (tru (decide (c < 0))).n) (.string (tru (decide (c < 0))).s)
  rw [← hwE]
  have q_ := BE.three (Below.refl _ _)
  exact bodyPost_ret (v := .agg #[.int .i64 (tru (decide (c < 0))).k, .int .i64 (tru (decide (c < 0))).n, .string (tru (decide (c < 0))).s]) (by simp [results, Try.results52, go_sem, q_]) rfl ⟨by rw [HO.out]; rfl, Below.trans (bch0 hbW hb6) (hbE _ (by omega))⟩
set_option maxHeartbeats 1000000 in
theorem pair11n (a b : V) (w : World) (h : (a.k == 0) = true) :
    Calls Try.prog 52 #[.int .i64 11, .agg #[.int .i64 a.k, .int .i64 a.n, .string a.s], .agg #[.int .i64 b.k, .int .i64 b.n, .string b.s]] w fun e w' => e = .returned (vv nul) ∧ Below w.heap.size w w' := by
  go_enter Try.func52, Try.ntmps52
  go_wp2_with fail
  obtain ⟨W, hW_, hbW, B1, B2, B3⟩ : ∃ W_, W_ = (((w.alloc (.cells #[.int .i64 a.k, .int .i64 a.n, .string a.s] 30)).alloc (.cells #[.int .i64 b.k, .int .i64 b.n, .string b.s] 30)).alloc (.cells #[.int .i64 0, .int .i64 0, .string ⟨#[]⟩] 30)) ∧ Below w.heap.size w W_ ∧ Blk W_ (w.heap.size) 30 #[.int .i64 a.k, .int .i64 a.n, .string a.s] ∧ Blk W_ (w.heap.size + 1) 30 #[.int .i64 b.k, .int .i64 b.n, .string b.s] ∧ Blk W_ (w.heap.size + 1 + 1) 30 #[.int .i64 0, .int .i64 0, .string ⟨#[]⟩] :=
    ⟨_, rfl, ((((Below.refl _ _).alloc (Nat.le_refl _) _).alloc (by simp; try omega) _).alloc (by simp; try omega) _), (((blk_new_at w (w.heap.size) _ _ (by simp)).alloc _).alloc _), ((blk_new_at (w.alloc (.cells #[.int .i64 a.k, .int .i64 a.n, .string a.s] 30)) (w.heap.size + 1) _ _ (by simp)).alloc _), (blk_new_at ((w.alloc (.cells #[.int .i64 a.k, .int .i64 a.n, .string a.s] 30)).alloc (.cells #[.int .i64 b.k, .int .i64 b.n, .string b.s] 30)) (w.heap.size + 1 + 1) _ _ (by simp))⟩
  rw [← hW_]
  clear hW_
  refine (nullV a true h _).mono ?_
  rintro e w4 ⟨rfl, hb4⟩
  have q_ := (B3.ext hb4).three (Below.refl _ _)
  have f_ := (B3.ext hb4).free3
  go_wp2
  clear q_ f_
  obtain ⟨wE, hwE, BE, hbE, _, _⟩ := (B3.ext hb4).set3 (.int .i64 0) (.int .i64 0) (.string ⟨#[]⟩)
  rw [← hwE]
  have q_ := BE.three (Below.refl _ _)
  exact bodyPost_ret (v := .agg #[.int .i64 0, .int .i64 0, .string ⟨#[]⟩]) (by simp [results, Try.results52, go_sem, q_]) rfl ⟨rfl, Below.trans (bch0 hbW hb4) (hbE _ (by omega))⟩
set_option maxHeartbeats 1000000 in
theorem pair11m (a b : V) (w : World) (h : (a.k == 0) = false) (h2 : (b.k == 0) = true) :
    Calls Try.prog 52 #[.int .i64 11, .agg #[.int .i64 a.k, .int .i64 a.n, .string a.s], .agg #[.int .i64 b.k, .int .i64 b.n, .string b.s]] w fun e w' => e = .returned (vv nul) ∧ Below w.heap.size w w' := by
  go_enter Try.func52, Try.ntmps52
  go_wp2_with fail
  obtain ⟨W, hW_, hbW, B1, B2, B3⟩ : ∃ W_, W_ = (((w.alloc (.cells #[.int .i64 a.k, .int .i64 a.n, .string a.s] 30)).alloc (.cells #[.int .i64 b.k, .int .i64 b.n, .string b.s] 30)).alloc (.cells #[.int .i64 0, .int .i64 0, .string ⟨#[]⟩] 30)) ∧ Below w.heap.size w W_ ∧ Blk W_ (w.heap.size) 30 #[.int .i64 a.k, .int .i64 a.n, .string a.s] ∧ Blk W_ (w.heap.size + 1) 30 #[.int .i64 b.k, .int .i64 b.n, .string b.s] ∧ Blk W_ (w.heap.size + 1 + 1) 30 #[.int .i64 0, .int .i64 0, .string ⟨#[]⟩] :=
    ⟨_, rfl, ((((Below.refl _ _).alloc (Nat.le_refl _) _).alloc (by simp; try omega) _).alloc (by simp; try omega) _), (((blk_new_at w (w.heap.size) _ _ (by simp)).alloc _).alloc _), ((blk_new_at (w.alloc (.cells #[.int .i64 a.k, .int .i64 a.n, .string a.s] 30)) (w.heap.size + 1) _ _ (by simp)).alloc _), (blk_new_at ((w.alloc (.cells #[.int .i64 a.k, .int .i64 a.n, .string a.s] 30)).alloc (.cells #[.int .i64 b.k, .int .i64 b.n, .string b.s] 30)) (w.heap.size + 1 + 1) _ _ (by simp))⟩
  rw [← hW_]
  clear hW_
  refine (nullV a false h _).mono ?_
  rintro e w3 ⟨rfl, hb3⟩
  have q2 := B2.three hb3
  go_wp2_with fail
  clear q2
  refine (nullV b true h2 _).mono ?_
  rintro e w4 ⟨rfl, hb4⟩
  have hb4 := bch0 hb3 hb4
  have q_ := (B3.ext hb4).three (Below.refl _ _)
  have f_ := (B3.ext hb4).free3
  go_wp2
  clear q_ f_
  obtain ⟨wE, hwE, BE, hbE, _, _⟩ := (B3.ext hb4).set3 (.int .i64 0) (.int .i64 0) (.string ⟨#[]⟩)
  rw [← hwE]
  have q_ := BE.three (Below.refl _ _)
  exact bodyPost_ret (v := .agg #[.int .i64 0, .int .i64 0, .string ⟨#[]⟩]) (by simp [results, Try.results52, go_sem, q_]) rfl ⟨rfl, Below.trans (bch0 hbW hb4) (hbE _ (by omega))⟩
set_option maxHeartbeats 1000000 in
theorem pair11t (a b : V) (w : World) (h : (a.k == 0) = false) (h2 : (b.k == 0) = false) :
    Calls Try.prog 52 #[.int .i64 11, .agg #[.int .i64 a.k, .int .i64 a.n, .string a.s], .agg #[.int .i64 b.k, .int .i64 b.n, .string b.s]] w fun e w' => e = .returned (vv (tru (opcode 11 (cmpV a b) a.n))) ∧ Below w.heap.size w w' := by
  go_enter Try.func52, Try.ntmps52
  go_wp2_with fail
  obtain ⟨W, hW_, hbW, B1, B2, B3⟩ : ∃ W_, W_ = (((w.alloc (.cells #[.int .i64 a.k, .int .i64 a.n, .string a.s] 30)).alloc (.cells #[.int .i64 b.k, .int .i64 b.n, .string b.s] 30)).alloc (.cells #[.int .i64 0, .int .i64 0, .string ⟨#[]⟩] 30)) ∧ Below w.heap.size w W_ ∧ Blk W_ (w.heap.size) 30 #[.int .i64 a.k, .int .i64 a.n, .string a.s] ∧ Blk W_ (w.heap.size + 1) 30 #[.int .i64 b.k, .int .i64 b.n, .string b.s] ∧ Blk W_ (w.heap.size + 1 + 1) 30 #[.int .i64 0, .int .i64 0, .string ⟨#[]⟩] :=
    ⟨_, rfl, ((((Below.refl _ _).alloc (Nat.le_refl _) _).alloc (by simp; try omega) _).alloc (by simp; try omega) _), (((blk_new_at w (w.heap.size) _ _ (by simp)).alloc _).alloc _), ((blk_new_at (w.alloc (.cells #[.int .i64 a.k, .int .i64 a.n, .string a.s] 30)) (w.heap.size + 1) _ _ (by simp)).alloc _), (blk_new_at ((w.alloc (.cells #[.int .i64 a.k, .int .i64 a.n, .string a.s] 30)).alloc (.cells #[.int .i64 b.k, .int .i64 b.n, .string b.s] 30)) (w.heap.size + 1 + 1) _ _ (by simp))⟩
  rw [← hW_]
  clear hW_
  refine (nullV a false h _).mono ?_
  rintro e w3 ⟨rfl, hb3⟩
  have q2 := B2.three hb3
  go_wp2_with fail
  clear q2
  refine (nullV b false h2 _).mono ?_
  rintro e w4 ⟨rfl, hb4⟩
  have hb4 := bch0 hb3 hb4
  have q1 := B1.three hb4
  have q2 := B2.three hb4
  go_wp2_with fail
  clear q1 q2
  obtain ⟨c, hc⟩ : ∃ c, cmpV a b = c := ⟨_, rfl⟩
  have HC := Lib.hid hc
  clear hc
  refine (compareVc a b c HC.out _).mono ?_
  rintro e w5 ⟨rfl, hb5⟩
  have hb5 := bch0 hb4 hb5
  go_wp2_with fail
  refine (truthV (decide (c ≤ 0)) _).mono ?_
  rintro e w6 ⟨rfl, hb6⟩
  have hb6 := bch0 hb5 hb6
  have ho : opcode 11 (cmpV a b) a.n = (decide (c ≤ 0)) := by rw [HC.out]; rfl
  have HO := Lib.hid ho
  clear ho
  have q_ := (B3.ext hb6).three (Below.refl _ _)
  have f_ := (B3.ext hb6).free3
  go_wp2
  clear q_ f_
  obtain ⟨wE, hwE, BE, hbE, _, _⟩ := (B3.ext hb6).set3 (.int .i64 (tru (decide (c ≤ 0))).k) (.int .i64 (tru (decide (c ≤ 0))).n) (.string (tru (decide (c ≤ 0))).s)
  rw [← hwE]
  have q_ := BE.three (Below.refl _ _)
  exact bodyPost_ret (v := .agg #[.int .i64 (tru (decide (c ≤ 0))).k, .int .i64 (tru (decide (c ≤ 0))).n, .string (tru (decide (c ≤ 0))).s]) (by simp [results, Try.results52, go_sem, q_]) rfl ⟨by rw [HO.out]; rfl, Below.trans (bch0 hbW hb6) (hbE _ (by omega))⟩
set_option maxHeartbeats 1000000 in
theorem pair12n (a b : V) (w : World) (h : (a.k == 0) = true) :
    Calls Try.prog 52 #[.int .i64 12, .agg #[.int .i64 a.k, .int .i64 a.n, .string a.s], .agg #[.int .i64 b.k, .int .i64 b.n, .string b.s]] w fun e w' => e = .returned (vv nul) ∧ Below w.heap.size w w' := by
  go_enter Try.func52, Try.ntmps52
  go_wp2_with fail
  obtain ⟨W, hW_, hbW, B1, B2, B3⟩ : ∃ W_, W_ = (((w.alloc (.cells #[.int .i64 a.k, .int .i64 a.n, .string a.s] 30)).alloc (.cells #[.int .i64 b.k, .int .i64 b.n, .string b.s] 30)).alloc (.cells #[.int .i64 0, .int .i64 0, .string ⟨#[]⟩] 30)) ∧ Below w.heap.size w W_ ∧ Blk W_ (w.heap.size) 30 #[.int .i64 a.k, .int .i64 a.n, .string a.s] ∧ Blk W_ (w.heap.size + 1) 30 #[.int .i64 b.k, .int .i64 b.n, .string b.s] ∧ Blk W_ (w.heap.size + 1 + 1) 30 #[.int .i64 0, .int .i64 0, .string ⟨#[]⟩] :=
    ⟨_, rfl, ((((Below.refl _ _).alloc (Nat.le_refl _) _).alloc (by simp; try omega) _).alloc (by simp; try omega) _), (((blk_new_at w (w.heap.size) _ _ (by simp)).alloc _).alloc _), ((blk_new_at (w.alloc (.cells #[.int .i64 a.k, .int .i64 a.n, .string a.s] 30)) (w.heap.size + 1) _ _ (by simp)).alloc _), (blk_new_at ((w.alloc (.cells #[.int .i64 a.k, .int .i64 a.n, .string a.s] 30)).alloc (.cells #[.int .i64 b.k, .int .i64 b.n, .string b.s] 30)) (w.heap.size + 1 + 1) _ _ (by simp))⟩
  rw [← hW_]
  clear hW_
  refine (nullV a true h _).mono ?_
  rintro e w4 ⟨rfl, hb4⟩
  have q_ := (B3.ext hb4).three (Below.refl _ _)
  have f_ := (B3.ext hb4).free3
  go_wp2
  clear q_ f_
  obtain ⟨wE, hwE, BE, hbE, _, _⟩ := (B3.ext hb4).set3 (.int .i64 0) (.int .i64 0) (.string ⟨#[]⟩)
  rw [← hwE]
  have q_ := BE.three (Below.refl _ _)
  exact bodyPost_ret (v := .agg #[.int .i64 0, .int .i64 0, .string ⟨#[]⟩]) (by simp [results, Try.results52, go_sem, q_]) rfl ⟨rfl, Below.trans (bch0 hbW hb4) (hbE _ (by omega))⟩
set_option maxHeartbeats 1000000 in
theorem pair12m (a b : V) (w : World) (h : (a.k == 0) = false) (h2 : (b.k == 0) = true) :
    Calls Try.prog 52 #[.int .i64 12, .agg #[.int .i64 a.k, .int .i64 a.n, .string a.s], .agg #[.int .i64 b.k, .int .i64 b.n, .string b.s]] w fun e w' => e = .returned (vv nul) ∧ Below w.heap.size w w' := by
  go_enter Try.func52, Try.ntmps52
  go_wp2_with fail
  obtain ⟨W, hW_, hbW, B1, B2, B3⟩ : ∃ W_, W_ = (((w.alloc (.cells #[.int .i64 a.k, .int .i64 a.n, .string a.s] 30)).alloc (.cells #[.int .i64 b.k, .int .i64 b.n, .string b.s] 30)).alloc (.cells #[.int .i64 0, .int .i64 0, .string ⟨#[]⟩] 30)) ∧ Below w.heap.size w W_ ∧ Blk W_ (w.heap.size) 30 #[.int .i64 a.k, .int .i64 a.n, .string a.s] ∧ Blk W_ (w.heap.size + 1) 30 #[.int .i64 b.k, .int .i64 b.n, .string b.s] ∧ Blk W_ (w.heap.size + 1 + 1) 30 #[.int .i64 0, .int .i64 0, .string ⟨#[]⟩] :=
    ⟨_, rfl, ((((Below.refl _ _).alloc (Nat.le_refl _) _).alloc (by simp; try omega) _).alloc (by simp; try omega) _), (((blk_new_at w (w.heap.size) _ _ (by simp)).alloc _).alloc _), ((blk_new_at (w.alloc (.cells #[.int .i64 a.k, .int .i64 a.n, .string a.s] 30)) (w.heap.size + 1) _ _ (by simp)).alloc _), (blk_new_at ((w.alloc (.cells #[.int .i64 a.k, .int .i64 a.n, .string a.s] 30)).alloc (.cells #[.int .i64 b.k, .int .i64 b.n, .string b.s] 30)) (w.heap.size + 1 + 1) _ _ (by simp))⟩
  rw [← hW_]
  clear hW_
  refine (nullV a false h _).mono ?_
  rintro e w3 ⟨rfl, hb3⟩
  have q2 := B2.three hb3
  go_wp2_with fail
  clear q2
  refine (nullV b true h2 _).mono ?_
  rintro e w4 ⟨rfl, hb4⟩
  have hb4 := bch0 hb3 hb4
  have q_ := (B3.ext hb4).three (Below.refl _ _)
  have f_ := (B3.ext hb4).free3
  go_wp2
  clear q_ f_
  obtain ⟨wE, hwE, BE, hbE, _, _⟩ := (B3.ext hb4).set3 (.int .i64 0) (.int .i64 0) (.string ⟨#[]⟩)
  rw [← hwE]
  have q_ := BE.three (Below.refl _ _)
  exact bodyPost_ret (v := .agg #[.int .i64 0, .int .i64 0, .string ⟨#[]⟩]) (by simp [results, Try.results52, go_sem, q_]) rfl ⟨rfl, Below.trans (bch0 hbW hb4) (hbE _ (by omega))⟩
set_option maxHeartbeats 1000000 in
theorem pair12t (a b : V) (w : World) (h : (a.k == 0) = false) (h2 : (b.k == 0) = false) :
    Calls Try.prog 52 #[.int .i64 12, .agg #[.int .i64 a.k, .int .i64 a.n, .string a.s], .agg #[.int .i64 b.k, .int .i64 b.n, .string b.s]] w fun e w' => e = .returned (vv (tru (opcode 12 (cmpV a b) a.n))) ∧ Below w.heap.size w w' := by
  go_enter Try.func52, Try.ntmps52
  go_wp2_with fail
  obtain ⟨W, hW_, hbW, B1, B2, B3⟩ : ∃ W_, W_ = (((w.alloc (.cells #[.int .i64 a.k, .int .i64 a.n, .string a.s] 30)).alloc (.cells #[.int .i64 b.k, .int .i64 b.n, .string b.s] 30)).alloc (.cells #[.int .i64 0, .int .i64 0, .string ⟨#[]⟩] 30)) ∧ Below w.heap.size w W_ ∧ Blk W_ (w.heap.size) 30 #[.int .i64 a.k, .int .i64 a.n, .string a.s] ∧ Blk W_ (w.heap.size + 1) 30 #[.int .i64 b.k, .int .i64 b.n, .string b.s] ∧ Blk W_ (w.heap.size + 1 + 1) 30 #[.int .i64 0, .int .i64 0, .string ⟨#[]⟩] :=
    ⟨_, rfl, ((((Below.refl _ _).alloc (Nat.le_refl _) _).alloc (by simp; try omega) _).alloc (by simp; try omega) _), (((blk_new_at w (w.heap.size) _ _ (by simp)).alloc _).alloc _), ((blk_new_at (w.alloc (.cells #[.int .i64 a.k, .int .i64 a.n, .string a.s] 30)) (w.heap.size + 1) _ _ (by simp)).alloc _), (blk_new_at ((w.alloc (.cells #[.int .i64 a.k, .int .i64 a.n, .string a.s] 30)).alloc (.cells #[.int .i64 b.k, .int .i64 b.n, .string b.s] 30)) (w.heap.size + 1 + 1) _ _ (by simp))⟩
  rw [← hW_]
  clear hW_
  refine (nullV a false h _).mono ?_
  rintro e w3 ⟨rfl, hb3⟩
  have q2 := B2.three hb3
  go_wp2_with fail
  clear q2
  refine (nullV b false h2 _).mono ?_
  rintro e w4 ⟨rfl, hb4⟩
  have hb4 := bch0 hb3 hb4
  have q1 := B1.three hb4
  have q2 := B2.three hb4
  go_wp2_with fail
  clear q1 q2
  obtain ⟨c, hc⟩ : ∃ c, cmpV a b = c := ⟨_, rfl⟩
  have HC := Lib.hid hc
  clear hc
  refine (compareVc a b c HC.out _).mono ?_
  rintro e w5 ⟨rfl, hb5⟩
  have hb5 := bch0 hb4 hb5
  go_wp2_with fail
  refine (truthV (decide (0 < c)) _).mono ?_
  rintro e w6 ⟨rfl, hb6⟩
  have hb6 := bch0 hb5 hb6
  have ho : opcode 12 (cmpV a b) a.n = (decide (0 < c)) := by rw [HC.out]; rfl
  have HO := Lib.hid ho
  clear ho
  have q_ := (B3.ext hb6).three (Below.refl _ _)
  have f_ := (B3.ext hb6).free3
  go_wp2
  clear q_ f_
  obtain ⟨wE, hwE, BE, hbE, _, _⟩ := (B3.ext hb6).set3 (.int .i64 (tru (decide (0 < c))).k) (.int .i64 (tru (decide (0 < c))).n) (.string (tru (decide (0 < c))).s)
  rw [← hwE]
  have q_ := BE.three (Below.refl _ _)
  exact bodyPost_ret (v := .agg #[.int .i64 (tru (decide (0 < c))).k, .int .i64 (tru (decide (0 < c))).n, .string (tru (decide (0 < c))).s]) (by simp [results, Try.results52, go_sem, q_]) rfl ⟨by rw [HO.out]; rfl, Below.trans (bch0 hbW hb6) (hbE _ (by omega))⟩
set_option maxHeartbeats 1000000 in
theorem pair13n (a b : V) (w : World) (h : (a.k == 0) = true) :
    Calls Try.prog 52 #[.int .i64 13, .agg #[.int .i64 a.k, .int .i64 a.n, .string a.s], .agg #[.int .i64 b.k, .int .i64 b.n, .string b.s]] w fun e w' => e = .returned (vv nul) ∧ Below w.heap.size w w' := by
  go_enter Try.func52, Try.ntmps52
  go_wp2_with fail
  obtain ⟨W, hW_, hbW, B1, B2, B3⟩ : ∃ W_, W_ = (((w.alloc (.cells #[.int .i64 a.k, .int .i64 a.n, .string a.s] 30)).alloc (.cells #[.int .i64 b.k, .int .i64 b.n, .string b.s] 30)).alloc (.cells #[.int .i64 0, .int .i64 0, .string ⟨#[]⟩] 30)) ∧ Below w.heap.size w W_ ∧ Blk W_ (w.heap.size) 30 #[.int .i64 a.k, .int .i64 a.n, .string a.s] ∧ Blk W_ (w.heap.size + 1) 30 #[.int .i64 b.k, .int .i64 b.n, .string b.s] ∧ Blk W_ (w.heap.size + 1 + 1) 30 #[.int .i64 0, .int .i64 0, .string ⟨#[]⟩] :=
    ⟨_, rfl, ((((Below.refl _ _).alloc (Nat.le_refl _) _).alloc (by simp; try omega) _).alloc (by simp; try omega) _), (((blk_new_at w (w.heap.size) _ _ (by simp)).alloc _).alloc _), ((blk_new_at (w.alloc (.cells #[.int .i64 a.k, .int .i64 a.n, .string a.s] 30)) (w.heap.size + 1) _ _ (by simp)).alloc _), (blk_new_at ((w.alloc (.cells #[.int .i64 a.k, .int .i64 a.n, .string a.s] 30)).alloc (.cells #[.int .i64 b.k, .int .i64 b.n, .string b.s] 30)) (w.heap.size + 1 + 1) _ _ (by simp))⟩
  rw [← hW_]
  clear hW_
  refine (nullV a true h _).mono ?_
  rintro e w4 ⟨rfl, hb4⟩
  have q_ := (B3.ext hb4).three (Below.refl _ _)
  have f_ := (B3.ext hb4).free3
  go_wp2
  clear q_ f_
  obtain ⟨wE, hwE, BE, hbE, _, _⟩ := (B3.ext hb4).set3 (.int .i64 0) (.int .i64 0) (.string ⟨#[]⟩)
  rw [← hwE]
  have q_ := BE.three (Below.refl _ _)
  exact bodyPost_ret (v := .agg #[.int .i64 0, .int .i64 0, .string ⟨#[]⟩]) (by simp [results, Try.results52, go_sem, q_]) rfl ⟨rfl, Below.trans (bch0 hbW hb4) (hbE _ (by omega))⟩
set_option maxHeartbeats 1000000 in
theorem pair13m (a b : V) (w : World) (h : (a.k == 0) = false) (h2 : (b.k == 0) = true) :
    Calls Try.prog 52 #[.int .i64 13, .agg #[.int .i64 a.k, .int .i64 a.n, .string a.s], .agg #[.int .i64 b.k, .int .i64 b.n, .string b.s]] w fun e w' => e = .returned (vv nul) ∧ Below w.heap.size w w' := by
  go_enter Try.func52, Try.ntmps52
  go_wp2_with fail
  obtain ⟨W, hW_, hbW, B1, B2, B3⟩ : ∃ W_, W_ = (((w.alloc (.cells #[.int .i64 a.k, .int .i64 a.n, .string a.s] 30)).alloc (.cells #[.int .i64 b.k, .int .i64 b.n, .string b.s] 30)).alloc (.cells #[.int .i64 0, .int .i64 0, .string ⟨#[]⟩] 30)) ∧ Below w.heap.size w W_ ∧ Blk W_ (w.heap.size) 30 #[.int .i64 a.k, .int .i64 a.n, .string a.s] ∧ Blk W_ (w.heap.size + 1) 30 #[.int .i64 b.k, .int .i64 b.n, .string b.s] ∧ Blk W_ (w.heap.size + 1 + 1) 30 #[.int .i64 0, .int .i64 0, .string ⟨#[]⟩] :=
    ⟨_, rfl, ((((Below.refl _ _).alloc (Nat.le_refl _) _).alloc (by simp; try omega) _).alloc (by simp; try omega) _), (((blk_new_at w (w.heap.size) _ _ (by simp)).alloc _).alloc _), ((blk_new_at (w.alloc (.cells #[.int .i64 a.k, .int .i64 a.n, .string a.s] 30)) (w.heap.size + 1) _ _ (by simp)).alloc _), (blk_new_at ((w.alloc (.cells #[.int .i64 a.k, .int .i64 a.n, .string a.s] 30)).alloc (.cells #[.int .i64 b.k, .int .i64 b.n, .string b.s] 30)) (w.heap.size + 1 + 1) _ _ (by simp))⟩
  rw [← hW_]
  clear hW_
  refine (nullV a false h _).mono ?_
  rintro e w3 ⟨rfl, hb3⟩
  have q2 := B2.three hb3
  go_wp2_with fail
  clear q2
  refine (nullV b true h2 _).mono ?_
  rintro e w4 ⟨rfl, hb4⟩
  have hb4 := bch0 hb3 hb4
  have q_ := (B3.ext hb4).three (Below.refl _ _)
  have f_ := (B3.ext hb4).free3
  go_wp2
  clear q_ f_
  obtain ⟨wE, hwE, BE, hbE, _, _⟩ := (B3.ext hb4).set3 (.int .i64 0) (.int .i64 0) (.string ⟨#[]⟩)
  rw [← hwE]
  have q_ := BE.three (Below.refl _ _)
  exact bodyPost_ret (v := .agg #[.int .i64 0, .int .i64 0, .string ⟨#[]⟩]) (by simp [results, Try.results52, go_sem, q_]) rfl ⟨rfl, Below.trans (bch0 hbW hb4) (hbE _ (by omega))⟩
set_option maxHeartbeats 1000000 in
theorem pair13t (a b : V) (w : World) (h : (a.k == 0) = false) (h2 : (b.k == 0) = false) :
    Calls Try.prog 52 #[.int .i64 13, .agg #[.int .i64 a.k, .int .i64 a.n, .string a.s], .agg #[.int .i64 b.k, .int .i64 b.n, .string b.s]] w fun e w' => e = .returned (vv (tru (opcode 13 (cmpV a b) a.n))) ∧ Below w.heap.size w w' := by
  go_enter Try.func52, Try.ntmps52
  go_wp2_with fail
  obtain ⟨W, hW_, hbW, B1, B2, B3⟩ : ∃ W_, W_ = (((w.alloc (.cells #[.int .i64 a.k, .int .i64 a.n, .string a.s] 30)).alloc (.cells #[.int .i64 b.k, .int .i64 b.n, .string b.s] 30)).alloc (.cells #[.int .i64 0, .int .i64 0, .string ⟨#[]⟩] 30)) ∧ Below w.heap.size w W_ ∧ Blk W_ (w.heap.size) 30 #[.int .i64 a.k, .int .i64 a.n, .string a.s] ∧ Blk W_ (w.heap.size + 1) 30 #[.int .i64 b.k, .int .i64 b.n, .string b.s] ∧ Blk W_ (w.heap.size + 1 + 1) 30 #[.int .i64 0, .int .i64 0, .string ⟨#[]⟩] :=
    ⟨_, rfl, ((((Below.refl _ _).alloc (Nat.le_refl _) _).alloc (by simp; try omega) _).alloc (by simp; try omega) _), (((blk_new_at w (w.heap.size) _ _ (by simp)).alloc _).alloc _), ((blk_new_at (w.alloc (.cells #[.int .i64 a.k, .int .i64 a.n, .string a.s] 30)) (w.heap.size + 1) _ _ (by simp)).alloc _), (blk_new_at ((w.alloc (.cells #[.int .i64 a.k, .int .i64 a.n, .string a.s] 30)).alloc (.cells #[.int .i64 b.k, .int .i64 b.n, .string b.s] 30)) (w.heap.size + 1 + 1) _ _ (by simp))⟩
  rw [← hW_]
  clear hW_
  refine (nullV a false h _).mono ?_
  rintro e w3 ⟨rfl, hb3⟩
  have q2 := B2.three hb3
  go_wp2_with fail
  clear q2
  refine (nullV b false h2 _).mono ?_
  rintro e w4 ⟨rfl, hb4⟩
  have hb4 := bch0 hb3 hb4
  have q1 := B1.three hb4
  have q2 := B2.three hb4
  go_wp2_with fail
  clear q1 q2
  obtain ⟨c, hc⟩ : ∃ c, cmpV a b = c := ⟨_, rfl⟩
  have HC := Lib.hid hc
  clear hc
  refine (compareVc a b c HC.out _).mono ?_
  rintro e w5 ⟨rfl, hb5⟩
  have hb5 := bch0 hb4 hb5
  go_wp2_with fail
  refine (truthV (decide (0 ≤ c)) _).mono ?_
  rintro e w6 ⟨rfl, hb6⟩
  have hb6 := bch0 hb5 hb6
  have ho : opcode 13 (cmpV a b) a.n = (decide (0 ≤ c)) := by rw [HC.out]; rfl
  have HO := Lib.hid ho
  clear ho
  have q_ := (B3.ext hb6).three (Below.refl _ _)
  have f_ := (B3.ext hb6).free3
  go_wp2
  clear q_ f_
  obtain ⟨wE, hwE, BE, hbE, _, _⟩ := (B3.ext hb6).set3 (.int .i64 (tru (decide (0 ≤ c))).k) (.int .i64 (tru (decide (0 ≤ c))).n) (.string (tru (decide (0 ≤ c))).s)
  rw [← hwE]
  have q_ := BE.three (Below.refl _ _)
  exact bodyPost_ret (v := .agg #[.int .i64 (tru (decide (0 ≤ c))).k, .int .i64 (tru (decide (0 ≤ c))).n, .string (tru (decide (0 ≤ c))).s]) (by simp [results, Try.results52, go_sem, q_]) rfl ⟨by rw [HO.out]; rfl, Below.trans (bch0 hbW hb6) (hbE _ (by omega))⟩
set_option maxHeartbeats 1000000 in
theorem pair4n (a b : V) (w : World) (h : (a.k == 0) = true) :
    Calls Try.prog 52 #[.int .i64 4, .agg #[.int .i64 a.k, .int .i64 a.n, .string a.s], .agg #[.int .i64 b.k, .int .i64 b.n, .string b.s]] w fun e w' => e = .returned (vv nul) ∧ Below w.heap.size w w' := by
  go_enter Try.func52, Try.ntmps52
  go_wp2_with fail
  obtain ⟨W, hW_, hbW, B1, B2, B3⟩ : ∃ W_, W_ = (((w.alloc (.cells #[.int .i64 a.k, .int .i64 a.n, .string a.s] 30)).alloc (.cells #[.int .i64 b.k, .int .i64 b.n, .string b.s] 30)).alloc (.cells #[.int .i64 0, .int .i64 0, .string ⟨#[]⟩] 30)) ∧ Below w.heap.size w W_ ∧ Blk W_ (w.heap.size) 30 #[.int .i64 a.k, .int .i64 a.n, .string a.s] ∧ Blk W_ (w.heap.size + 1) 30 #[.int .i64 b.k, .int .i64 b.n, .string b.s] ∧ Blk W_ (w.heap.size + 1 + 1) 30 #[.int .i64 0, .int .i64 0, .string ⟨#[]⟩] :=
    ⟨_, rfl, ((((Below.refl _ _).alloc (Nat.le_refl _) _).alloc (by simp; try omega) _).alloc (by simp; try omega) _), (((blk_new_at w (w.heap.size) _ _ (by simp)).alloc _).alloc _), ((blk_new_at (w.alloc (.cells #[.int .i64 a.k, .int .i64 a.n, .string a.s] 30)) (w.heap.size + 1) _ _ (by simp)).alloc _), (blk_new_at ((w.alloc (.cells #[.int .i64 a.k, .int .i64 a.n, .string a.s] 30)).alloc (.cells #[.int .i64 b.k, .int .i64 b.n, .string b.s] 30)) (w.heap.size + 1 + 1) _ _ (by simp))⟩
  rw [← hW_]
  clear hW_
  refine (nullV a true h _).mono ?_
  rintro e w4 ⟨rfl, hb4⟩
  have q_ := (B3.ext hb4).three (Below.refl _ _)
  have f_ := (B3.ext hb4).free3
  go_wp2
  clear q_ f_
  obtain ⟨wE, hwE, BE, hbE, _, _⟩ := (B3.ext hb4).set3 (.int .i64 0) (.int .i64 0) (.string ⟨#[]⟩)
  rw [← hwE]
  have q_ := BE.three (Below.refl _ _)
  exact bodyPost_ret (v := .agg #[.int .i64 0, .int .i64 0, .string ⟨#[]⟩]) (by simp [results, Try.results52, go_sem, q_]) rfl ⟨rfl, Below.trans (bch0 hbW hb4) (hbE _ (by omega))⟩
set_option maxHeartbeats 1000000 in
theorem pair4m (a b : V) (w : World) (h : (a.k == 0) = false) (h2 : (b.k == 0) = true) :
    Calls Try.prog 52 #[.int .i64 4, .agg #[.int .i64 a.k, .int .i64 a.n, .string a.s], .agg #[.int .i64 b.k, .int .i64 b.n, .string b.s]] w fun e w' => e = .returned (vv nul) ∧ Below w.heap.size w w' := by
  go_enter Try.func52, Try.ntmps52
  go_wp2_with fail
  obtain ⟨W, hW_, hbW, B1, B2, B3⟩ : ∃ W_, W_ = (((w.alloc (.cells #[.int .i64 a.k, .int .i64 a.n, .string a.s] 30)).alloc (.cells #[.int .i64 b.k, .int .i64 b.n, .string b.s] 30)).alloc (.cells #[.int .i64 0, .int .i64 0, .string ⟨#[]⟩] 30)) ∧ Below w.heap.size w W_ ∧ Blk W_ (w.heap.size) 30 #[.int .i64 a.k, .int .i64 a.n, .string a.s] ∧ Blk W_ (w.heap.size + 1) 30 #[.int .i64 b.k, .int .i64 b.n, .string b.s] ∧ Blk W_ (w.heap.size + 1 + 1) 30 #[.int .i64 0, .int .i64 0, .string ⟨#[]⟩] :=
    ⟨_, rfl, ((((Below.refl _ _).alloc (Nat.le_refl _) _).alloc (by simp; try omega) _).alloc (by simp; try omega) _), (((blk_new_at w (w.heap.size) _ _ (by simp)).alloc _).alloc _), ((blk_new_at (w.alloc (.cells #[.int .i64 a.k, .int .i64 a.n, .string a.s] 30)) (w.heap.size + 1) _ _ (by simp)).alloc _), (blk_new_at ((w.alloc (.cells #[.int .i64 a.k, .int .i64 a.n, .string a.s] 30)).alloc (.cells #[.int .i64 b.k, .int .i64 b.n, .string b.s] 30)) (w.heap.size + 1 + 1) _ _ (by simp))⟩
  rw [← hW_]
  clear hW_
  refine (nullV a false h _).mono ?_
  rintro e w3 ⟨rfl, hb3⟩
  have q2 := B2.three hb3
  go_wp2_with fail
  clear q2
  refine (nullV b true h2 _).mono ?_
  rintro e w4 ⟨rfl, hb4⟩
  have hb4 := bch0 hb3 hb4
  have q_ := (B3.ext hb4).three (Below.refl _ _)
  have f_ := (B3.ext hb4).free3
  go_wp2
  clear q_ f_
  obtain ⟨wE, hwE, BE, hbE, _, _⟩ := (B3.ext hb4).set3 (.int .i64 0) (.int .i64 0) (.string ⟨#[]⟩)
  rw [← hwE]
  have q_ := BE.three (Below.refl _ _)
  exact bodyPost_ret (v := .agg #[.int .i64 0, .int .i64 0, .string ⟨#[]⟩]) (by simp [results, Try.results52, go_sem, q_]) rfl ⟨rfl, Below.trans (bch0 hbW hb4) (hbE _ (by omega))⟩
set_option maxHeartbeats 1000000 in
theorem pair4k (a b : V) (w : World) (h : (a.k == 0) = false) (h2 : (b.k == 0) = false) (h3 : ok64 (nres 4 a.n b.n)) (ha : ok64 a.n) (hb : ok64 b.n) :
    Calls Try.prog 52 #[.int .i64 4, .agg #[.int .i64 a.k, .int .i64 a.n, .string a.s], .agg #[.int .i64 b.k, .int .i64 b.n, .string b.s]] w fun e w' => e = .returned (vv ⟨2, nres 4 a.n b.n, ByteArray.empty⟩) ∧ Below w.heap.size w w' := by
  go_enter Try.func52, Try.ntmps52
  go_wp2_with fail
  obtain ⟨W, hW_, hbW, B1, B2, B3⟩ : ∃ W_, W_ = (((w.alloc (.cells #[.int .i64 a.k, .int .i64 a.n, .string a.s] 30)).alloc (.cells #[.int .i64 b.k, .int .i64 b.n, .string b.s] 30)).alloc (.cells #[.int .i64 0, .int .i64 0, .string ⟨#[]⟩] 30)) ∧ Below w.heap.size w W_ ∧ Blk W_ (w.heap.size) 30 #[.int .i64 a.k, .int .i64 a.n, .string a.s] ∧ Blk W_ (w.heap.size + 1) 30 #[.int .i64 b.k, .int .i64 b.n, .string b.s] ∧ Blk W_ (w.heap.size + 1 + 1) 30 #[.int .i64 0, .int .i64 0, .string ⟨#[]⟩] :=
    ⟨_, rfl, ((((Below.refl _ _).alloc (Nat.le_refl _) _).alloc (by simp; try omega) _).alloc (by simp; try omega) _), (((blk_new_at w (w.heap.size) _ _ (by simp)).alloc _).alloc _), ((blk_new_at (w.alloc (.cells #[.int .i64 a.k, .int .i64 a.n, .string a.s] 30)) (w.heap.size + 1) _ _ (by simp)).alloc _), (blk_new_at ((w.alloc (.cells #[.int .i64 a.k, .int .i64 a.n, .string a.s] 30)).alloc (.cells #[.int .i64 b.k, .int .i64 b.n, .string b.s] 30)) (w.heap.size + 1 + 1) _ _ (by simp))⟩
  rw [← hW_]
  clear hW_
  refine (nullV a false h _).mono ?_
  rintro e w3 ⟨rfl, hb3⟩
  have q2 := B2.three hb3
  go_wp2_with fail
  clear q2
  refine (nullV b false h2 _).mono ?_
  rintro e w4 ⟨rfl, hb4⟩
  have hb4 := bch0 hb3 hb4
  have q1 := B1.three hb4
  have q2 := B2.three hb4
  go_wp2_with fail
  clear q1 q2
  obtain ⟨c, hc⟩ : ∃ c, cmpV a b = c := ⟨_, rfl⟩
  have HC := Lib.hid hc
  clear hc
  refine (compareVc a b c HC.out _).mono ?_
  rintro e w5 ⟨rfl, hb5⟩
  have hb5 := bch0 hb4 hb5
  have q1 := B1.three hb5
  have q2 := B2.three hb5
  go_wp2_with fail
  clear q1 q2
  refine (number_ok 4 a.n b.n _ (by omega) h3 ha hb).mono ?_
  rintro e w6 ⟨he, hb6⟩
  unfold vv at he
  subst he
  have hb6 := bch0 hb5 hb6
  have q_ := (B3.ext hb6).three (Below.refl _ _)
  have f_ := (B3.ext hb6).free3
  go_wp2
  clear q_ f_
  obtain ⟨wE, hwE, BE, hbE, _, _⟩ := (B3.ext hb6).set3 (.int .i64 2) (.int .i64 (nres 4 a.n b.n)) (.string ByteArray.empty)
  rw [← hwE]
  have q_ := BE.three (Below.refl _ _)
  exact bodyPost_ret (v := .agg #[.int .i64 2, .int .i64 (nres 4 a.n b.n), .string ByteArray.empty]) (by simp [results, Try.results52, go_sem, q_]) rfl ⟨rfl, Below.trans (bch0 hbW hb6) (hbE _ (by omega))⟩
set_option maxHeartbeats 1000000 in
theorem pair4o (a b : V) (w : World) (h : (a.k == 0) = false) (h2 : (b.k == 0) = false) (h3 : ¬ ok64 (nres 4 a.n b.n)) (ha : ok64 a.n) (hb : ok64 b.n) :
    Calls Try.prog 52 #[.int .i64 4, .agg #[.int .i64 a.k, .int .i64 a.n, .string a.s], .agg #[.int .i64 b.k, .int .i64 b.n, .string b.s]] w fun e w' => e = ovr ∧ Below w.heap.size w w' := by
  go_enter Try.func52, Try.ntmps52
  go_wp2_with fail
  obtain ⟨W, hW_, hbW, B1, B2, B3⟩ : ∃ W_, W_ = (((w.alloc (.cells #[.int .i64 a.k, .int .i64 a.n, .string a.s] 30)).alloc (.cells #[.int .i64 b.k, .int .i64 b.n, .string b.s] 30)).alloc (.cells #[.int .i64 0, .int .i64 0, .string ⟨#[]⟩] 30)) ∧ Below w.heap.size w W_ ∧ Blk W_ (w.heap.size) 30 #[.int .i64 a.k, .int .i64 a.n, .string a.s] ∧ Blk W_ (w.heap.size + 1) 30 #[.int .i64 b.k, .int .i64 b.n, .string b.s] ∧ Blk W_ (w.heap.size + 1 + 1) 30 #[.int .i64 0, .int .i64 0, .string ⟨#[]⟩] :=
    ⟨_, rfl, ((((Below.refl _ _).alloc (Nat.le_refl _) _).alloc (by simp; try omega) _).alloc (by simp; try omega) _), (((blk_new_at w (w.heap.size) _ _ (by simp)).alloc _).alloc _), ((blk_new_at (w.alloc (.cells #[.int .i64 a.k, .int .i64 a.n, .string a.s] 30)) (w.heap.size + 1) _ _ (by simp)).alloc _), (blk_new_at ((w.alloc (.cells #[.int .i64 a.k, .int .i64 a.n, .string a.s] 30)).alloc (.cells #[.int .i64 b.k, .int .i64 b.n, .string b.s] 30)) (w.heap.size + 1 + 1) _ _ (by simp))⟩
  rw [← hW_]
  clear hW_
  refine (nullV a false h _).mono ?_
  rintro e w3 ⟨rfl, hb3⟩
  have q2 := B2.three hb3
  go_wp2_with fail
  clear q2
  refine (nullV b false h2 _).mono ?_
  rintro e w4 ⟨rfl, hb4⟩
  have hb4 := bch0 hb3 hb4
  have q1 := B1.three hb4
  have q2 := B2.three hb4
  go_wp2_with fail
  clear q1 q2
  obtain ⟨c, hc⟩ : ∃ c, cmpV a b = c := ⟨_, rfl⟩
  have HC := Lib.hid hc
  clear hc
  refine (compareVc a b c HC.out _).mono ?_
  rintro e w5 ⟨rfl, hb5⟩
  have hb5 := bch0 hb4 hb5
  have q1 := B1.three hb5
  have q2 := B2.three hb5
  go_wp2_with fail
  clear q1 q2
  refine (number_over 4 a.n b.n _ (by omega) h3 ha hb).mono ?_
  rintro e w6 ⟨he, hb6⟩
  unfold ovr at he
  subst he
  have hb6 := bch0 hb5 hb6
  go_wp2
  exact ⟨rfl, rfl, bch0 hbW hb6⟩
set_option maxHeartbeats 1000000 in
theorem pair14n (a b : V) (w : World) (h : (a.k == 0) = true) :
    Calls Try.prog 52 #[.int .i64 14, .agg #[.int .i64 a.k, .int .i64 a.n, .string a.s], .agg #[.int .i64 b.k, .int .i64 b.n, .string b.s]] w fun e w' => e = .returned (vv nul) ∧ Below w.heap.size w w' := by
  go_enter Try.func52, Try.ntmps52
  go_wp2_with fail
  obtain ⟨W, hW_, hbW, B1, B2, B3⟩ : ∃ W_, W_ = (((w.alloc (.cells #[.int .i64 a.k, .int .i64 a.n, .string a.s] 30)).alloc (.cells #[.int .i64 b.k, .int .i64 b.n, .string b.s] 30)).alloc (.cells #[.int .i64 0, .int .i64 0, .string ⟨#[]⟩] 30)) ∧ Below w.heap.size w W_ ∧ Blk W_ (w.heap.size) 30 #[.int .i64 a.k, .int .i64 a.n, .string a.s] ∧ Blk W_ (w.heap.size + 1) 30 #[.int .i64 b.k, .int .i64 b.n, .string b.s] ∧ Blk W_ (w.heap.size + 1 + 1) 30 #[.int .i64 0, .int .i64 0, .string ⟨#[]⟩] :=
    ⟨_, rfl, ((((Below.refl _ _).alloc (Nat.le_refl _) _).alloc (by simp; try omega) _).alloc (by simp; try omega) _), (((blk_new_at w (w.heap.size) _ _ (by simp)).alloc _).alloc _), ((blk_new_at (w.alloc (.cells #[.int .i64 a.k, .int .i64 a.n, .string a.s] 30)) (w.heap.size + 1) _ _ (by simp)).alloc _), (blk_new_at ((w.alloc (.cells #[.int .i64 a.k, .int .i64 a.n, .string a.s] 30)).alloc (.cells #[.int .i64 b.k, .int .i64 b.n, .string b.s] 30)) (w.heap.size + 1 + 1) _ _ (by simp))⟩
  rw [← hW_]
  clear hW_
  refine (nullV a true h _).mono ?_
  rintro e w4 ⟨rfl, hb4⟩
  have q_ := (B3.ext hb4).three (Below.refl _ _)
  have f_ := (B3.ext hb4).free3
  go_wp2
  clear q_ f_
  obtain ⟨wE, hwE, BE, hbE, _, _⟩ := (B3.ext hb4).set3 (.int .i64 0) (.int .i64 0) (.string ⟨#[]⟩)
  rw [← hwE]
  have q_ := BE.three (Below.refl _ _)
  exact bodyPost_ret (v := .agg #[.int .i64 0, .int .i64 0, .string ⟨#[]⟩]) (by simp [results, Try.results52, go_sem, q_]) rfl ⟨rfl, Below.trans (bch0 hbW hb4) (hbE _ (by omega))⟩
set_option maxHeartbeats 1000000 in
theorem pair14m (a b : V) (w : World) (h : (a.k == 0) = false) (h2 : (b.k == 0) = true) :
    Calls Try.prog 52 #[.int .i64 14, .agg #[.int .i64 a.k, .int .i64 a.n, .string a.s], .agg #[.int .i64 b.k, .int .i64 b.n, .string b.s]] w fun e w' => e = .returned (vv nul) ∧ Below w.heap.size w w' := by
  go_enter Try.func52, Try.ntmps52
  go_wp2_with fail
  obtain ⟨W, hW_, hbW, B1, B2, B3⟩ : ∃ W_, W_ = (((w.alloc (.cells #[.int .i64 a.k, .int .i64 a.n, .string a.s] 30)).alloc (.cells #[.int .i64 b.k, .int .i64 b.n, .string b.s] 30)).alloc (.cells #[.int .i64 0, .int .i64 0, .string ⟨#[]⟩] 30)) ∧ Below w.heap.size w W_ ∧ Blk W_ (w.heap.size) 30 #[.int .i64 a.k, .int .i64 a.n, .string a.s] ∧ Blk W_ (w.heap.size + 1) 30 #[.int .i64 b.k, .int .i64 b.n, .string b.s] ∧ Blk W_ (w.heap.size + 1 + 1) 30 #[.int .i64 0, .int .i64 0, .string ⟨#[]⟩] :=
    ⟨_, rfl, ((((Below.refl _ _).alloc (Nat.le_refl _) _).alloc (by simp; try omega) _).alloc (by simp; try omega) _), (((blk_new_at w (w.heap.size) _ _ (by simp)).alloc _).alloc _), ((blk_new_at (w.alloc (.cells #[.int .i64 a.k, .int .i64 a.n, .string a.s] 30)) (w.heap.size + 1) _ _ (by simp)).alloc _), (blk_new_at ((w.alloc (.cells #[.int .i64 a.k, .int .i64 a.n, .string a.s] 30)).alloc (.cells #[.int .i64 b.k, .int .i64 b.n, .string b.s] 30)) (w.heap.size + 1 + 1) _ _ (by simp))⟩
  rw [← hW_]
  clear hW_
  refine (nullV a false h _).mono ?_
  rintro e w3 ⟨rfl, hb3⟩
  have q2 := B2.three hb3
  go_wp2_with fail
  clear q2
  refine (nullV b true h2 _).mono ?_
  rintro e w4 ⟨rfl, hb4⟩
  have hb4 := bch0 hb3 hb4
  have q_ := (B3.ext hb4).three (Below.refl _ _)
  have f_ := (B3.ext hb4).free3
  go_wp2
  clear q_ f_
  obtain ⟨wE, hwE, BE, hbE, _, _⟩ := (B3.ext hb4).set3 (.int .i64 0) (.int .i64 0) (.string ⟨#[]⟩)
  rw [← hwE]
  have q_ := BE.three (Below.refl _ _)
  exact bodyPost_ret (v := .agg #[.int .i64 0, .int .i64 0, .string ⟨#[]⟩]) (by simp [results, Try.results52, go_sem, q_]) rfl ⟨rfl, Below.trans (bch0 hbW hb4) (hbE _ (by omega))⟩
set_option maxHeartbeats 1000000 in
theorem pair14k (a b : V) (w : World) (h : (a.k == 0) = false) (h2 : (b.k == 0) = false) (h3 : ok64 (nres 14 a.n b.n)) (ha : ok64 a.n) (hb : ok64 b.n) :
    Calls Try.prog 52 #[.int .i64 14, .agg #[.int .i64 a.k, .int .i64 a.n, .string a.s], .agg #[.int .i64 b.k, .int .i64 b.n, .string b.s]] w fun e w' => e = .returned (vv ⟨2, nres 14 a.n b.n, ByteArray.empty⟩) ∧ Below w.heap.size w w' := by
  go_enter Try.func52, Try.ntmps52
  go_wp2_with fail
  obtain ⟨W, hW_, hbW, B1, B2, B3⟩ : ∃ W_, W_ = (((w.alloc (.cells #[.int .i64 a.k, .int .i64 a.n, .string a.s] 30)).alloc (.cells #[.int .i64 b.k, .int .i64 b.n, .string b.s] 30)).alloc (.cells #[.int .i64 0, .int .i64 0, .string ⟨#[]⟩] 30)) ∧ Below w.heap.size w W_ ∧ Blk W_ (w.heap.size) 30 #[.int .i64 a.k, .int .i64 a.n, .string a.s] ∧ Blk W_ (w.heap.size + 1) 30 #[.int .i64 b.k, .int .i64 b.n, .string b.s] ∧ Blk W_ (w.heap.size + 1 + 1) 30 #[.int .i64 0, .int .i64 0, .string ⟨#[]⟩] :=
    ⟨_, rfl, ((((Below.refl _ _).alloc (Nat.le_refl _) _).alloc (by simp; try omega) _).alloc (by simp; try omega) _), (((blk_new_at w (w.heap.size) _ _ (by simp)).alloc _).alloc _), ((blk_new_at (w.alloc (.cells #[.int .i64 a.k, .int .i64 a.n, .string a.s] 30)) (w.heap.size + 1) _ _ (by simp)).alloc _), (blk_new_at ((w.alloc (.cells #[.int .i64 a.k, .int .i64 a.n, .string a.s] 30)).alloc (.cells #[.int .i64 b.k, .int .i64 b.n, .string b.s] 30)) (w.heap.size + 1 + 1) _ _ (by simp))⟩
  rw [← hW_]
  clear hW_
  refine (nullV a false h _).mono ?_
  rintro e w3 ⟨rfl, hb3⟩
  have q2 := B2.three hb3
  go_wp2_with fail
  clear q2
  refine (nullV b false h2 _).mono ?_
  rintro e w4 ⟨rfl, hb4⟩
  have hb4 := bch0 hb3 hb4
  have q1 := B1.three hb4
  have q2 := B2.three hb4
  go_wp2_with fail
  clear q1 q2
  obtain ⟨c, hc⟩ : ∃ c, cmpV a b = c := ⟨_, rfl⟩
  have HC := Lib.hid hc
  clear hc
  refine (compareVc a b c HC.out _).mono ?_
  rintro e w5 ⟨rfl, hb5⟩
  have hb5 := bch0 hb4 hb5
  have q1 := B1.three hb5
  have q2 := B2.three hb5
  go_wp2_with fail
  clear q1 q2
  refine (number_ok 14 a.n b.n _ (by omega) h3 ha hb).mono ?_
  rintro e w6 ⟨he, hb6⟩
  unfold vv at he
  subst he
  have hb6 := bch0 hb5 hb6
  have q_ := (B3.ext hb6).three (Below.refl _ _)
  have f_ := (B3.ext hb6).free3
  go_wp2
  clear q_ f_
  obtain ⟨wE, hwE, BE, hbE, _, _⟩ := (B3.ext hb6).set3 (.int .i64 2) (.int .i64 (nres 14 a.n b.n)) (.string ByteArray.empty)
  rw [← hwE]
  have q_ := BE.three (Below.refl _ _)
  exact bodyPost_ret (v := .agg #[.int .i64 2, .int .i64 (nres 14 a.n b.n), .string ByteArray.empty]) (by simp [results, Try.results52, go_sem, q_]) rfl ⟨rfl, Below.trans (bch0 hbW hb6) (hbE _ (by omega))⟩
set_option maxHeartbeats 1000000 in
theorem pair14o (a b : V) (w : World) (h : (a.k == 0) = false) (h2 : (b.k == 0) = false) (h3 : ¬ ok64 (nres 14 a.n b.n)) (ha : ok64 a.n) (hb : ok64 b.n) :
    Calls Try.prog 52 #[.int .i64 14, .agg #[.int .i64 a.k, .int .i64 a.n, .string a.s], .agg #[.int .i64 b.k, .int .i64 b.n, .string b.s]] w fun e w' => e = ovr ∧ Below w.heap.size w w' := by
  go_enter Try.func52, Try.ntmps52
  go_wp2_with fail
  obtain ⟨W, hW_, hbW, B1, B2, B3⟩ : ∃ W_, W_ = (((w.alloc (.cells #[.int .i64 a.k, .int .i64 a.n, .string a.s] 30)).alloc (.cells #[.int .i64 b.k, .int .i64 b.n, .string b.s] 30)).alloc (.cells #[.int .i64 0, .int .i64 0, .string ⟨#[]⟩] 30)) ∧ Below w.heap.size w W_ ∧ Blk W_ (w.heap.size) 30 #[.int .i64 a.k, .int .i64 a.n, .string a.s] ∧ Blk W_ (w.heap.size + 1) 30 #[.int .i64 b.k, .int .i64 b.n, .string b.s] ∧ Blk W_ (w.heap.size + 1 + 1) 30 #[.int .i64 0, .int .i64 0, .string ⟨#[]⟩] :=
    ⟨_, rfl, ((((Below.refl _ _).alloc (Nat.le_refl _) _).alloc (by simp; try omega) _).alloc (by simp; try omega) _), (((blk_new_at w (w.heap.size) _ _ (by simp)).alloc _).alloc _), ((blk_new_at (w.alloc (.cells #[.int .i64 a.k, .int .i64 a.n, .string a.s] 30)) (w.heap.size + 1) _ _ (by simp)).alloc _), (blk_new_at ((w.alloc (.cells #[.int .i64 a.k, .int .i64 a.n, .string a.s] 30)).alloc (.cells #[.int .i64 b.k, .int .i64 b.n, .string b.s] 30)) (w.heap.size + 1 + 1) _ _ (by simp))⟩
  rw [← hW_]
  clear hW_
  refine (nullV a false h _).mono ?_
  rintro e w3 ⟨rfl, hb3⟩
  have q2 := B2.three hb3
  go_wp2_with fail
  clear q2
  refine (nullV b false h2 _).mono ?_
  rintro e w4 ⟨rfl, hb4⟩
  have hb4 := bch0 hb3 hb4
  have q1 := B1.three hb4
  have q2 := B2.three hb4
  go_wp2_with fail
  clear q1 q2
  obtain ⟨c, hc⟩ : ∃ c, cmpV a b = c := ⟨_, rfl⟩
  have HC := Lib.hid hc
  clear hc
  refine (compareVc a b c HC.out _).mono ?_
  rintro e w5 ⟨rfl, hb5⟩
  have hb5 := bch0 hb4 hb5
  have q1 := B1.three hb5
  have q2 := B2.three hb5
  go_wp2_with fail
  clear q1 q2
  refine (number_over 14 a.n b.n _ (by omega) h3 ha hb).mono ?_
  rintro e w6 ⟨he, hb6⟩
  unfold ovr at he
  subst he
  have hb6 := bch0 hb5 hb6
  go_wp2
  exact ⟨rfl, rfl, bch0 hbW hb6⟩
set_option maxHeartbeats 1000000 in
theorem pair15n (a b : V) (w : World) (h : (a.k == 0) = true) :
    Calls Try.prog 52 #[.int .i64 15, .agg #[.int .i64 a.k, .int .i64 a.n, .string a.s], .agg #[.int .i64 b.k, .int .i64 b.n, .string b.s]] w fun e w' => e = .returned (vv nul) ∧ Below w.heap.size w w' := by
  go_enter Try.func52, Try.ntmps52
  go_wp2_with fail
  obtain ⟨W, hW_, hbW, B1, B2, B3⟩ : ∃ W_, W_ = (((w.alloc (.cells #[.int .i64 a.k, .int .i64 a.n, .string a.s] 30)).alloc (.cells #[.int .i64 b.k, .int .i64 b.n, .string b.s] 30)).alloc (.cells #[.int .i64 0, .int .i64 0, .string ⟨#[]⟩] 30)) ∧ Below w.heap.size w W_ ∧ Blk W_ (w.heap.size) 30 #[.int .i64 a.k, .int .i64 a.n, .string a.s] ∧ Blk W_ (w.heap.size + 1) 30 #[.int .i64 b.k, .int .i64 b.n, .string b.s] ∧ Blk W_ (w.heap.size + 1 + 1) 30 #[.int .i64 0, .int .i64 0, .string ⟨#[]⟩] :=
    ⟨_, rfl, ((((Below.refl _ _).alloc (Nat.le_refl _) _).alloc (by simp; try omega) _).alloc (by simp; try omega) _), (((blk_new_at w (w.heap.size) _ _ (by simp)).alloc _).alloc _), ((blk_new_at (w.alloc (.cells #[.int .i64 a.k, .int .i64 a.n, .string a.s] 30)) (w.heap.size + 1) _ _ (by simp)).alloc _), (blk_new_at ((w.alloc (.cells #[.int .i64 a.k, .int .i64 a.n, .string a.s] 30)).alloc (.cells #[.int .i64 b.k, .int .i64 b.n, .string b.s] 30)) (w.heap.size + 1 + 1) _ _ (by simp))⟩
  rw [← hW_]
  clear hW_
  refine (nullV a true h _).mono ?_
  rintro e w4 ⟨rfl, hb4⟩
  have q_ := (B3.ext hb4).three (Below.refl _ _)
  have f_ := (B3.ext hb4).free3
  go_wp2
  clear q_ f_
  obtain ⟨wE, hwE, BE, hbE, _, _⟩ := (B3.ext hb4).set3 (.int .i64 0) (.int .i64 0) (.string ⟨#[]⟩)
  rw [← hwE]
  have q_ := BE.three (Below.refl _ _)
  exact bodyPost_ret (v := .agg #[.int .i64 0, .int .i64 0, .string ⟨#[]⟩]) (by simp [results, Try.results52, go_sem, q_]) rfl ⟨rfl, Below.trans (bch0 hbW hb4) (hbE _ (by omega))⟩
set_option maxHeartbeats 1000000 in
theorem pair15m (a b : V) (w : World) (h : (a.k == 0) = false) (h2 : (b.k == 0) = true) :
    Calls Try.prog 52 #[.int .i64 15, .agg #[.int .i64 a.k, .int .i64 a.n, .string a.s], .agg #[.int .i64 b.k, .int .i64 b.n, .string b.s]] w fun e w' => e = .returned (vv nul) ∧ Below w.heap.size w w' := by
  go_enter Try.func52, Try.ntmps52
  go_wp2_with fail
  obtain ⟨W, hW_, hbW, B1, B2, B3⟩ : ∃ W_, W_ = (((w.alloc (.cells #[.int .i64 a.k, .int .i64 a.n, .string a.s] 30)).alloc (.cells #[.int .i64 b.k, .int .i64 b.n, .string b.s] 30)).alloc (.cells #[.int .i64 0, .int .i64 0, .string ⟨#[]⟩] 30)) ∧ Below w.heap.size w W_ ∧ Blk W_ (w.heap.size) 30 #[.int .i64 a.k, .int .i64 a.n, .string a.s] ∧ Blk W_ (w.heap.size + 1) 30 #[.int .i64 b.k, .int .i64 b.n, .string b.s] ∧ Blk W_ (w.heap.size + 1 + 1) 30 #[.int .i64 0, .int .i64 0, .string ⟨#[]⟩] :=
    ⟨_, rfl, ((((Below.refl _ _).alloc (Nat.le_refl _) _).alloc (by simp; try omega) _).alloc (by simp; try omega) _), (((blk_new_at w (w.heap.size) _ _ (by simp)).alloc _).alloc _), ((blk_new_at (w.alloc (.cells #[.int .i64 a.k, .int .i64 a.n, .string a.s] 30)) (w.heap.size + 1) _ _ (by simp)).alloc _), (blk_new_at ((w.alloc (.cells #[.int .i64 a.k, .int .i64 a.n, .string a.s] 30)).alloc (.cells #[.int .i64 b.k, .int .i64 b.n, .string b.s] 30)) (w.heap.size + 1 + 1) _ _ (by simp))⟩
  rw [← hW_]
  clear hW_
  refine (nullV a false h _).mono ?_
  rintro e w3 ⟨rfl, hb3⟩
  have q2 := B2.three hb3
  go_wp2_with fail
  clear q2
  refine (nullV b true h2 _).mono ?_
  rintro e w4 ⟨rfl, hb4⟩
  have hb4 := bch0 hb3 hb4
  have q_ := (B3.ext hb4).three (Below.refl _ _)
  have f_ := (B3.ext hb4).free3
  go_wp2
  clear q_ f_
  obtain ⟨wE, hwE, BE, hbE, _, _⟩ := (B3.ext hb4).set3 (.int .i64 0) (.int .i64 0) (.string ⟨#[]⟩)
  rw [← hwE]
  have q_ := BE.three (Below.refl _ _)
  exact bodyPost_ret (v := .agg #[.int .i64 0, .int .i64 0, .string ⟨#[]⟩]) (by simp [results, Try.results52, go_sem, q_]) rfl ⟨rfl, Below.trans (bch0 hbW hb4) (hbE _ (by omega))⟩
set_option maxHeartbeats 1000000 in
theorem pair15k (a b : V) (w : World) (h : (a.k == 0) = false) (h2 : (b.k == 0) = false) (h3 : ok64 (nres 15 a.n b.n)) (ha : ok64 a.n) (hb : ok64 b.n) :
    Calls Try.prog 52 #[.int .i64 15, .agg #[.int .i64 a.k, .int .i64 a.n, .string a.s], .agg #[.int .i64 b.k, .int .i64 b.n, .string b.s]] w fun e w' => e = .returned (vv ⟨2, nres 15 a.n b.n, ByteArray.empty⟩) ∧ Below w.heap.size w w' := by
  go_enter Try.func52, Try.ntmps52
  go_wp2_with fail
  obtain ⟨W, hW_, hbW, B1, B2, B3⟩ : ∃ W_, W_ = (((w.alloc (.cells #[.int .i64 a.k, .int .i64 a.n, .string a.s] 30)).alloc (.cells #[.int .i64 b.k, .int .i64 b.n, .string b.s] 30)).alloc (.cells #[.int .i64 0, .int .i64 0, .string ⟨#[]⟩] 30)) ∧ Below w.heap.size w W_ ∧ Blk W_ (w.heap.size) 30 #[.int .i64 a.k, .int .i64 a.n, .string a.s] ∧ Blk W_ (w.heap.size + 1) 30 #[.int .i64 b.k, .int .i64 b.n, .string b.s] ∧ Blk W_ (w.heap.size + 1 + 1) 30 #[.int .i64 0, .int .i64 0, .string ⟨#[]⟩] :=
    ⟨_, rfl, ((((Below.refl _ _).alloc (Nat.le_refl _) _).alloc (by simp; try omega) _).alloc (by simp; try omega) _), (((blk_new_at w (w.heap.size) _ _ (by simp)).alloc _).alloc _), ((blk_new_at (w.alloc (.cells #[.int .i64 a.k, .int .i64 a.n, .string a.s] 30)) (w.heap.size + 1) _ _ (by simp)).alloc _), (blk_new_at ((w.alloc (.cells #[.int .i64 a.k, .int .i64 a.n, .string a.s] 30)).alloc (.cells #[.int .i64 b.k, .int .i64 b.n, .string b.s] 30)) (w.heap.size + 1 + 1) _ _ (by simp))⟩
  rw [← hW_]
  clear hW_
  refine (nullV a false h _).mono ?_
  rintro e w3 ⟨rfl, hb3⟩
  have q2 := B2.three hb3
  go_wp2_with fail
  clear q2
  refine (nullV b false h2 _).mono ?_
  rintro e w4 ⟨rfl, hb4⟩
  have hb4 := bch0 hb3 hb4
  have q1 := B1.three hb4
  have q2 := B2.three hb4
  go_wp2_with fail
  clear q1 q2
  obtain ⟨c, hc⟩ : ∃ c, cmpV a b = c := ⟨_, rfl⟩
  have HC := Lib.hid hc
  clear hc
  refine (compareVc a b c HC.out _).mono ?_
  rintro e w5 ⟨rfl, hb5⟩
  have hb5 := bch0 hb4 hb5
  have q1 := B1.three hb5
  have q2 := B2.three hb5
  go_wp2_with fail
  clear q1 q2
  refine (number_ok 15 a.n b.n _ (by omega) h3 ha hb).mono ?_
  rintro e w6 ⟨he, hb6⟩
  unfold vv at he
  subst he
  have hb6 := bch0 hb5 hb6
  have q_ := (B3.ext hb6).three (Below.refl _ _)
  have f_ := (B3.ext hb6).free3
  go_wp2
  clear q_ f_
  obtain ⟨wE, hwE, BE, hbE, _, _⟩ := (B3.ext hb6).set3 (.int .i64 2) (.int .i64 (nres 15 a.n b.n)) (.string ByteArray.empty)
  rw [← hwE]
  have q_ := BE.three (Below.refl _ _)
  exact bodyPost_ret (v := .agg #[.int .i64 2, .int .i64 (nres 15 a.n b.n), .string ByteArray.empty]) (by simp [results, Try.results52, go_sem, q_]) rfl ⟨rfl, Below.trans (bch0 hbW hb6) (hbE _ (by omega))⟩
set_option maxHeartbeats 1000000 in
theorem pair15o (a b : V) (w : World) (h : (a.k == 0) = false) (h2 : (b.k == 0) = false) (h3 : ¬ ok64 (nres 15 a.n b.n)) (ha : ok64 a.n) (hb : ok64 b.n) :
    Calls Try.prog 52 #[.int .i64 15, .agg #[.int .i64 a.k, .int .i64 a.n, .string a.s], .agg #[.int .i64 b.k, .int .i64 b.n, .string b.s]] w fun e w' => e = ovr ∧ Below w.heap.size w w' := by
  go_enter Try.func52, Try.ntmps52
  go_wp2_with fail
  obtain ⟨W, hW_, hbW, B1, B2, B3⟩ : ∃ W_, W_ = (((w.alloc (.cells #[.int .i64 a.k, .int .i64 a.n, .string a.s] 30)).alloc (.cells #[.int .i64 b.k, .int .i64 b.n, .string b.s] 30)).alloc (.cells #[.int .i64 0, .int .i64 0, .string ⟨#[]⟩] 30)) ∧ Below w.heap.size w W_ ∧ Blk W_ (w.heap.size) 30 #[.int .i64 a.k, .int .i64 a.n, .string a.s] ∧ Blk W_ (w.heap.size + 1) 30 #[.int .i64 b.k, .int .i64 b.n, .string b.s] ∧ Blk W_ (w.heap.size + 1 + 1) 30 #[.int .i64 0, .int .i64 0, .string ⟨#[]⟩] :=
    ⟨_, rfl, ((((Below.refl _ _).alloc (Nat.le_refl _) _).alloc (by simp; try omega) _).alloc (by simp; try omega) _), (((blk_new_at w (w.heap.size) _ _ (by simp)).alloc _).alloc _), ((blk_new_at (w.alloc (.cells #[.int .i64 a.k, .int .i64 a.n, .string a.s] 30)) (w.heap.size + 1) _ _ (by simp)).alloc _), (blk_new_at ((w.alloc (.cells #[.int .i64 a.k, .int .i64 a.n, .string a.s] 30)).alloc (.cells #[.int .i64 b.k, .int .i64 b.n, .string b.s] 30)) (w.heap.size + 1 + 1) _ _ (by simp))⟩
  rw [← hW_]
  clear hW_
  refine (nullV a false h _).mono ?_
  rintro e w3 ⟨rfl, hb3⟩
  have q2 := B2.three hb3
  go_wp2_with fail
  clear q2
  refine (nullV b false h2 _).mono ?_
  rintro e w4 ⟨rfl, hb4⟩
  have hb4 := bch0 hb3 hb4
  have q1 := B1.three hb4
  have q2 := B2.three hb4
  go_wp2_with fail
  clear q1 q2
  obtain ⟨c, hc⟩ : ∃ c, cmpV a b = c := ⟨_, rfl⟩
  have HC := Lib.hid hc
  clear hc
  refine (compareVc a b c HC.out _).mono ?_
  rintro e w5 ⟨rfl, hb5⟩
  have hb5 := bch0 hb4 hb5
  have q1 := B1.three hb5
  have q2 := B2.three hb5
  go_wp2_with fail
  clear q1 q2
  refine (number_over 15 a.n b.n _ (by omega) h3 ha hb).mono ?_
  rintro e w6 ⟨he, hb6⟩
  unfold ovr at he
  subst he
  have hb6 := bch0 hb5 hb6
  go_wp2
  exact ⟨rfl, rfl, bch0 hbW hb6⟩
set_option maxHeartbeats 1000000 in
theorem pair16n (a b : V) (w : World) (h : (a.k == 0) = true) :
    Calls Try.prog 52 #[.int .i64 16, .agg #[.int .i64 a.k, .int .i64 a.n, .string a.s], .agg #[.int .i64 b.k, .int .i64 b.n, .string b.s]] w fun e w' => e = .returned (vv nul) ∧ Below w.heap.size w w' := by
  go_enter Try.func52, Try.ntmps52
  go_wp2_with fail
  obtain ⟨W, hW_, hbW, B1, B2, B3⟩ : ∃ W_, W_ = (((w.alloc (.cells #[.int .i64 a.k, .int .i64 a.n, .string a.s] 30)).alloc (.cells #[.int .i64 b.k, .int .i64 b.n, .string b.s] 30)).alloc (.cells #[.int .i64 0, .int .i64 0, .string ⟨#[]⟩] 30)) ∧ Below w.heap.size w W_ ∧ Blk W_ (w.heap.size) 30 #[.int .i64 a.k, .int .i64 a.n, .string a.s] ∧ Blk W_ (w.heap.size + 1) 30 #[.int .i64 b.k, .int .i64 b.n, .string b.s] ∧ Blk W_ (w.heap.size + 1 + 1) 30 #[.int .i64 0, .int .i64 0, .string ⟨#[]⟩] :=
    ⟨_, rfl, ((((Below.refl _ _).alloc (Nat.le_refl _) _).alloc (by simp; try omega) _).alloc (by simp; try omega) _), (((blk_new_at w (w.heap.size) _ _ (by simp)).alloc _).alloc _), ((blk_new_at (w.alloc (.cells #[.int .i64 a.k, .int .i64 a.n, .string a.s] 30)) (w.heap.size + 1) _ _ (by simp)).alloc _), (blk_new_at ((w.alloc (.cells #[.int .i64 a.k, .int .i64 a.n, .string a.s] 30)).alloc (.cells #[.int .i64 b.k, .int .i64 b.n, .string b.s] 30)) (w.heap.size + 1 + 1) _ _ (by simp))⟩
  rw [← hW_]
  clear hW_
  refine (nullV a true h _).mono ?_
  rintro e w4 ⟨rfl, hb4⟩
  have q_ := (B3.ext hb4).three (Below.refl _ _)
  have f_ := (B3.ext hb4).free3
  go_wp2
  clear q_ f_
  obtain ⟨wE, hwE, BE, hbE, _, _⟩ := (B3.ext hb4).set3 (.int .i64 0) (.int .i64 0) (.string ⟨#[]⟩)
  rw [← hwE]
  have q_ := BE.three (Below.refl _ _)
  exact bodyPost_ret (v := .agg #[.int .i64 0, .int .i64 0, .string ⟨#[]⟩]) (by simp [results, Try.results52, go_sem, q_]) rfl ⟨rfl, Below.trans (bch0 hbW hb4) (hbE _ (by omega))⟩
set_option maxHeartbeats 1000000 in
theorem pair16m (a b : V) (w : World) (h : (a.k == 0) = false) (h2 : (b.k == 0) = true) :
    Calls Try.prog 52 #[.int .i64 16, .agg #[.int .i64 a.k, .int .i64 a.n, .string a.s], .agg #[.int .i64 b.k, .int .i64 b.n, .string b.s]] w fun e w' => e = .returned (vv nul) ∧ Below w.heap.size w w' := by
  go_enter Try.func52, Try.ntmps52
  go_wp2_with fail
  obtain ⟨W, hW_, hbW, B1, B2, B3⟩ : ∃ W_, W_ = (((w.alloc (.cells #[.int .i64 a.k, .int .i64 a.n, .string a.s] 30)).alloc (.cells #[.int .i64 b.k, .int .i64 b.n, .string b.s] 30)).alloc (.cells #[.int .i64 0, .int .i64 0, .string ⟨#[]⟩] 30)) ∧ Below w.heap.size w W_ ∧ Blk W_ (w.heap.size) 30 #[.int .i64 a.k, .int .i64 a.n, .string a.s] ∧ Blk W_ (w.heap.size + 1) 30 #[.int .i64 b.k, .int .i64 b.n, .string b.s] ∧ Blk W_ (w.heap.size + 1 + 1) 30 #[.int .i64 0, .int .i64 0, .string ⟨#[]⟩] :=
    ⟨_, rfl, ((((Below.refl _ _).alloc (Nat.le_refl _) _).alloc (by simp; try omega) _).alloc (by simp; try omega) _), (((blk_new_at w (w.heap.size) _ _ (by simp)).alloc _).alloc _), ((blk_new_at (w.alloc (.cells #[.int .i64 a.k, .int .i64 a.n, .string a.s] 30)) (w.heap.size + 1) _ _ (by simp)).alloc _), (blk_new_at ((w.alloc (.cells #[.int .i64 a.k, .int .i64 a.n, .string a.s] 30)).alloc (.cells #[.int .i64 b.k, .int .i64 b.n, .string b.s] 30)) (w.heap.size + 1 + 1) _ _ (by simp))⟩
  rw [← hW_]
  clear hW_
  refine (nullV a false h _).mono ?_
  rintro e w3 ⟨rfl, hb3⟩
  have q2 := B2.three hb3
  go_wp2_with fail
  clear q2
  refine (nullV b true h2 _).mono ?_
  rintro e w4 ⟨rfl, hb4⟩
  have hb4 := bch0 hb3 hb4
  have q_ := (B3.ext hb4).three (Below.refl _ _)
  have f_ := (B3.ext hb4).free3
  go_wp2
  clear q_ f_
  obtain ⟨wE, hwE, BE, hbE, _, _⟩ := (B3.ext hb4).set3 (.int .i64 0) (.int .i64 0) (.string ⟨#[]⟩)
  rw [← hwE]
  have q_ := BE.three (Below.refl _ _)
  exact bodyPost_ret (v := .agg #[.int .i64 0, .int .i64 0, .string ⟨#[]⟩]) (by simp [results, Try.results52, go_sem, q_]) rfl ⟨rfl, Below.trans (bch0 hbW hb4) (hbE _ (by omega))⟩
set_option maxHeartbeats 1000000 in
theorem pair16k (a b : V) (w : World) (h : (a.k == 0) = false) (h2 : (b.k == 0) = false) (h3 : ok64 (nres 16 a.n b.n)) (ha : ok64 a.n) (hb : ok64 b.n) :
    Calls Try.prog 52 #[.int .i64 16, .agg #[.int .i64 a.k, .int .i64 a.n, .string a.s], .agg #[.int .i64 b.k, .int .i64 b.n, .string b.s]] w fun e w' => e = .returned (vv ⟨2, nres 16 a.n b.n, ByteArray.empty⟩) ∧ Below w.heap.size w w' := by
  go_enter Try.func52, Try.ntmps52
  go_wp2_with fail
  obtain ⟨W, hW_, hbW, B1, B2, B3⟩ : ∃ W_, W_ = (((w.alloc (.cells #[.int .i64 a.k, .int .i64 a.n, .string a.s] 30)).alloc (.cells #[.int .i64 b.k, .int .i64 b.n, .string b.s] 30)).alloc (.cells #[.int .i64 0, .int .i64 0, .string ⟨#[]⟩] 30)) ∧ Below w.heap.size w W_ ∧ Blk W_ (w.heap.size) 30 #[.int .i64 a.k, .int .i64 a.n, .string a.s] ∧ Blk W_ (w.heap.size + 1) 30 #[.int .i64 b.k, .int .i64 b.n, .string b.s] ∧ Blk W_ (w.heap.size + 1 + 1) 30 #[.int .i64 0, .int .i64 0, .string ⟨#[]⟩] :=
    ⟨_, rfl, ((((Below.refl _ _).alloc (Nat.le_refl _) _).alloc (by simp; try omega) _).alloc (by simp; try omega) _), (((blk_new_at w (w.heap.size) _ _ (by simp)).alloc _).alloc _), ((blk_new_at (w.alloc (.cells #[.int .i64 a.k, .int .i64 a.n, .string a.s] 30)) (w.heap.size + 1) _ _ (by simp)).alloc _), (blk_new_at ((w.alloc (.cells #[.int .i64 a.k, .int .i64 a.n, .string a.s] 30)).alloc (.cells #[.int .i64 b.k, .int .i64 b.n, .string b.s] 30)) (w.heap.size + 1 + 1) _ _ (by simp))⟩
  rw [← hW_]
  clear hW_
  refine (nullV a false h _).mono ?_
  rintro e w3 ⟨rfl, hb3⟩
  have q2 := B2.three hb3
  go_wp2_with fail
  clear q2
  refine (nullV b false h2 _).mono ?_
  rintro e w4 ⟨rfl, hb4⟩
  have hb4 := bch0 hb3 hb4
  have q1 := B1.three hb4
  have q2 := B2.three hb4
  go_wp2_with fail
  clear q1 q2
  obtain ⟨c, hc⟩ : ∃ c, cmpV a b = c := ⟨_, rfl⟩
  have HC := Lib.hid hc
  clear hc
  refine (compareVc a b c HC.out _).mono ?_
  rintro e w5 ⟨rfl, hb5⟩
  have hb5 := bch0 hb4 hb5
  have q1 := B1.three hb5
  have q2 := B2.three hb5
  go_wp2_with fail
  clear q1 q2
  refine (number_ok 16 a.n b.n _ (by omega) h3 ha hb).mono ?_
  rintro e w6 ⟨he, hb6⟩
  unfold vv at he
  subst he
  have hb6 := bch0 hb5 hb6
  have q_ := (B3.ext hb6).three (Below.refl _ _)
  have f_ := (B3.ext hb6).free3
  go_wp2
  clear q_ f_
  obtain ⟨wE, hwE, BE, hbE, _, _⟩ := (B3.ext hb6).set3 (.int .i64 2) (.int .i64 (nres 16 a.n b.n)) (.string ByteArray.empty)
  rw [← hwE]
  have q_ := BE.three (Below.refl _ _)
  exact bodyPost_ret (v := .agg #[.int .i64 2, .int .i64 (nres 16 a.n b.n), .string ByteArray.empty]) (by simp [results, Try.results52, go_sem, q_]) rfl ⟨rfl, Below.trans (bch0 hbW hb6) (hbE _ (by omega))⟩
set_option maxHeartbeats 1000000 in
theorem pair16o (a b : V) (w : World) (h : (a.k == 0) = false) (h2 : (b.k == 0) = false) (h3 : ¬ ok64 (nres 16 a.n b.n)) (ha : ok64 a.n) (hb : ok64 b.n) :
    Calls Try.prog 52 #[.int .i64 16, .agg #[.int .i64 a.k, .int .i64 a.n, .string a.s], .agg #[.int .i64 b.k, .int .i64 b.n, .string b.s]] w fun e w' => e = ovr ∧ Below w.heap.size w w' := by
  go_enter Try.func52, Try.ntmps52
  go_wp2_with fail
  obtain ⟨W, hW_, hbW, B1, B2, B3⟩ : ∃ W_, W_ = (((w.alloc (.cells #[.int .i64 a.k, .int .i64 a.n, .string a.s] 30)).alloc (.cells #[.int .i64 b.k, .int .i64 b.n, .string b.s] 30)).alloc (.cells #[.int .i64 0, .int .i64 0, .string ⟨#[]⟩] 30)) ∧ Below w.heap.size w W_ ∧ Blk W_ (w.heap.size) 30 #[.int .i64 a.k, .int .i64 a.n, .string a.s] ∧ Blk W_ (w.heap.size + 1) 30 #[.int .i64 b.k, .int .i64 b.n, .string b.s] ∧ Blk W_ (w.heap.size + 1 + 1) 30 #[.int .i64 0, .int .i64 0, .string ⟨#[]⟩] :=
    ⟨_, rfl, ((((Below.refl _ _).alloc (Nat.le_refl _) _).alloc (by simp; try omega) _).alloc (by simp; try omega) _), (((blk_new_at w (w.heap.size) _ _ (by simp)).alloc _).alloc _), ((blk_new_at (w.alloc (.cells #[.int .i64 a.k, .int .i64 a.n, .string a.s] 30)) (w.heap.size + 1) _ _ (by simp)).alloc _), (blk_new_at ((w.alloc (.cells #[.int .i64 a.k, .int .i64 a.n, .string a.s] 30)).alloc (.cells #[.int .i64 b.k, .int .i64 b.n, .string b.s] 30)) (w.heap.size + 1 + 1) _ _ (by simp))⟩
  rw [← hW_]
  clear hW_
  refine (nullV a false h _).mono ?_
  rintro e w3 ⟨rfl, hb3⟩
  have q2 := B2.three hb3
  go_wp2_with fail
  clear q2
  refine (nullV b false h2 _).mono ?_
  rintro e w4 ⟨rfl, hb4⟩
  have hb4 := bch0 hb3 hb4
  have q1 := B1.three hb4
  have q2 := B2.three hb4
  go_wp2_with fail
  clear q1 q2
  obtain ⟨c, hc⟩ : ∃ c, cmpV a b = c := ⟨_, rfl⟩
  have HC := Lib.hid hc
  clear hc
  refine (compareVc a b c HC.out _).mono ?_
  rintro e w5 ⟨rfl, hb5⟩
  have hb5 := bch0 hb4 hb5
  have q1 := B1.three hb5
  have q2 := B2.three hb5
  go_wp2_with fail
  clear q1 q2
  refine (number_over 16 a.n b.n _ (by omega) h3 ha hb).mono ?_
  rintro e w6 ⟨he, hb6⟩
  unfold ovr at he
  subst he
  have hb6 := bch0 hb5 hb6
  go_wp2
  exact ⟨rfl, rfl, bch0 hbW hb6⟩

def pairE : Option V → Ending
  | some v => .returned (vv v)
  | none => ovr
theorem pair (op : Int) (a b : V) (w : World) (hop : 3 ≤ op ∧ op ≤ 16) (ha : ok64 a.n) (hb : ok64 b.n) :
    Calls Try.prog 52 #[.int .i64 op, .agg #[.int .i64 a.k, .int .i64 a.n, .string a.s], .agg #[.int .i64 b.k, .int .i64 b.n, .string b.s]] w fun e w' => e = pairE (pairV op a b) ∧ Below w.heap.size w w' := by
  have cases_ : op = 3 ∨ op = 4 ∨ op = 5 ∨ op = 6 ∨ op = 7 ∨ op = 8 ∨ op = 9 ∨ op = 10 ∨ op = 11 ∨ op = 12 ∨ op = 13 ∨ op = 14 ∨ op = 15 ∨ op = 16 := by omega
  unfold pairV
  rcases cases_ with rfl | rfl | rfl | rfl | rfl | rfl | rfl | rfl | rfl | rfl | rfl | rfl | rfl | rfl
  · rw [if_neg (by omega), if_neg (by omega), if_neg (by omega)]
    cases h : a.k == 0 with
    | true => rw [if_pos (.inl (by simpa using h))]; exact pair3n a b w h
    | false =>
      cases h2 : b.k == 0 with
      | true => rw [if_pos (.inr (by simpa using h2))]; exact pair3m a b w h h2
      | false =>
        rw [if_neg (by simp at h h2; omega)]
        rw [if_pos (by omega)]; exact pair3t a b w h h2
  · rw [if_neg (by omega), if_neg (by omega), if_neg (by omega)]
    cases h : a.k == 0 with
    | true => rw [if_pos (.inl (by simpa using h))]; exact pair4n a b w h
    | false =>
      cases h2 : b.k == 0 with
      | true => rw [if_pos (.inr (by simpa using h2))]; exact pair4m a b w h h2
      | false =>
        rw [if_neg (by simp at h h2; omega)]
        rw [if_neg (by omega)]
        by_cases h3 : ok64 (nres 4 a.n b.n)
        · rw [if_pos h3]; exact pair4k a b w h h2 h3 ha hb
        · rw [if_neg h3]; exact pair4o a b w h h2 h3 ha hb
  · rw [if_pos rfl]; exact pair5 a b w
  · rw [if_neg (by omega), if_pos rfl]; exact pair6 a b w
  · rw [if_neg (by omega), if_neg (by omega), if_pos rfl]; exact pair7 a b w
  · rw [if_neg (by omega), if_neg (by omega), if_neg (by omega)]
    cases h : a.k == 0 with
    | true => rw [if_pos (.inl (by simpa using h))]; exact pair8n a b w h
    | false =>
      cases h2 : b.k == 0 with
      | true => rw [if_pos (.inr (by simpa using h2))]; exact pair8m a b w h h2
      | false =>
        rw [if_neg (by simp at h h2; omega)]
        rw [if_pos (by omega)]; exact pair8t a b w h h2
  · rw [if_neg (by omega), if_neg (by omega), if_neg (by omega)]
    cases h : a.k == 0 with
    | true => rw [if_pos (.inl (by simpa using h))]; exact pair9n a b w h
    | false =>
      cases h2 : b.k == 0 with
      | true => rw [if_pos (.inr (by simpa using h2))]; exact pair9m a b w h h2
      | false =>
        rw [if_neg (by simp at h h2; omega)]
        rw [if_pos (by omega)]; exact pair9t a b w h h2
  · rw [if_neg (by omega), if_neg (by omega), if_neg (by omega)]
    cases h : a.k == 0 with
    | true => rw [if_pos (.inl (by simpa using h))]; exact pair10n a b w h
    | false =>
      cases h2 : b.k == 0 with
      | true => rw [if_pos (.inr (by simpa using h2))]; exact pair10m a b w h h2
      | false =>
        rw [if_neg (by simp at h h2; omega)]
        rw [if_pos (by omega)]; exact pair10t a b w h h2
  · rw [if_neg (by omega), if_neg (by omega), if_neg (by omega)]
    cases h : a.k == 0 with
    | true => rw [if_pos (.inl (by simpa using h))]; exact pair11n a b w h
    | false =>
      cases h2 : b.k == 0 with
      | true => rw [if_pos (.inr (by simpa using h2))]; exact pair11m a b w h h2
      | false =>
        rw [if_neg (by simp at h h2; omega)]
        rw [if_pos (by omega)]; exact pair11t a b w h h2
  · rw [if_neg (by omega), if_neg (by omega), if_neg (by omega)]
    cases h : a.k == 0 with
    | true => rw [if_pos (.inl (by simpa using h))]; exact pair12n a b w h
    | false =>
      cases h2 : b.k == 0 with
      | true => rw [if_pos (.inr (by simpa using h2))]; exact pair12m a b w h h2
      | false =>
        rw [if_neg (by simp at h h2; omega)]
        rw [if_pos (by omega)]; exact pair12t a b w h h2
  · rw [if_neg (by omega), if_neg (by omega), if_neg (by omega)]
    cases h : a.k == 0 with
    | true => rw [if_pos (.inl (by simpa using h))]; exact pair13n a b w h
    | false =>
      cases h2 : b.k == 0 with
      | true => rw [if_pos (.inr (by simpa using h2))]; exact pair13m a b w h h2
      | false =>
        rw [if_neg (by simp at h h2; omega)]
        rw [if_pos (by omega)]; exact pair13t a b w h h2
  · rw [if_neg (by omega), if_neg (by omega), if_neg (by omega)]
    cases h : a.k == 0 with
    | true => rw [if_pos (.inl (by simpa using h))]; exact pair14n a b w h
    | false =>
      cases h2 : b.k == 0 with
      | true => rw [if_pos (.inr (by simpa using h2))]; exact pair14m a b w h h2
      | false =>
        rw [if_neg (by simp at h h2; omega)]
        rw [if_neg (by omega)]
        by_cases h3 : ok64 (nres 14 a.n b.n)
        · rw [if_pos h3]; exact pair14k a b w h h2 h3 ha hb
        · rw [if_neg h3]; exact pair14o a b w h h2 h3 ha hb
  · rw [if_neg (by omega), if_neg (by omega), if_neg (by omega)]
    cases h : a.k == 0 with
    | true => rw [if_pos (.inl (by simpa using h))]; exact pair15n a b w h
    | false =>
      cases h2 : b.k == 0 with
      | true => rw [if_pos (.inr (by simpa using h2))]; exact pair15m a b w h h2
      | false =>
        rw [if_neg (by simp at h h2; omega)]
        rw [if_neg (by omega)]
        by_cases h3 : ok64 (nres 15 a.n b.n)
        · rw [if_pos h3]; exact pair15k a b w h h2 h3 ha hb
        · rw [if_neg h3]; exact pair15o a b w h h2 h3 ha hb
  · rw [if_neg (by omega), if_neg (by omega), if_neg (by omega)]
    cases h : a.k == 0 with
    | true => rw [if_pos (.inl (by simpa using h))]; exact pair16n a b w h
    | false =>
      cases h2 : b.k == 0 with
      | true => rw [if_pos (.inr (by simpa using h2))]; exact pair16m a b w h h2
      | false =>
        rw [if_neg (by simp at h h2; omega)]
        rw [if_neg (by omega)]
        by_cases h3 : ok64 (nres 16 a.n b.n)
        · rw [if_pos h3]; exact pair16k a b w h h2 h3 ha hb
        · rw [if_neg h3]; exact pair16o a b w h h2 h3 ha hb
end Go.Proofs.Ytfgmlgflfagdjaa.ev
