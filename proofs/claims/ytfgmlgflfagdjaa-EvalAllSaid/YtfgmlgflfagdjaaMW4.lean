/- Contracts: the document's truth, is, number, part. Printed by genw4.py. -/
import Derived.Test.YtfgmlgflfagdjaaMV4
import Derived.Test.YtfgmlgflfagdjaaW1
import Derived.Test.YtfgmlgflfagdjaaCmpPlain
import Derived.Test.YtfgmlgflfagdjaaO3
import Derived.Test.YtfgmlgflfagdjaaW3
namespace Go.Proofs.Ytfgmlgflfagdjaa.ev
open Go.ChangeShapes Go.WideShapes Go.ChangeAt Go.RowKit Go.Proofs.Ytfgmlgflfagdjaa.lib Go.Proofs.Ytfgmlgflfagdjaa.val
set_option linter.unusedVariables false

/-- the forms of a value that may be -/
theorem good_form {v : V} (h : GoodV v) : (v.k = 0 ∧ v.n = 0 ∧ v.s = ByteArray.empty) ∨ (v.k = 1 ∧ v.s = ByteArray.empty) ∨ (v.k = 2 ∧ v.s = ByteArray.empty) ∨ (v.k = 3 ∧ v.n = 0) := by
  have hc := h.chk_
  rw [chk_by] at hc
  have hk := h.k4
  rw [if_neg (by omega), if_neg (by omega)] at hc
  by_cases h0 : v.k = 0
  · rw [if_pos h0] at hc
    split at hc
    · next hn =>
      split at hc
      · next hs => exact .inl ⟨h0, hn, (beqBA _ _).1 hs⟩
      · cases hc
    · cases hc
  rw [if_neg h0] at hc
  by_cases h1 : v.k = 1
  · rw [if_pos h1] at hc
    split at hc
    · cases hc
    split at hc
    · cases hc
    split at hc
    · next hs => exact .inr (.inl ⟨h1, (beqBA _ _).1 hs⟩)
    · cases hc
  rw [if_neg h1] at hc
  by_cases h2 : v.k = 2
  · rw [if_pos h2] at hc
    split at hc
    · next hs => exact .inr (.inr (.inl ⟨h2, (beqBA _ _).1 hs⟩))
    · cases hc
  rw [if_neg h2] at hc
  split at hc
  · next hn => exact .inr (.inr (.inr ⟨by omega, hn⟩))
  · cases hc
theorem cmp_good {u v : V} (hu : GoodV u) (hv : GoodV v) (hk : u.k = v.k) : cmpV u v = rcmpV u v := by
  unfold cmpV rcmpV or3
  have h0 : ord v.k v.k = 0 := by simp [ord]
  rw [hk, if_pos h0, if_neg (show ¬ (v.k ≠ v.k) by simp)]
  by_cases h3 : v.k = 3
  · have hun : u.n = 0 := by rcases good_form hu with h | h | h | h <;> omega
    have hvn : v.n = 0 := by rcases good_form hv with h | h | h | h <;> omega
    rw [hun, hvn, if_pos (show ord 0 0 = 0 by simp [ord]), if_neg (show ¬ (v.k ≠ 3) by simp [h3])]
  · have hus : u.s = ByteArray.empty := by
      rcases good_form hu with h | h | h | h
      · exact h.2.2
      · exact h.2
      · exact h.2
      · omega
    have hvs : v.s = ByteArray.empty := by
      rcases good_form hv with h | h | h | h
      · exact h.2.2
      · exact h.2
      · exact h.2
      · omega
    rw [if_pos h3, hus, hvs]
    by_cases h : ord u.n v.n = 0
    · rw [if_pos h, h]; rfl
    · rw [if_neg h]
theorem eq_tru {v : V} (h : GoodV v) (d : Bool) : vEqV v (tru d) = (v.k == 1 && v.n == if d then 1 else 0) := by
  unfold vEqV vEq tru
  simp only
  cases hk : v.k == 1
  · rfl
  · have hk : v.k = 1 := by simpa using hk
    have hs : v.s = ByteArray.empty := by
      rcases good_form h with h | h | h | h
      · omega
      · exact h.2
      · omega
      · omega
    rw [hs, (beqBA _ _).2 rfl, Bool.and_true]
theorem tru_of {v : V} (h : GoodV v) {d : Bool} {n : Int} (hd : n = if d then 1 else 0) (hv : (v.k == 1 && v.n == n) = true) : v = tru d := by
  simp only [Bool.and_eq_true, beq_iff_eq] at hv
  have hs : v.s = ByteArray.empty := by
    rcases good_form h with h | h | h | h
    · omega
    · exact h.2
    · omega
    · omega
  obtain ⟨k, m, s⟩ := v
  simp only at hv hs
  obtain ⟨rfl, rfl⟩ := hv
  subst hs hd
  rfl
theorem rcmpp (u v : V) (c : Int) (hc : rcmpV u v = c) (w : World) (ha : u.s.size ≤ maxLen) (hb : v.s.size ≤ maxLen) :
    Calls Try.prog 29 #[.agg #[.int .i64 u.k, .int .i64 u.n, .string u.s], .agg #[.int .i64 v.k, .int .i64 v.n, .string v.s]] w fun e w' => e = .returned (.int .i64 c) ∧ Below w.heap.size w w' := by
  subst hc; exact rcmp_ u v w ha hb
def partO (o : Option V) : Value := match o with
  | some v => .tuple #[.agg #[.int .i64 v.k, .int .i64 v.n, .string v.s], .int .i64 0]
  | none => .tuple #[.agg #[.int .i64 0, .int .i64 0, .string ⟨#[]⟩], .int .i64 11]

theorem rtruth_ (b : Bool) (w : World) : Calls Try.prog 54 #[.bool b] w fun e w' => e = .returned (.agg #[.int .i64 (tru b).k, .int .i64 (tru b).n, .string (tru b).s]) ∧ Below w.heap.size w w' := by
  cases b
  all_goals
    go_enter Try.func54, Try.ntmps54
    go_wp2
  · exact bodyPost_ret (v := .agg #[.int .i64 1, .int .i64 0, .string ByteArray.empty]) (by simp [results, Try.results54, go_sem]; rfl) rfl ⟨rfl, (Below.refl _ _).alloc (Nat.le_refl _) _⟩
  · exact bodyPost_ret (v := .agg #[.int .i64 1, .int .i64 1, .string ByteArray.empty]) (by simp [results, Try.results54, go_sem]; rfl) rfl ⟨rfl, (Below.refl _ _).alloc (Nat.le_refl _) _⟩
theorem ris_ (v : V) (n : Int) (c : Bool) (hc : (v.k == 1 && v.n == n) = c) (w : World) : Calls Try.prog 55 #[.agg #[.int .i64 v.k, .int .i64 v.n, .string v.s], .int .i64 n] w fun e w' => e = .returned (.bool c) ∧ Below w.heap.size w w' := by
  obtain ⟨k, m, s⟩ := v
  simp only at hc ⊢
  subst hc
  cases hk : k == 1
  all_goals
    go_enter Try.func55, Try.ntmps55
    go_wp2
    go_ret
    exact ⟨rfl, (Below.refl _ _).alloc (Nat.le_refl _) _⟩
theorem add_r (a b : Int) (w : World) (ha : ok64 a) (hb : ok64 b) (c : Int) (f : Bool) (hc : wrap64 (a + b) = c) (hf : decide (ok64 (a + b)) = f) :
    Calls Try.prog 26 #[.int .i64 a, .int .i64 b] w fun e w' => e = .returned (.tuple #[.int .i64 c, .bool f]) ∧ w = w' := by
  subst hc hf; exact refAdd a b w ha hb
theorem sub_r (a b : Int) (w : World) (ha : ok64 a) (hb : ok64 b) (c : Int) (f : Bool) (hc : wrap64 (a - b) = c) (hf : decide (ok64 (a - b)) = f) :
    Calls Try.prog 27 #[.int .i64 a, .int .i64 b] w fun e w' => e = .returned (.tuple #[.int .i64 c, .bool f]) ∧ w = w' := by
  subst hc hf; exact refSub a b w ha hb
def numO (op a b : Int) : Option V := if ok64 (nres op a b) then some ⟨2, nres op a b, ByteArray.empty⟩ else none
set_option maxRecDepth 1000000 in
set_option maxHeartbeats 4000000 in
theorem rnum14 (a b : Int) (o : Option V) (w : World) (ha : ok64 a) (hb : ok64 b) (ho : numO 14 a b = o) :
    Calls Try.prog 56 #[.int .i64 14, .int .i64 a, .int .i64 b] w fun e w' => e = .returned (partO o) ∧ Below w.heap.size w w' := by
  have hn : numO 14 a b = if ok64 (a + b) then some ⟨2, a + b, ByteArray.empty⟩ else none := rfl
  by_cases h : ok64 (a + b)
  · rw [hn, if_pos h] at ho
    subst ho
    unfold partO
    obtain ⟨c, hc⟩ : ∃ c, a + b = c := ⟨_, rfl⟩
    have HC := Lib.hid (show wrap64 (a + b) = c by rw [wrap_in h, hc])
    have HF := Lib.hid (show decide (ok64 (a + b)) = true by simpa using h)
    simp only [hc]
    clear hn hc h
    go_enter Try.func56, Try.ntmps56
    go_wp2_with fail
    obtain ⟨W, hW_, hbW, B1⟩ : ∃ W_, W_ = (w.alloc (.cells #[.int .i64 0, .int .i64 0, .string ⟨#[]⟩] 30)) ∧ Below w.heap.size w W_ ∧ Blk W_ (w.heap.size) 30 #[.int .i64 0, .int .i64 0, .string ⟨#[]⟩] :=
      ⟨_, rfl, ((Below.refl _ _).alloc (Nat.le_refl _) _), (blk_new_at w (w.heap.size) _ _ (by simp))⟩
    rw [← hW_]
    clear hW_
    refine (add_r a b _ ha hb c true HC.out HF.out).mono ?_
    rintro e w1 ⟨rfl, rfl⟩
    have B2 := B1
    have q_ := B2.three (Below.refl _ _)
    have f_ := B2.free3
    go_wp2
    clear q_ f_
    obtain ⟨wE, hwE, BE, hbE, _, _⟩ := B2.set3 (.int .i64 2) (.int .i64 c) (.string ⟨#[]⟩)
    rw [← hwE]
    have q_ := BE.three (Below.refl _ _)
    exact bodyPost_ret (v := .tuple #[.agg #[.int .i64 2, .int .i64 c, .string ⟨#[]⟩], .int .i64 0]) (by simp [results, Try.results56, go_sem, q_]) rfl ⟨rfl, Below.trans hbW (hbE _ (Nat.le_refl _))⟩
  · rw [hn, if_neg h] at ho
    subst ho
    unfold partO
    obtain ⟨c, hc⟩ : ∃ c, wrap64 (a + b) = c := ⟨_, rfl⟩
    have HC := Lib.hid hc
    have HF := Lib.hid (show decide (ok64 (a + b)) = false by simpa using h)
    clear hn hc h
    go_enter Try.func56, Try.ntmps56
    go_wp2_with fail
    obtain ⟨W, hW_, hbW, B1⟩ : ∃ W_, W_ = (w.alloc (.cells #[.int .i64 0, .int .i64 0, .string ⟨#[]⟩] 30)) ∧ Below w.heap.size w W_ ∧ Blk W_ (w.heap.size) 30 #[.int .i64 0, .int .i64 0, .string ⟨#[]⟩] :=
      ⟨_, rfl, ((Below.refl _ _).alloc (Nat.le_refl _) _), (blk_new_at w (w.heap.size) _ _ (by simp))⟩
    rw [← hW_]
    clear hW_
    refine (add_r a b _ ha hb c false HC.out HF.out).mono ?_
    rintro e w1 ⟨rfl, rfl⟩
    have B2 := B1
    have q_ := B2.three (Below.refl _ _)
    have f_ := B2.free3
    go_wp2
    clear q_ f_
    obtain ⟨wE, hwE, BE, hbE, _, _⟩ := B2.set3 (.int .i64 0) (.int .i64 0) (.string ⟨#[]⟩)
    rw [← hwE]
    have q_ := BE.three (Below.refl _ _)
    exact bodyPost_ret (v := .tuple #[.agg #[.int .i64 0, .int .i64 0, .string ⟨#[]⟩], .int .i64 11]) (by simp [results, Try.results56, go_sem, q_]) rfl ⟨rfl, Below.trans hbW (hbE _ (Nat.le_refl _))⟩
set_option maxRecDepth 1000000 in
set_option maxHeartbeats 4000000 in
theorem rnum15 (a b : Int) (o : Option V) (w : World) (ha : ok64 a) (hb : ok64 b) (ho : numO 15 a b = o) :
    Calls Try.prog 56 #[.int .i64 15, .int .i64 a, .int .i64 b] w fun e w' => e = .returned (partO o) ∧ Below w.heap.size w w' := by
  have hn : numO 15 a b = if ok64 (a - b) then some ⟨2, a - b, ByteArray.empty⟩ else none := rfl
  by_cases h : ok64 (a - b)
  · rw [hn, if_pos h] at ho
    subst ho
    unfold partO
    obtain ⟨c, hc⟩ : ∃ c, a - b = c := ⟨_, rfl⟩
    have HC := Lib.hid (show wrap64 (a - b) = c by rw [wrap_in h, hc])
    have HF := Lib.hid (show decide (ok64 (a - b)) = true by simpa using h)
    simp only [hc]
    clear hn hc h
    go_enter Try.func56, Try.ntmps56
    go_wp2_with fail
    obtain ⟨W, hW_, hbW, B1⟩ : ∃ W_, W_ = (w.alloc (.cells #[.int .i64 0, .int .i64 0, .string ⟨#[]⟩] 30)) ∧ Below w.heap.size w W_ ∧ Blk W_ (w.heap.size) 30 #[.int .i64 0, .int .i64 0, .string ⟨#[]⟩] :=
      ⟨_, rfl, ((Below.refl _ _).alloc (Nat.le_refl _) _), (blk_new_at w (w.heap.size) _ _ (by simp))⟩
    rw [← hW_]
    clear hW_
    refine (sub_r a b _ ha hb c true HC.out HF.out).mono ?_
    rintro e w1 ⟨rfl, rfl⟩
    have B2 := B1
    have q_ := B2.three (Below.refl _ _)
    have f_ := B2.free3
    go_wp2
    clear q_ f_
    obtain ⟨wE, hwE, BE, hbE, _, _⟩ := B2.set3 (.int .i64 2) (.int .i64 c) (.string ⟨#[]⟩)
    rw [← hwE]
    have q_ := BE.three (Below.refl _ _)
    exact bodyPost_ret (v := .tuple #[.agg #[.int .i64 2, .int .i64 c, .string ⟨#[]⟩], .int .i64 0]) (by simp [results, Try.results56, go_sem, q_]) rfl ⟨rfl, Below.trans hbW (hbE _ (Nat.le_refl _))⟩
  · rw [hn, if_neg h] at ho
    subst ho
    unfold partO
    obtain ⟨c, hc⟩ : ∃ c, wrap64 (a - b) = c := ⟨_, rfl⟩
    have HC := Lib.hid hc
    have HF := Lib.hid (show decide (ok64 (a - b)) = false by simpa using h)
    clear hn hc h
    go_enter Try.func56, Try.ntmps56
    go_wp2_with fail
    obtain ⟨W, hW_, hbW, B1⟩ : ∃ W_, W_ = (w.alloc (.cells #[.int .i64 0, .int .i64 0, .string ⟨#[]⟩] 30)) ∧ Below w.heap.size w W_ ∧ Blk W_ (w.heap.size) 30 #[.int .i64 0, .int .i64 0, .string ⟨#[]⟩] :=
      ⟨_, rfl, ((Below.refl _ _).alloc (Nat.le_refl _) _), (blk_new_at w (w.heap.size) _ _ (by simp))⟩
    rw [← hW_]
    clear hW_
    refine (sub_r a b _ ha hb c false HC.out HF.out).mono ?_
    rintro e w1 ⟨rfl, rfl⟩
    have B2 := B1
    have q_ := B2.three (Below.refl _ _)
    have f_ := B2.free3
    go_wp2
    clear q_ f_
    obtain ⟨wE, hwE, BE, hbE, _, _⟩ := B2.set3 (.int .i64 0) (.int .i64 0) (.string ⟨#[]⟩)
    rw [← hwE]
    have q_ := BE.three (Below.refl _ _)
    exact bodyPost_ret (v := .tuple #[.agg #[.int .i64 0, .int .i64 0, .string ⟨#[]⟩], .int .i64 11]) (by simp [results, Try.results56, go_sem, q_]) rfl ⟨rfl, Below.trans hbW (hbE _ (Nat.le_refl _))⟩
set_option maxRecDepth 1000000 in
set_option maxHeartbeats 4000000 in
theorem rnum16 (a b : Int) (o : Option V) (w : World) (ha : ok64 a) (hb : ok64 b) (ho : numO 16 a b = o) :
    Calls Try.prog 56 #[.int .i64 16, .int .i64 a, .int .i64 b] w fun e w' => e = .returned (partO o) ∧ Below w.heap.size w w' := by
  have hn : numO 16 a b = if ok64 (a * b) then some ⟨2, a * b, ByteArray.empty⟩ else none := rfl
  by_cases h : ok64 (a * b)
  · rw [hn, if_pos h] at ho
    subst ho
    unfold partO
    obtain ⟨c, hc⟩ : ∃ c, a * b = c := ⟨_, rfl⟩
    have HC := Lib.hid (fun W => refMul_k a b h ha hb W)
    have HC := HC.out
    simp only [hc] at HC ⊢
    have HC := Lib.hid HC
    clear hn hc h
    go_enter Try.func56, Try.ntmps56
    go_wp2_with fail
    obtain ⟨W, hW_, hbW, B1⟩ : ∃ W_, W_ = (w.alloc (.cells #[.int .i64 0, .int .i64 0, .string ⟨#[]⟩] 30)) ∧ Below w.heap.size w W_ ∧ Blk W_ (w.heap.size) 30 #[.int .i64 0, .int .i64 0, .string ⟨#[]⟩] :=
      ⟨_, rfl, ((Below.refl _ _).alloc (Nat.le_refl _) _), (blk_new_at w (w.heap.size) _ _ (by simp))⟩
    rw [← hW_]
    clear hW_
    refine (HC.out _).mono ?_
    rintro e w1 ⟨⟨t, rfl, rfl⟩, hb1⟩
    have B2 := B1.ext hb1
    have q_ := B2.three (Below.refl _ _)
    have f_ := B2.free3
    go_wp2
    clear q_ f_
    obtain ⟨wE, hwE, BE, hbE, _, _⟩ := B2.set3 (.int .i64 2) (.int .i64 c) (.string ⟨#[]⟩)
    rw [← hwE]
    have q_ := BE.three (Below.refl _ _)
    exact bodyPost_ret (v := .tuple #[.agg #[.int .i64 2, .int .i64 c, .string ⟨#[]⟩], .int .i64 0]) (by simp [results, Try.results56, go_sem, q_]) rfl ⟨rfl, Below.trans (bch0 hbW hb1) (hbE _ (Nat.le_refl _))⟩
  · rw [hn, if_neg h] at ho
    subst ho
    unfold partO
    have HC := Lib.hid (fun W => refMul_o a b h ha hb W)
    clear hn h
    go_enter Try.func56, Try.ntmps56
    go_wp2_with fail
    obtain ⟨W, hW_, hbW, B1⟩ : ∃ W_, W_ = (w.alloc (.cells #[.int .i64 0, .int .i64 0, .string ⟨#[]⟩] 30)) ∧ Below w.heap.size w W_ ∧ Blk W_ (w.heap.size) 30 #[.int .i64 0, .int .i64 0, .string ⟨#[]⟩] :=
      ⟨_, rfl, ((Below.refl _ _).alloc (Nat.le_refl _) _), (blk_new_at w (w.heap.size) _ _ (by simp))⟩
    rw [← hW_]
    clear hW_
    refine (HC.out _).mono ?_
    rintro e w1 ⟨⟨c, t, rfl, rfl⟩, hb1⟩
    have B2 := B1.ext hb1
    have q_ := B2.three (Below.refl _ _)
    have f_ := B2.free3
    go_wp2
    clear q_ f_
    obtain ⟨wE, hwE, BE, hbE, _, _⟩ := B2.set3 (.int .i64 0) (.int .i64 0) (.string ⟨#[]⟩)
    rw [← hwE]
    have q_ := BE.three (Below.refl _ _)
    exact bodyPost_ret (v := .tuple #[.agg #[.int .i64 0, .int .i64 0, .string ⟨#[]⟩], .int .i64 11]) (by simp [results, Try.results56, go_sem, q_]) rfl ⟨rfl, Below.trans (bch0 hbW hb1) (hbE _ (Nat.le_refl _))⟩
set_option maxRecDepth 1000000 in
set_option maxHeartbeats 4000000 in
theorem rpart5 (a b : V) (w : World) :
    Calls Try.prog 42 #[.int .i64 5, .agg #[.int .i64 a.k, .int .i64 a.n, .string a.s], .agg #[.int .i64 b.k, .int .i64 b.n, .string b.s]] w fun e w' => e = .returned (partO (some (tru (a.k == 0)))) ∧ Below w.heap.size w w' := by
  unfold partO
  simp only
  go_enter Try.func42, Try.ntmps42
  go_wp2_with fail
  obtain ⟨W, hW_, hbW, BA, BB, BR⟩ : ∃ W_, W_ = (((w.alloc (.cells #[.int .i64 a.k, .int .i64 a.n, .string a.s] 30)).alloc (.cells #[.int .i64 b.k, .int .i64 b.n, .string b.s] 30)).alloc (.cells #[.int .i64 0, .int .i64 0, .string ⟨#[]⟩] 30)) ∧ Below w.heap.size w W_ ∧ Blk W_ (w.heap.size) 30 #[.int .i64 a.k, .int .i64 a.n, .string a.s] ∧ Blk W_ (w.heap.size + 1) 30 #[.int .i64 b.k, .int .i64 b.n, .string b.s] ∧ Blk W_ (w.heap.size + 1 + 1) 30 #[.int .i64 0, .int .i64 0, .string ⟨#[]⟩] :=
    ⟨_, rfl, ((((Below.refl _ _).alloc (Nat.le_refl _) _).alloc (by simp; try omega) _).alloc (by simp; try omega) _), (((blk_new_at w (w.heap.size) _ _ (by simp)).alloc _).alloc _), ((blk_new_at (w.alloc (.cells #[.int .i64 a.k, .int .i64 a.n, .string a.s] 30)) (w.heap.size + 1) _ _ (by simp)).alloc _), (blk_new_at ((w.alloc (.cells #[.int .i64 a.k, .int .i64 a.n, .string a.s] 30)).alloc (.cells #[.int .i64 b.k, .int .i64 b.n, .string b.s] 30)) (w.heap.size + 1 + 1) _ _ (by simp))⟩
  rw [← hW_]
  clear hW_
  refine (rtruth_ (a.k == 0) _).mono ?_
  rintro e w1 ⟨rfl, hb1⟩
  have BA := BA.ext hb1
  have BB := BB.ext hb1
  have BR := BR.ext hb1
  have qBA := BA.three (Below.refl _ _)
  have qBB := BB.three (Below.refl _ _)
  have qBR := BR.three (Below.refl _ _)
  have fR := BR.free3
  go_wp2
  clear qBA qBB qBR fR
  obtain ⟨wE, hwE, BE, hbE, _, _⟩ := BR.set3 (.int .i64 (tru (a.k == 0)).k) (.int .i64 (tru (a.k == 0)).n) (.string (tru (a.k == 0)).s)
  rw [← hwE]
  have q_ := BE.three (Below.refl _ _)
  exact bodyPost_ret (v := .tuple #[.agg #[.int .i64 (tru (a.k == 0)).k, .int .i64 (tru (a.k == 0)).n, .string (tru (a.k == 0)).s], .int .i64 0]) (by simp [results, Try.results42, go_sem, q_]) rfl ⟨rfl, Below.trans (bch0 hbW hb1) (hbE _ (by omega))⟩
set_option maxRecDepth 1000000 in
set_option maxHeartbeats 4000000 in
theorem rpart7a (a b : V) (w : World) (hia : (a.k == 1 && a.n == 0) = true) :
    Calls Try.prog 42 #[.int .i64 7, .agg #[.int .i64 a.k, .int .i64 a.n, .string a.s], .agg #[.int .i64 b.k, .int .i64 b.n, .string b.s]] w fun e w' => e = .returned (partO (some (tru false))) ∧ Below w.heap.size w w' := by
  unfold partO
  simp only
  have HIA := Lib.hid hia
  clear hia
  go_enter Try.func42, Try.ntmps42
  go_wp2_with fail
  obtain ⟨W, hW_, hbW, BA, BB, BR⟩ : ∃ W_, W_ = (((w.alloc (.cells #[.int .i64 a.k, .int .i64 a.n, .string a.s] 30)).alloc (.cells #[.int .i64 b.k, .int .i64 b.n, .string b.s] 30)).alloc (.cells #[.int .i64 0, .int .i64 0, .string ⟨#[]⟩] 30)) ∧ Below w.heap.size w W_ ∧ Blk W_ (w.heap.size) 30 #[.int .i64 a.k, .int .i64 a.n, .string a.s] ∧ Blk W_ (w.heap.size + 1) 30 #[.int .i64 b.k, .int .i64 b.n, .string b.s] ∧ Blk W_ (w.heap.size + 1 + 1) 30 #[.int .i64 0, .int .i64 0, .string ⟨#[]⟩] :=
    ⟨_, rfl, ((((Below.refl _ _).alloc (Nat.le_refl _) _).alloc (by simp; try omega) _).alloc (by simp; try omega) _), (((blk_new_at w (w.heap.size) _ _ (by simp)).alloc _).alloc _), ((blk_new_at (w.alloc (.cells #[.int .i64 a.k, .int .i64 a.n, .string a.s] 30)) (w.heap.size + 1) _ _ (by simp)).alloc _), (blk_new_at ((w.alloc (.cells #[.int .i64 a.k, .int .i64 a.n, .string a.s] 30)).alloc (.cells #[.int .i64 b.k, .int .i64 b.n, .string b.s] 30)) (w.heap.size + 1 + 1) _ _ (by simp))⟩
  rw [← hW_]
  clear hW_
  refine (ris_ a 0 true HIA.out _).mono ?_
  rintro e w1 ⟨rfl, hb1⟩
  have BA := BA.ext hb1
  have BB := BB.ext hb1
  have BR := BR.ext hb1
  have qBA := BA.three (Below.refl _ _)
  have qBB := BB.three (Below.refl _ _)
  have qBR := BR.three (Below.refl _ _)
  have fR := BR.free3
  go_wp2_with fail
  clear qBA qBB qBR fR
  refine (rtruth_ false _).mono ?_
  rintro e w2 ⟨rfl, hb2⟩
  have BA := BA.ext hb2
  have BB := BB.ext hb2
  have BR := BR.ext hb2
  have qBA := BA.three (Below.refl _ _)
  have qBB := BB.three (Below.refl _ _)
  have qBR := BR.three (Below.refl _ _)
  have fR := BR.free3
  go_wp2
  clear qBA qBB qBR fR
  obtain ⟨wE, hwE, BE, hbE, _, _⟩ := BR.set3 (.int .i64 (tru false).k) (.int .i64 (tru false).n) (.string (tru false).s)
  rw [← hwE]
  have q_ := BE.three (Below.refl _ _)
  exact bodyPost_ret (v := .tuple #[.agg #[.int .i64 (tru false).k, .int .i64 (tru false).n, .string (tru false).s], .int .i64 0]) (by simp [results, Try.results42, go_sem, q_]) rfl ⟨rfl, Below.trans (bch0 (bch0 hbW hb1) hb2) (hbE _ (by omega))⟩
set_option maxRecDepth 1000000 in
set_option maxHeartbeats 4000000 in
theorem rpart7b (a b : V) (w : World) (hia : (a.k == 1 && a.n == 0) = false) (hib : (b.k == 1 && b.n == 0) = true) :
    Calls Try.prog 42 #[.int .i64 7, .agg #[.int .i64 a.k, .int .i64 a.n, .string a.s], .agg #[.int .i64 b.k, .int .i64 b.n, .string b.s]] w fun e w' => e = .returned (partO (some (tru false))) ∧ Below w.heap.size w w' := by
  unfold partO
  simp only
  have HIA := Lib.hid hia
  have HIB := Lib.hid hib
  clear hia hib
  go_enter Try.func42, Try.ntmps42
  go_wp2_with fail
  obtain ⟨W, hW_, hbW, BA, BB, BR⟩ : ∃ W_, W_ = (((w.alloc (.cells #[.int .i64 a.k, .int .i64 a.n, .string a.s] 30)).alloc (.cells #[.int .i64 b.k, .int .i64 b.n, .string b.s] 30)).alloc (.cells #[.int .i64 0, .int .i64 0, .string ⟨#[]⟩] 30)) ∧ Below w.heap.size w W_ ∧ Blk W_ (w.heap.size) 30 #[.int .i64 a.k, .int .i64 a.n, .string a.s] ∧ Blk W_ (w.heap.size + 1) 30 #[.int .i64 b.k, .int .i64 b.n, .string b.s] ∧ Blk W_ (w.heap.size + 1 + 1) 30 #[.int .i64 0, .int .i64 0, .string ⟨#[]⟩] :=
    ⟨_, rfl, ((((Below.refl _ _).alloc (Nat.le_refl _) _).alloc (by simp; try omega) _).alloc (by simp; try omega) _), (((blk_new_at w (w.heap.size) _ _ (by simp)).alloc _).alloc _), ((blk_new_at (w.alloc (.cells #[.int .i64 a.k, .int .i64 a.n, .string a.s] 30)) (w.heap.size + 1) _ _ (by simp)).alloc _), (blk_new_at ((w.alloc (.cells #[.int .i64 a.k, .int .i64 a.n, .string a.s] 30)).alloc (.cells #[.int .i64 b.k, .int .i64 b.n, .string b.s] 30)) (w.heap.size + 1 + 1) _ _ (by simp))⟩
  rw [← hW_]
  clear hW_
  refine (ris_ a 0 false HIA.out _).mono ?_
  rintro e w1 ⟨rfl, hb1⟩
  have BA := BA.ext hb1
  have BB := BB.ext hb1
  have BR := BR.ext hb1
  have qBA := BA.three (Below.refl _ _)
  have qBB := BB.three (Below.refl _ _)
  have qBR := BR.three (Below.refl _ _)
  have fR := BR.free3
  go_wp2_with fail
  clear qBA qBB qBR fR
  refine (ris_ b 0 true HIB.out _).mono ?_
  rintro e w2 ⟨rfl, hb2⟩
  have BA := BA.ext hb2
  have BB := BB.ext hb2
  have BR := BR.ext hb2
  have qBA := BA.three (Below.refl _ _)
  have qBB := BB.three (Below.refl _ _)
  have qBR := BR.three (Below.refl _ _)
  have fR := BR.free3
  go_wp2_with fail
  clear qBA qBB qBR fR
  refine (rtruth_ false _).mono ?_
  rintro e w3 ⟨rfl, hb3⟩
  have BA := BA.ext hb3
  have BB := BB.ext hb3
  have BR := BR.ext hb3
  have qBA := BA.three (Below.refl _ _)
  have qBB := BB.three (Below.refl _ _)
  have qBR := BR.three (Below.refl _ _)
  have fR := BR.free3
  go_wp2
  clear qBA qBB qBR fR
  obtain ⟨wE, hwE, BE, hbE, _, _⟩ := BR.set3 (.int .i64 (tru false).k) (.int .i64 (tru false).n) (.string (tru false).s)
  rw [← hwE]
  have q_ := BE.three (Below.refl _ _)
  exact bodyPost_ret (v := .tuple #[.agg #[.int .i64 (tru false).k, .int .i64 (tru false).n, .string (tru false).s], .int .i64 0]) (by simp [results, Try.results42, go_sem, q_]) rfl ⟨rfl, Below.trans (bch0 (bch0 (bch0 hbW hb1) hb2) hb3) (hbE _ (by omega))⟩
set_option maxRecDepth 1000000 in
set_option maxHeartbeats 4000000 in
theorem rpart7c (a b : V) (w : World) (hia : (a.k == 1 && a.n == 0) = false) (hib : (b.k == 1 && b.n == 0) = false) (h : (a.k == 0) = true) :
    Calls Try.prog 42 #[.int .i64 7, .agg #[.int .i64 a.k, .int .i64 a.n, .string a.s], .agg #[.int .i64 b.k, .int .i64 b.n, .string b.s]] w fun e w' => e = .returned (partO (some nul)) ∧ Below w.heap.size w w' := by
  unfold partO
  simp only
  have HIA := Lib.hid hia
  have HIB := Lib.hid hib
  clear hia hib
  go_enter Try.func42, Try.ntmps42
  go_wp2_with fail
  obtain ⟨W, hW_, hbW, BA, BB, BR⟩ : ∃ W_, W_ = (((w.alloc (.cells #[.int .i64 a.k, .int .i64 a.n, .string a.s] 30)).alloc (.cells #[.int .i64 b.k, .int .i64 b.n, .string b.s] 30)).alloc (.cells #[.int .i64 0, .int .i64 0, .string ⟨#[]⟩] 30)) ∧ Below w.heap.size w W_ ∧ Blk W_ (w.heap.size) 30 #[.int .i64 a.k, .int .i64 a.n, .string a.s] ∧ Blk W_ (w.heap.size + 1) 30 #[.int .i64 b.k, .int .i64 b.n, .string b.s] ∧ Blk W_ (w.heap.size + 1 + 1) 30 #[.int .i64 0, .int .i64 0, .string ⟨#[]⟩] :=
    ⟨_, rfl, ((((Below.refl _ _).alloc (Nat.le_refl _) _).alloc (by simp; try omega) _).alloc (by simp; try omega) _), (((blk_new_at w (w.heap.size) _ _ (by simp)).alloc _).alloc _), ((blk_new_at (w.alloc (.cells #[.int .i64 a.k, .int .i64 a.n, .string a.s] 30)) (w.heap.size + 1) _ _ (by simp)).alloc _), (blk_new_at ((w.alloc (.cells #[.int .i64 a.k, .int .i64 a.n, .string a.s] 30)).alloc (.cells #[.int .i64 b.k, .int .i64 b.n, .string b.s] 30)) (w.heap.size + 1 + 1) _ _ (by simp))⟩
  rw [← hW_]
  clear hW_
  refine (ris_ a 0 false HIA.out _).mono ?_
  rintro e w1 ⟨rfl, hb1⟩
  have BA := BA.ext hb1
  have BB := BB.ext hb1
  have BR := BR.ext hb1
  have qBA := BA.three (Below.refl _ _)
  have qBB := BB.three (Below.refl _ _)
  have qBR := BR.three (Below.refl _ _)
  have fR := BR.free3
  go_wp2_with fail
  clear qBA qBB qBR fR
  refine (ris_ b 0 false HIB.out _).mono ?_
  rintro e w2 ⟨rfl, hb2⟩
  have BA := BA.ext hb2
  have BB := BB.ext hb2
  have BR := BR.ext hb2
  have qBA := BA.three (Below.refl _ _)
  have qBB := BB.three (Below.refl _ _)
  have qBR := BR.three (Below.refl _ _)
  have fR := BR.free3
  go_wp2
  clear qBA qBB qBR fR
  obtain ⟨wE, hwE, BE, hbE, _, _⟩ := BR.set3 (.int .i64 0) (.int .i64 0) (.string ⟨#[]⟩)
  rw [← hwE]
  have q_ := BE.three (Below.refl _ _)
  exact bodyPost_ret (v := .tuple #[.agg #[.int .i64 0, .int .i64 0, .string ⟨#[]⟩], .int .i64 0]) (by simp [results, Try.results42, go_sem, q_]) rfl ⟨rfl, Below.trans (bch0 (bch0 hbW hb1) hb2) (hbE _ (by omega))⟩
set_option maxRecDepth 1000000 in
set_option maxHeartbeats 4000000 in
theorem rpart7d (a b : V) (w : World) (hia : (a.k == 1 && a.n == 0) = false) (hib : (b.k == 1 && b.n == 0) = false) (h : (a.k == 0) = false) (h2 : (b.k == 0) = true) :
    Calls Try.prog 42 #[.int .i64 7, .agg #[.int .i64 a.k, .int .i64 a.n, .string a.s], .agg #[.int .i64 b.k, .int .i64 b.n, .string b.s]] w fun e w' => e = .returned (partO (some nul)) ∧ Below w.heap.size w w' := by
  unfold partO
  simp only
  have HIA := Lib.hid hia
  have HIB := Lib.hid hib
  clear hia hib
  go_enter Try.func42, Try.ntmps42
  go_wp2_with fail
  obtain ⟨W, hW_, hbW, BA, BB, BR⟩ : ∃ W_, W_ = (((w.alloc (.cells #[.int .i64 a.k, .int .i64 a.n, .string a.s] 30)).alloc (.cells #[.int .i64 b.k, .int .i64 b.n, .string b.s] 30)).alloc (.cells #[.int .i64 0, .int .i64 0, .string ⟨#[]⟩] 30)) ∧ Below w.heap.size w W_ ∧ Blk W_ (w.heap.size) 30 #[.int .i64 a.k, .int .i64 a.n, .string a.s] ∧ Blk W_ (w.heap.size + 1) 30 #[.int .i64 b.k, .int .i64 b.n, .string b.s] ∧ Blk W_ (w.heap.size + 1 + 1) 30 #[.int .i64 0, .int .i64 0, .string ⟨#[]⟩] :=
    ⟨_, rfl, ((((Below.refl _ _).alloc (Nat.le_refl _) _).alloc (by simp; try omega) _).alloc (by simp; try omega) _), (((blk_new_at w (w.heap.size) _ _ (by simp)).alloc _).alloc _), ((blk_new_at (w.alloc (.cells #[.int .i64 a.k, .int .i64 a.n, .string a.s] 30)) (w.heap.size + 1) _ _ (by simp)).alloc _), (blk_new_at ((w.alloc (.cells #[.int .i64 a.k, .int .i64 a.n, .string a.s] 30)).alloc (.cells #[.int .i64 b.k, .int .i64 b.n, .string b.s] 30)) (w.heap.size + 1 + 1) _ _ (by simp))⟩
  rw [← hW_]
  clear hW_
  refine (ris_ a 0 false HIA.out _).mono ?_
  rintro e w1 ⟨rfl, hb1⟩
  have BA := BA.ext hb1
  have BB := BB.ext hb1
  have BR := BR.ext hb1
  have qBA := BA.three (Below.refl _ _)
  have qBB := BB.three (Below.refl _ _)
  have qBR := BR.three (Below.refl _ _)
  have fR := BR.free3
  go_wp2_with fail
  clear qBA qBB qBR fR
  refine (ris_ b 0 false HIB.out _).mono ?_
  rintro e w2 ⟨rfl, hb2⟩
  have BA := BA.ext hb2
  have BB := BB.ext hb2
  have BR := BR.ext hb2
  have qBA := BA.three (Below.refl _ _)
  have qBB := BB.three (Below.refl _ _)
  have qBR := BR.three (Below.refl _ _)
  have fR := BR.free3
  go_wp2_with fail
  clear qBA qBB qBR fR
  refine (rtwo_ 7 true _ (by decide)).mono ?_
  rintro e w0 ⟨rfl, rfl⟩
  have qBA := BA.three (Below.refl _ _)
  have qBB := BB.three (Below.refl _ _)
  have qBR := BR.three (Below.refl _ _)
  have fR := BR.free3
  go_wp2
  clear qBA qBB qBR fR
  obtain ⟨wE, hwE, BE, hbE, _, _⟩ := BR.set3 (.int .i64 0) (.int .i64 0) (.string ⟨#[]⟩)
  rw [← hwE]
  have q_ := BE.three (Below.refl _ _)
  exact bodyPost_ret (v := .tuple #[.agg #[.int .i64 0, .int .i64 0, .string ⟨#[]⟩], .int .i64 0]) (by simp [results, Try.results42, go_sem, q_]) rfl ⟨rfl, Below.trans (bch0 (bch0 hbW hb1) hb2) (hbE _ (by omega))⟩
set_option maxRecDepth 1000000 in
set_option maxHeartbeats 4000000 in
theorem rpart7e (a b : V) (w : World) (hia : (a.k == 1 && a.n == 0) = false) (hib : (b.k == 1 && b.n == 0) = false) (h : (a.k == 0) = false) (h2 : (b.k == 0) = false) (hsa : a.s.size ≤ maxLen) (hsb : b.s.size ≤ maxLen) :
    Calls Try.prog 42 #[.int .i64 7, .agg #[.int .i64 a.k, .int .i64 a.n, .string a.s], .agg #[.int .i64 b.k, .int .i64 b.n, .string b.s]] w fun e w' => e = .returned (partO (some (tru true))) ∧ Below w.heap.size w w' := by
  unfold partO
  simp only
  have HIA := Lib.hid hia
  have HIB := Lib.hid hib
  clear hia hib
  go_enter Try.func42, Try.ntmps42
  go_wp2_with fail
  obtain ⟨W, hW_, hbW, BA, BB, BR⟩ : ∃ W_, W_ = (((w.alloc (.cells #[.int .i64 a.k, .int .i64 a.n, .string a.s] 30)).alloc (.cells #[.int .i64 b.k, .int .i64 b.n, .string b.s] 30)).alloc (.cells #[.int .i64 0, .int .i64 0, .string ⟨#[]⟩] 30)) ∧ Below w.heap.size w W_ ∧ Blk W_ (w.heap.size) 30 #[.int .i64 a.k, .int .i64 a.n, .string a.s] ∧ Blk W_ (w.heap.size + 1) 30 #[.int .i64 b.k, .int .i64 b.n, .string b.s] ∧ Blk W_ (w.heap.size + 1 + 1) 30 #[.int .i64 0, .int .i64 0, .string ⟨#[]⟩] :=
    ⟨_, rfl, ((((Below.refl _ _).alloc (Nat.le_refl _) _).alloc (by simp; try omega) _).alloc (by simp; try omega) _), (((blk_new_at w (w.heap.size) _ _ (by simp)).alloc _).alloc _), ((blk_new_at (w.alloc (.cells #[.int .i64 a.k, .int .i64 a.n, .string a.s] 30)) (w.heap.size + 1) _ _ (by simp)).alloc _), (blk_new_at ((w.alloc (.cells #[.int .i64 a.k, .int .i64 a.n, .string a.s] 30)).alloc (.cells #[.int .i64 b.k, .int .i64 b.n, .string b.s] 30)) (w.heap.size + 1 + 1) _ _ (by simp))⟩
  rw [← hW_]
  clear hW_
  refine (ris_ a 0 false HIA.out _).mono ?_
  rintro e w1 ⟨rfl, hb1⟩
  have BA := BA.ext hb1
  have BB := BB.ext hb1
  have BR := BR.ext hb1
  have qBA := BA.three (Below.refl _ _)
  have qBB := BB.three (Below.refl _ _)
  have qBR := BR.three (Below.refl _ _)
  have fR := BR.free3
  go_wp2_with fail
  clear qBA qBB qBR fR
  refine (ris_ b 0 false HIB.out _).mono ?_
  rintro e w2 ⟨rfl, hb2⟩
  have BA := BA.ext hb2
  have BB := BB.ext hb2
  have BR := BR.ext hb2
  have qBA := BA.three (Below.refl _ _)
  have qBB := BB.three (Below.refl _ _)
  have qBR := BR.three (Below.refl _ _)
  have fR := BR.free3
  go_wp2_with fail
  clear qBA qBB qBR fR
  refine (rtwo_ 7 true _ (by decide)).mono ?_
  rintro e w0 ⟨rfl, rfl⟩
  have qBA := BA.three (Below.refl _ _)
  have qBB := BB.three (Below.refl _ _)
  have qBR := BR.three (Below.refl _ _)
  have fR := BR.free3
  go_wp2_with fail
  clear qBA qBB qBR fR
  refine (rcmpp a b _ rfl _ hsa hsb).mono ?_
  rintro e w4 ⟨rfl, hb4⟩
  have BA := BA.ext hb4
  have BB := BB.ext hb4
  have BR := BR.ext hb4
  have qBA := BA.three (Below.refl _ _)
  have qBB := BB.three (Below.refl _ _)
  have qBR := BR.three (Below.refl _ _)
  have fR := BR.free3
  go_wp2_with fail
  clear qBA qBB qBR fR
  refine (rtruth_ true _).mono ?_
  rintro e w5 ⟨rfl, hb5⟩
  have BA := BA.ext hb5
  have BB := BB.ext hb5
  have BR := BR.ext hb5
  have qBA := BA.three (Below.refl _ _)
  have qBB := BB.three (Below.refl _ _)
  have qBR := BR.three (Below.refl _ _)
  have fR := BR.free3
  go_wp2
  clear qBA qBB qBR fR
  obtain ⟨wE, hwE, BE, hbE, _, _⟩ := BR.set3 (.int .i64 (tru true).k) (.int .i64 (tru true).n) (.string (tru true).s)
  rw [← hwE]
  have q_ := BE.three (Below.refl _ _)
  exact bodyPost_ret (v := .tuple #[.agg #[.int .i64 (tru true).k, .int .i64 (tru true).n, .string (tru true).s], .int .i64 0]) (by simp [results, Try.results42, go_sem, q_]) rfl ⟨rfl, Below.trans (bch0 (bch0 (bch0 (bch0 hbW hb1) hb2) hb4) hb5) (hbE _ (by omega))⟩
set_option maxRecDepth 1000000 in
set_option maxHeartbeats 4000000 in
theorem rpart6a (a b : V) (w : World) (hia : (a.k == 1 && a.n == 1) = true) :
    Calls Try.prog 42 #[.int .i64 6, .agg #[.int .i64 a.k, .int .i64 a.n, .string a.s], .agg #[.int .i64 b.k, .int .i64 b.n, .string b.s]] w fun e w' => e = .returned (partO (some (tru true))) ∧ Below w.heap.size w w' := by
  unfold partO
  simp only
  have HIA := Lib.hid hia
  clear hia
  go_enter Try.func42, Try.ntmps42
  go_wp2_with fail
  obtain ⟨W, hW_, hbW, BA, BB, BR⟩ : ∃ W_, W_ = (((w.alloc (.cells #[.int .i64 a.k, .int .i64 a.n, .string a.s] 30)).alloc (.cells #[.int .i64 b.k, .int .i64 b.n, .string b.s] 30)).alloc (.cells #[.int .i64 0, .int .i64 0, .string ⟨#[]⟩] 30)) ∧ Below w.heap.size w W_ ∧ Blk W_ (w.heap.size) 30 #[.int .i64 a.k, .int .i64 a.n, .string a.s] ∧ Blk W_ (w.heap.size + 1) 30 #[.int .i64 b.k, .int .i64 b.n, .string b.s] ∧ Blk W_ (w.heap.size + 1 + 1) 30 #[.int .i64 0, .int .i64 0, .string ⟨#[]⟩] :=
    ⟨_, rfl, ((((Below.refl _ _).alloc (Nat.le_refl _) _).alloc (by simp; try omega) _).alloc (by simp; try omega) _), (((blk_new_at w (w.heap.size) _ _ (by simp)).alloc _).alloc _), ((blk_new_at (w.alloc (.cells #[.int .i64 a.k, .int .i64 a.n, .string a.s] 30)) (w.heap.size + 1) _ _ (by simp)).alloc _), (blk_new_at ((w.alloc (.cells #[.int .i64 a.k, .int .i64 a.n, .string a.s] 30)).alloc (.cells #[.int .i64 b.k, .int .i64 b.n, .string b.s] 30)) (w.heap.size + 1 + 1) _ _ (by simp))⟩
  rw [← hW_]
  clear hW_
  refine (ris_ a 1 true HIA.out _).mono ?_
  rintro e w1 ⟨rfl, hb1⟩
  have BA := BA.ext hb1
  have BB := BB.ext hb1
  have BR := BR.ext hb1
  have qBA := BA.three (Below.refl _ _)
  have qBB := BB.three (Below.refl _ _)
  have qBR := BR.three (Below.refl _ _)
  have fR := BR.free3
  go_wp2_with fail
  clear qBA qBB qBR fR
  refine (rtruth_ true _).mono ?_
  rintro e w2 ⟨rfl, hb2⟩
  have BA := BA.ext hb2
  have BB := BB.ext hb2
  have BR := BR.ext hb2
  have qBA := BA.three (Below.refl _ _)
  have qBB := BB.three (Below.refl _ _)
  have qBR := BR.three (Below.refl _ _)
  have fR := BR.free3
  go_wp2
  clear qBA qBB qBR fR
  obtain ⟨wE, hwE, BE, hbE, _, _⟩ := BR.set3 (.int .i64 (tru true).k) (.int .i64 (tru true).n) (.string (tru true).s)
  rw [← hwE]
  have q_ := BE.three (Below.refl _ _)
  exact bodyPost_ret (v := .tuple #[.agg #[.int .i64 (tru true).k, .int .i64 (tru true).n, .string (tru true).s], .int .i64 0]) (by simp [results, Try.results42, go_sem, q_]) rfl ⟨rfl, Below.trans (bch0 (bch0 hbW hb1) hb2) (hbE _ (by omega))⟩
set_option maxRecDepth 1000000 in
set_option maxHeartbeats 4000000 in
theorem rpart6b (a b : V) (w : World) (hia : (a.k == 1 && a.n == 1) = false) (hib : (b.k == 1 && b.n == 1) = true) :
    Calls Try.prog 42 #[.int .i64 6, .agg #[.int .i64 a.k, .int .i64 a.n, .string a.s], .agg #[.int .i64 b.k, .int .i64 b.n, .string b.s]] w fun e w' => e = .returned (partO (some (tru true))) ∧ Below w.heap.size w w' := by
  unfold partO
  simp only
  have HIA := Lib.hid hia
  have HIB := Lib.hid hib
  clear hia hib
  go_enter Try.func42, Try.ntmps42
  go_wp2_with fail
  obtain ⟨W, hW_, hbW, BA, BB, BR⟩ : ∃ W_, W_ = (((w.alloc (.cells #[.int .i64 a.k, .int .i64 a.n, .string a.s] 30)).alloc (.cells #[.int .i64 b.k, .int .i64 b.n, .string b.s] 30)).alloc (.cells #[.int .i64 0, .int .i64 0, .string ⟨#[]⟩] 30)) ∧ Below w.heap.size w W_ ∧ Blk W_ (w.heap.size) 30 #[.int .i64 a.k, .int .i64 a.n, .string a.s] ∧ Blk W_ (w.heap.size + 1) 30 #[.int .i64 b.k, .int .i64 b.n, .string b.s] ∧ Blk W_ (w.heap.size + 1 + 1) 30 #[.int .i64 0, .int .i64 0, .string ⟨#[]⟩] :=
    ⟨_, rfl, ((((Below.refl _ _).alloc (Nat.le_refl _) _).alloc (by simp; try omega) _).alloc (by simp; try omega) _), (((blk_new_at w (w.heap.size) _ _ (by simp)).alloc _).alloc _), ((blk_new_at (w.alloc (.cells #[.int .i64 a.k, .int .i64 a.n, .string a.s] 30)) (w.heap.size + 1) _ _ (by simp)).alloc _), (blk_new_at ((w.alloc (.cells #[.int .i64 a.k, .int .i64 a.n, .string a.s] 30)).alloc (.cells #[.int .i64 b.k, .int .i64 b.n, .string b.s] 30)) (w.heap.size + 1 + 1) _ _ (by simp))⟩
  rw [← hW_]
  clear hW_
  refine (ris_ a 1 false HIA.out _).mono ?_
  rintro e w1 ⟨rfl, hb1⟩
  have BA := BA.ext hb1
  have BB := BB.ext hb1
  have BR := BR.ext hb1
  have qBA := BA.three (Below.refl _ _)
  have qBB := BB.three (Below.refl _ _)
  have qBR := BR.three (Below.refl _ _)
  have fR := BR.free3
  go_wp2_with fail
  clear qBA qBB qBR fR
  refine (ris_ b 1 true HIB.out _).mono ?_
  rintro e w2 ⟨rfl, hb2⟩
  have BA := BA.ext hb2
  have BB := BB.ext hb2
  have BR := BR.ext hb2
  have qBA := BA.three (Below.refl _ _)
  have qBB := BB.three (Below.refl _ _)
  have qBR := BR.three (Below.refl _ _)
  have fR := BR.free3
  go_wp2_with fail
  clear qBA qBB qBR fR
  refine (rtruth_ true _).mono ?_
  rintro e w3 ⟨rfl, hb3⟩
  have BA := BA.ext hb3
  have BB := BB.ext hb3
  have BR := BR.ext hb3
  have qBA := BA.three (Below.refl _ _)
  have qBB := BB.three (Below.refl _ _)
  have qBR := BR.three (Below.refl _ _)
  have fR := BR.free3
  go_wp2
  clear qBA qBB qBR fR
  obtain ⟨wE, hwE, BE, hbE, _, _⟩ := BR.set3 (.int .i64 (tru true).k) (.int .i64 (tru true).n) (.string (tru true).s)
  rw [← hwE]
  have q_ := BE.three (Below.refl _ _)
  exact bodyPost_ret (v := .tuple #[.agg #[.int .i64 (tru true).k, .int .i64 (tru true).n, .string (tru true).s], .int .i64 0]) (by simp [results, Try.results42, go_sem, q_]) rfl ⟨rfl, Below.trans (bch0 (bch0 (bch0 hbW hb1) hb2) hb3) (hbE _ (by omega))⟩
set_option maxRecDepth 1000000 in
set_option maxHeartbeats 4000000 in
theorem rpart6c (a b : V) (w : World) (hia : (a.k == 1 && a.n == 1) = false) (hib : (b.k == 1 && b.n == 1) = false) (h : (a.k == 0) = true) :
    Calls Try.prog 42 #[.int .i64 6, .agg #[.int .i64 a.k, .int .i64 a.n, .string a.s], .agg #[.int .i64 b.k, .int .i64 b.n, .string b.s]] w fun e w' => e = .returned (partO (some nul)) ∧ Below w.heap.size w w' := by
  unfold partO
  simp only
  have HIA := Lib.hid hia
  have HIB := Lib.hid hib
  clear hia hib
  go_enter Try.func42, Try.ntmps42
  go_wp2_with fail
  obtain ⟨W, hW_, hbW, BA, BB, BR⟩ : ∃ W_, W_ = (((w.alloc (.cells #[.int .i64 a.k, .int .i64 a.n, .string a.s] 30)).alloc (.cells #[.int .i64 b.k, .int .i64 b.n, .string b.s] 30)).alloc (.cells #[.int .i64 0, .int .i64 0, .string ⟨#[]⟩] 30)) ∧ Below w.heap.size w W_ ∧ Blk W_ (w.heap.size) 30 #[.int .i64 a.k, .int .i64 a.n, .string a.s] ∧ Blk W_ (w.heap.size + 1) 30 #[.int .i64 b.k, .int .i64 b.n, .string b.s] ∧ Blk W_ (w.heap.size + 1 + 1) 30 #[.int .i64 0, .int .i64 0, .string ⟨#[]⟩] :=
    ⟨_, rfl, ((((Below.refl _ _).alloc (Nat.le_refl _) _).alloc (by simp; try omega) _).alloc (by simp; try omega) _), (((blk_new_at w (w.heap.size) _ _ (by simp)).alloc _).alloc _), ((blk_new_at (w.alloc (.cells #[.int .i64 a.k, .int .i64 a.n, .string a.s] 30)) (w.heap.size + 1) _ _ (by simp)).alloc _), (blk_new_at ((w.alloc (.cells #[.int .i64 a.k, .int .i64 a.n, .string a.s] 30)).alloc (.cells #[.int .i64 b.k, .int .i64 b.n, .string b.s] 30)) (w.heap.size + 1 + 1) _ _ (by simp))⟩
  rw [← hW_]
  clear hW_
  refine (ris_ a 1 false HIA.out _).mono ?_
  rintro e w1 ⟨rfl, hb1⟩
  have BA := BA.ext hb1
  have BB := BB.ext hb1
  have BR := BR.ext hb1
  have qBA := BA.three (Below.refl _ _)
  have qBB := BB.three (Below.refl _ _)
  have qBR := BR.three (Below.refl _ _)
  have fR := BR.free3
  go_wp2_with fail
  clear qBA qBB qBR fR
  refine (ris_ b 1 false HIB.out _).mono ?_
  rintro e w2 ⟨rfl, hb2⟩
  have BA := BA.ext hb2
  have BB := BB.ext hb2
  have BR := BR.ext hb2
  have qBA := BA.three (Below.refl _ _)
  have qBB := BB.three (Below.refl _ _)
  have qBR := BR.three (Below.refl _ _)
  have fR := BR.free3
  go_wp2
  clear qBA qBB qBR fR
  obtain ⟨wE, hwE, BE, hbE, _, _⟩ := BR.set3 (.int .i64 0) (.int .i64 0) (.string ⟨#[]⟩)
  rw [← hwE]
  have q_ := BE.three (Below.refl _ _)
  exact bodyPost_ret (v := .tuple #[.agg #[.int .i64 0, .int .i64 0, .string ⟨#[]⟩], .int .i64 0]) (by simp [results, Try.results42, go_sem, q_]) rfl ⟨rfl, Below.trans (bch0 (bch0 hbW hb1) hb2) (hbE _ (by omega))⟩
set_option maxRecDepth 1000000 in
set_option maxHeartbeats 4000000 in
theorem rpart6d (a b : V) (w : World) (hia : (a.k == 1 && a.n == 1) = false) (hib : (b.k == 1 && b.n == 1) = false) (h : (a.k == 0) = false) (h2 : (b.k == 0) = true) :
    Calls Try.prog 42 #[.int .i64 6, .agg #[.int .i64 a.k, .int .i64 a.n, .string a.s], .agg #[.int .i64 b.k, .int .i64 b.n, .string b.s]] w fun e w' => e = .returned (partO (some nul)) ∧ Below w.heap.size w w' := by
  unfold partO
  simp only
  have HIA := Lib.hid hia
  have HIB := Lib.hid hib
  clear hia hib
  go_enter Try.func42, Try.ntmps42
  go_wp2_with fail
  obtain ⟨W, hW_, hbW, BA, BB, BR⟩ : ∃ W_, W_ = (((w.alloc (.cells #[.int .i64 a.k, .int .i64 a.n, .string a.s] 30)).alloc (.cells #[.int .i64 b.k, .int .i64 b.n, .string b.s] 30)).alloc (.cells #[.int .i64 0, .int .i64 0, .string ⟨#[]⟩] 30)) ∧ Below w.heap.size w W_ ∧ Blk W_ (w.heap.size) 30 #[.int .i64 a.k, .int .i64 a.n, .string a.s] ∧ Blk W_ (w.heap.size + 1) 30 #[.int .i64 b.k, .int .i64 b.n, .string b.s] ∧ Blk W_ (w.heap.size + 1 + 1) 30 #[.int .i64 0, .int .i64 0, .string ⟨#[]⟩] :=
    ⟨_, rfl, ((((Below.refl _ _).alloc (Nat.le_refl _) _).alloc (by simp; try omega) _).alloc (by simp; try omega) _), (((blk_new_at w (w.heap.size) _ _ (by simp)).alloc _).alloc _), ((blk_new_at (w.alloc (.cells #[.int .i64 a.k, .int .i64 a.n, .string a.s] 30)) (w.heap.size + 1) _ _ (by simp)).alloc _), (blk_new_at ((w.alloc (.cells #[.int .i64 a.k, .int .i64 a.n, .string a.s] 30)).alloc (.cells #[.int .i64 b.k, .int .i64 b.n, .string b.s] 30)) (w.heap.size + 1 + 1) _ _ (by simp))⟩
  rw [← hW_]
  clear hW_
  refine (ris_ a 1 false HIA.out _).mono ?_
  rintro e w1 ⟨rfl, hb1⟩
  have BA := BA.ext hb1
  have BB := BB.ext hb1
  have BR := BR.ext hb1
  have qBA := BA.three (Below.refl _ _)
  have qBB := BB.three (Below.refl _ _)
  have qBR := BR.three (Below.refl _ _)
  have fR := BR.free3
  go_wp2_with fail
  clear qBA qBB qBR fR
  refine (ris_ b 1 false HIB.out _).mono ?_
  rintro e w2 ⟨rfl, hb2⟩
  have BA := BA.ext hb2
  have BB := BB.ext hb2
  have BR := BR.ext hb2
  have qBA := BA.three (Below.refl _ _)
  have qBB := BB.three (Below.refl _ _)
  have qBR := BR.three (Below.refl _ _)
  have fR := BR.free3
  go_wp2_with fail
  clear qBA qBB qBR fR
  refine (rtwo_ 6 true _ (by decide)).mono ?_
  rintro e w0 ⟨rfl, rfl⟩
  have qBA := BA.three (Below.refl _ _)
  have qBB := BB.three (Below.refl _ _)
  have qBR := BR.three (Below.refl _ _)
  have fR := BR.free3
  go_wp2
  clear qBA qBB qBR fR
  obtain ⟨wE, hwE, BE, hbE, _, _⟩ := BR.set3 (.int .i64 0) (.int .i64 0) (.string ⟨#[]⟩)
  rw [← hwE]
  have q_ := BE.three (Below.refl _ _)
  exact bodyPost_ret (v := .tuple #[.agg #[.int .i64 0, .int .i64 0, .string ⟨#[]⟩], .int .i64 0]) (by simp [results, Try.results42, go_sem, q_]) rfl ⟨rfl, Below.trans (bch0 (bch0 hbW hb1) hb2) (hbE _ (by omega))⟩
set_option maxRecDepth 1000000 in
set_option maxHeartbeats 4000000 in
theorem rpart6e (a b : V) (w : World) (hia : (a.k == 1 && a.n == 1) = false) (hib : (b.k == 1 && b.n == 1) = false) (h : (a.k == 0) = false) (h2 : (b.k == 0) = false) (hsa : a.s.size ≤ maxLen) (hsb : b.s.size ≤ maxLen) :
    Calls Try.prog 42 #[.int .i64 6, .agg #[.int .i64 a.k, .int .i64 a.n, .string a.s], .agg #[.int .i64 b.k, .int .i64 b.n, .string b.s]] w fun e w' => e = .returned (partO (some (tru false))) ∧ Below w.heap.size w w' := by
  unfold partO
  simp only
  have HIA := Lib.hid hia
  have HIB := Lib.hid hib
  clear hia hib
  go_enter Try.func42, Try.ntmps42
  go_wp2_with fail
  obtain ⟨W, hW_, hbW, BA, BB, BR⟩ : ∃ W_, W_ = (((w.alloc (.cells #[.int .i64 a.k, .int .i64 a.n, .string a.s] 30)).alloc (.cells #[.int .i64 b.k, .int .i64 b.n, .string b.s] 30)).alloc (.cells #[.int .i64 0, .int .i64 0, .string ⟨#[]⟩] 30)) ∧ Below w.heap.size w W_ ∧ Blk W_ (w.heap.size) 30 #[.int .i64 a.k, .int .i64 a.n, .string a.s] ∧ Blk W_ (w.heap.size + 1) 30 #[.int .i64 b.k, .int .i64 b.n, .string b.s] ∧ Blk W_ (w.heap.size + 1 + 1) 30 #[.int .i64 0, .int .i64 0, .string ⟨#[]⟩] :=
    ⟨_, rfl, ((((Below.refl _ _).alloc (Nat.le_refl _) _).alloc (by simp; try omega) _).alloc (by simp; try omega) _), (((blk_new_at w (w.heap.size) _ _ (by simp)).alloc _).alloc _), ((blk_new_at (w.alloc (.cells #[.int .i64 a.k, .int .i64 a.n, .string a.s] 30)) (w.heap.size + 1) _ _ (by simp)).alloc _), (blk_new_at ((w.alloc (.cells #[.int .i64 a.k, .int .i64 a.n, .string a.s] 30)).alloc (.cells #[.int .i64 b.k, .int .i64 b.n, .string b.s] 30)) (w.heap.size + 1 + 1) _ _ (by simp))⟩
  rw [← hW_]
  clear hW_
  refine (ris_ a 1 false HIA.out _).mono ?_
  rintro e w1 ⟨rfl, hb1⟩
  have BA := BA.ext hb1
  have BB := BB.ext hb1
  have BR := BR.ext hb1
  have qBA := BA.three (Below.refl _ _)
  have qBB := BB.three (Below.refl _ _)
  have qBR := BR.three (Below.refl _ _)
  have fR := BR.free3
  go_wp2_with fail
  clear qBA qBB qBR fR
  refine (ris_ b 1 false HIB.out _).mono ?_
  rintro e w2 ⟨rfl, hb2⟩
  have BA := BA.ext hb2
  have BB := BB.ext hb2
  have BR := BR.ext hb2
  have qBA := BA.three (Below.refl _ _)
  have qBB := BB.three (Below.refl _ _)
  have qBR := BR.three (Below.refl _ _)
  have fR := BR.free3
  go_wp2_with fail
  clear qBA qBB qBR fR
  refine (rtwo_ 6 true _ (by decide)).mono ?_
  rintro e w0 ⟨rfl, rfl⟩
  have qBA := BA.three (Below.refl _ _)
  have qBB := BB.three (Below.refl _ _)
  have qBR := BR.three (Below.refl _ _)
  have fR := BR.free3
  go_wp2_with fail
  clear qBA qBB qBR fR
  refine (rcmpp a b _ rfl _ hsa hsb).mono ?_
  rintro e w4 ⟨rfl, hb4⟩
  have BA := BA.ext hb4
  have BB := BB.ext hb4
  have BR := BR.ext hb4
  have qBA := BA.three (Below.refl _ _)
  have qBB := BB.three (Below.refl _ _)
  have qBR := BR.three (Below.refl _ _)
  have fR := BR.free3
  go_wp2_with fail
  clear qBA qBB qBR fR
  refine (rtruth_ false _).mono ?_
  rintro e w5 ⟨rfl, hb5⟩
  have BA := BA.ext hb5
  have BB := BB.ext hb5
  have BR := BR.ext hb5
  have qBA := BA.three (Below.refl _ _)
  have qBB := BB.three (Below.refl _ _)
  have qBR := BR.three (Below.refl _ _)
  have fR := BR.free3
  go_wp2
  clear qBA qBB qBR fR
  obtain ⟨wE, hwE, BE, hbE, _, _⟩ := BR.set3 (.int .i64 (tru false).k) (.int .i64 (tru false).n) (.string (tru false).s)
  rw [← hwE]
  have q_ := BE.three (Below.refl _ _)
  exact bodyPost_ret (v := .tuple #[.agg #[.int .i64 (tru false).k, .int .i64 (tru false).n, .string (tru false).s], .int .i64 0]) (by simp [results, Try.results42, go_sem, q_]) rfl ⟨rfl, Below.trans (bch0 (bch0 (bch0 (bch0 hbW hb1) hb2) hb4) hb5) (hbE _ (by omega))⟩
set_option maxRecDepth 1000000 in
set_option maxHeartbeats 4000000 in
theorem rpart_n (op : Int) (a b : V) (w : World) (h : (a.k == 0) = true) (g5 : (op == 5) = false) (g6 : (op == 6) = false) (g7 : (op == 7) = false) :
    Calls Try.prog 42 #[.int .i64 op, .agg #[.int .i64 a.k, .int .i64 a.n, .string a.s], .agg #[.int .i64 b.k, .int .i64 b.n, .string b.s]] w fun e w' => e = .returned (partO (some nul)) ∧ Below w.heap.size w w' := by
  unfold partO
  simp only
  go_enter Try.func42, Try.ntmps42
  go_wp2
  exact bodyPost_ret (v := .tuple #[.agg #[.int .i64 0, .int .i64 0, .string ⟨#[]⟩], .int .i64 0]) (by simp [results, Try.results42, go_sem]; try rfl) rfl ⟨rfl, (((Below.refl _ _).alloc (Nat.le_refl _) _).alloc (by simp) _).alloc (by simp; omega) _⟩
set_option maxRecDepth 1000000 in
set_option maxHeartbeats 4000000 in
theorem rpart_m (op : Int) (a b : V) (w : World) (h : (a.k == 0) = false) (h2 : (b.k == 0) = true) (ht : decide (6 ≤ op ∧ op ≤ 16) = true) (g5 : (op == 5) = false) (g6 : (op == 6) = false) (g7 : (op == 7) = false) :
    Calls Try.prog 42 #[.int .i64 op, .agg #[.int .i64 a.k, .int .i64 a.n, .string a.s], .agg #[.int .i64 b.k, .int .i64 b.n, .string b.s]] w fun e w' => e = .returned (partO (some nul)) ∧ Below w.heap.size w w' := by
  unfold partO
  simp only
  have HT := Lib.hid ht
  clear ht
  go_enter Try.func42, Try.ntmps42
  go_wp2_with fail
  obtain ⟨W, hW_, hbW, BA, BB, BR⟩ : ∃ W_, W_ = (((w.alloc (.cells #[.int .i64 a.k, .int .i64 a.n, .string a.s] 30)).alloc (.cells #[.int .i64 b.k, .int .i64 b.n, .string b.s] 30)).alloc (.cells #[.int .i64 0, .int .i64 0, .string ⟨#[]⟩] 30)) ∧ Below w.heap.size w W_ ∧ Blk W_ (w.heap.size) 30 #[.int .i64 a.k, .int .i64 a.n, .string a.s] ∧ Blk W_ (w.heap.size + 1) 30 #[.int .i64 b.k, .int .i64 b.n, .string b.s] ∧ Blk W_ (w.heap.size + 1 + 1) 30 #[.int .i64 0, .int .i64 0, .string ⟨#[]⟩] :=
    ⟨_, rfl, ((((Below.refl _ _).alloc (Nat.le_refl _) _).alloc (by simp; try omega) _).alloc (by simp; try omega) _), (((blk_new_at w (w.heap.size) _ _ (by simp)).alloc _).alloc _), ((blk_new_at (w.alloc (.cells #[.int .i64 a.k, .int .i64 a.n, .string a.s] 30)) (w.heap.size + 1) _ _ (by simp)).alloc _), (blk_new_at ((w.alloc (.cells #[.int .i64 a.k, .int .i64 a.n, .string a.s] 30)).alloc (.cells #[.int .i64 b.k, .int .i64 b.n, .string b.s] 30)) (w.heap.size + 1 + 1) _ _ (by simp))⟩
  rw [← hW_]
  clear hW_
  refine (rtwo_ op true _ HT.out).mono ?_
  rintro e w0 ⟨rfl, rfl⟩
  have qBA := BA.three (Below.refl _ _)
  have qBB := BB.three (Below.refl _ _)
  have qBR := BR.three (Below.refl _ _)
  have fR := BR.free3
  go_wp2
  clear qBA qBB qBR fR
  obtain ⟨wE, hwE, BE, hbE, _, _⟩ := BR.set3 (.int .i64 0) (.int .i64 0) (.string ⟨#[]⟩)
  rw [← hwE]
  have q_ := BE.three (Below.refl _ _)
  exact bodyPost_ret (v := .tuple #[.agg #[.int .i64 0, .int .i64 0, .string ⟨#[]⟩], .int .i64 0]) (by simp [results, Try.results42, go_sem, q_]) rfl ⟨rfl, Below.trans hbW (hbE _ (by omega))⟩
set_option maxRecDepth 1000000 in
set_option maxHeartbeats 4000000 in
theorem rpart3 (a b : V) (w : World) (h : (a.k == 0) = false) (hsa : a.s.size ≤ maxLen) (hsb : b.s.size ≤ maxLen) :
    Calls Try.prog 42 #[.int .i64 3, .agg #[.int .i64 a.k, .int .i64 a.n, .string a.s], .agg #[.int .i64 b.k, .int .i64 b.n, .string b.s]] w fun e w' => e = .returned (partO (some (tru (a.n == 0)))) ∧ Below w.heap.size w w' := by
  unfold partO
  simp only
  go_enter Try.func42, Try.ntmps42
  go_wp2_with fail
  obtain ⟨W, hW_, hbW, BA, BB, BR⟩ : ∃ W_, W_ = (((w.alloc (.cells #[.int .i64 a.k, .int .i64 a.n, .string a.s] 30)).alloc (.cells #[.int .i64 b.k, .int .i64 b.n, .string b.s] 30)).alloc (.cells #[.int .i64 0, .int .i64 0, .string ⟨#[]⟩] 30)) ∧ Below w.heap.size w W_ ∧ Blk W_ (w.heap.size) 30 #[.int .i64 a.k, .int .i64 a.n, .string a.s] ∧ Blk W_ (w.heap.size + 1) 30 #[.int .i64 b.k, .int .i64 b.n, .string b.s] ∧ Blk W_ (w.heap.size + 1 + 1) 30 #[.int .i64 0, .int .i64 0, .string ⟨#[]⟩] :=
    ⟨_, rfl, ((((Below.refl _ _).alloc (Nat.le_refl _) _).alloc (by simp; try omega) _).alloc (by simp; try omega) _), (((blk_new_at w (w.heap.size) _ _ (by simp)).alloc _).alloc _), ((blk_new_at (w.alloc (.cells #[.int .i64 a.k, .int .i64 a.n, .string a.s] 30)) (w.heap.size + 1) _ _ (by simp)).alloc _), (blk_new_at ((w.alloc (.cells #[.int .i64 a.k, .int .i64 a.n, .string a.s] 30)).alloc (.cells #[.int .i64 b.k, .int .i64 b.n, .string b.s] 30)) (w.heap.size + 1 + 1) _ _ (by simp))⟩
  rw [← hW_]
  clear hW_
  refine (rtwo_ 3 false _ (by decide)).mono ?_
  rintro e w0 ⟨rfl, rfl⟩
  have qBA := BA.three (Below.refl _ _)
  have qBB := BB.three (Below.refl _ _)
  have qBR := BR.three (Below.refl _ _)
  have fR := BR.free3
  go_wp2_with fail
  clear qBA qBB qBR fR
  refine (rcmpp a b _ rfl _ hsa hsb).mono ?_
  rintro e w2 ⟨rfl, hb2⟩
  have BA := BA.ext hb2
  have BB := BB.ext hb2
  have BR := BR.ext hb2
  have qBA := BA.three (Below.refl _ _)
  have qBB := BB.three (Below.refl _ _)
  have qBR := BR.three (Below.refl _ _)
  have fR := BR.free3
  go_wp2_with fail
  clear qBA qBB qBR fR
  refine (rtruth_ (a.n == 0) _).mono ?_
  rintro e w3 ⟨rfl, hb3⟩
  have BA := BA.ext hb3
  have BB := BB.ext hb3
  have BR := BR.ext hb3
  have qBA := BA.three (Below.refl _ _)
  have qBB := BB.three (Below.refl _ _)
  have qBR := BR.three (Below.refl _ _)
  have fR := BR.free3
  go_wp2
  clear qBA qBB qBR fR
  obtain ⟨wE, hwE, BE, hbE, _, _⟩ := BR.set3 (.int .i64 (tru (a.n == 0)).k) (.int .i64 (tru (a.n == 0)).n) (.string (tru (a.n == 0)).s)
  rw [← hwE]
  have q_ := BE.three (Below.refl _ _)
  exact bodyPost_ret (v := .tuple #[.agg #[.int .i64 (tru (a.n == 0)).k, .int .i64 (tru (a.n == 0)).n, .string (tru (a.n == 0)).s], .int .i64 0]) (by simp [results, Try.results42, go_sem, q_]) rfl ⟨rfl, Below.trans (bch0 (bch0 hbW hb2) hb3) (hbE _ (by omega))⟩
set_option maxRecDepth 1000000 in
set_option maxHeartbeats 4000000 in
theorem rpart4k (a b : V) (w : World) (h : (a.k == 0) = false) (hn : (a.n == -9223372036854775808) = false) (hx : ok64 (-a.n)) (hsa : a.s.size ≤ maxLen) (hsb : b.s.size ≤ maxLen) :
    Calls Try.prog 42 #[.int .i64 4, .agg #[.int .i64 a.k, .int .i64 a.n, .string a.s], .agg #[.int .i64 b.k, .int .i64 b.n, .string b.s]] w fun e w' => e = .returned (partO (some ⟨2, -a.n, ByteArray.empty⟩)) ∧ Below w.heap.size w w' := by
  unfold partO
  simp only
  unfold ok64 at hx
  go_enter Try.func42, Try.ntmps42
  go_wp2_with fail
  obtain ⟨W, hW_, hbW, BA, BB, BR⟩ : ∃ W_, W_ = (((w.alloc (.cells #[.int .i64 a.k, .int .i64 a.n, .string a.s] 30)).alloc (.cells #[.int .i64 b.k, .int .i64 b.n, .string b.s] 30)).alloc (.cells #[.int .i64 0, .int .i64 0, .string ⟨#[]⟩] 30)) ∧ Below w.heap.size w W_ ∧ Blk W_ (w.heap.size) 30 #[.int .i64 a.k, .int .i64 a.n, .string a.s] ∧ Blk W_ (w.heap.size + 1) 30 #[.int .i64 b.k, .int .i64 b.n, .string b.s] ∧ Blk W_ (w.heap.size + 1 + 1) 30 #[.int .i64 0, .int .i64 0, .string ⟨#[]⟩] :=
    ⟨_, rfl, ((((Below.refl _ _).alloc (Nat.le_refl _) _).alloc (by simp; try omega) _).alloc (by simp; try omega) _), (((blk_new_at w (w.heap.size) _ _ (by simp)).alloc _).alloc _), ((blk_new_at (w.alloc (.cells #[.int .i64 a.k, .int .i64 a.n, .string a.s] 30)) (w.heap.size + 1) _ _ (by simp)).alloc _), (blk_new_at ((w.alloc (.cells #[.int .i64 a.k, .int .i64 a.n, .string a.s] 30)).alloc (.cells #[.int .i64 b.k, .int .i64 b.n, .string b.s] 30)) (w.heap.size + 1 + 1) _ _ (by simp))⟩
  rw [← hW_]
  clear hW_
  refine (rtwo_ 4 false _ (by decide)).mono ?_
  rintro e w0 ⟨rfl, rfl⟩
  have qBA := BA.three (Below.refl _ _)
  have qBB := BB.three (Below.refl _ _)
  have qBR := BR.three (Below.refl _ _)
  have fR := BR.free3
  go_wp2_with fail
  clear qBA qBB qBR fR
  refine (rcmpp a b _ rfl _ hsa hsb).mono ?_
  rintro e w2 ⟨rfl, hb2⟩
  have BA := BA.ext hb2
  have BB := BB.ext hb2
  have BR := BR.ext hb2
  have qBA := BA.three (Below.refl _ _)
  have qBB := BB.three (Below.refl _ _)
  have qBR := BR.three (Below.refl _ _)
  have fR := BR.free3
  go_wp2
  clear qBA qBB qBR fR
  obtain ⟨wE, hwE, BE, hbE, _, _⟩ := BR.set3 (.int .i64 2) (.int .i64 (-a.n)) (.string ⟨#[]⟩)
  rw [← hwE]
  have q_ := BE.three (Below.refl _ _)
  exact bodyPost_ret (v := .tuple #[.agg #[.int .i64 2, .int .i64 (-a.n), .string ⟨#[]⟩], .int .i64 0]) (by simp [results, Try.results42, go_sem, q_]) rfl ⟨rfl, Below.trans (bch0 hbW hb2) (hbE _ (by omega))⟩
set_option maxRecDepth 1000000 in
set_option maxHeartbeats 4000000 in
theorem rpart4o (a b : V) (w : World) (h : (a.k == 0) = false) (hn : (a.n == -9223372036854775808) = true) (hsa : a.s.size ≤ maxLen) (hsb : b.s.size ≤ maxLen) :
    Calls Try.prog 42 #[.int .i64 4, .agg #[.int .i64 a.k, .int .i64 a.n, .string a.s], .agg #[.int .i64 b.k, .int .i64 b.n, .string b.s]] w fun e w' => e = .returned (partO none) ∧ Below w.heap.size w w' := by
  unfold partO
  simp only
  go_enter Try.func42, Try.ntmps42
  go_wp2_with fail
  obtain ⟨W, hW_, hbW, BA, BB, BR⟩ : ∃ W_, W_ = (((w.alloc (.cells #[.int .i64 a.k, .int .i64 a.n, .string a.s] 30)).alloc (.cells #[.int .i64 b.k, .int .i64 b.n, .string b.s] 30)).alloc (.cells #[.int .i64 0, .int .i64 0, .string ⟨#[]⟩] 30)) ∧ Below w.heap.size w W_ ∧ Blk W_ (w.heap.size) 30 #[.int .i64 a.k, .int .i64 a.n, .string a.s] ∧ Blk W_ (w.heap.size + 1) 30 #[.int .i64 b.k, .int .i64 b.n, .string b.s] ∧ Blk W_ (w.heap.size + 1 + 1) 30 #[.int .i64 0, .int .i64 0, .string ⟨#[]⟩] :=
    ⟨_, rfl, ((((Below.refl _ _).alloc (Nat.le_refl _) _).alloc (by simp; try omega) _).alloc (by simp; try omega) _), (((blk_new_at w (w.heap.size) _ _ (by simp)).alloc _).alloc _), ((blk_new_at (w.alloc (.cells #[.int .i64 a.k, .int .i64 a.n, .string a.s] 30)) (w.heap.size + 1) _ _ (by simp)).alloc _), (blk_new_at ((w.alloc (.cells #[.int .i64 a.k, .int .i64 a.n, .string a.s] 30)).alloc (.cells #[.int .i64 b.k, .int .i64 b.n, .string b.s] 30)) (w.heap.size + 1 + 1) _ _ (by simp))⟩
  rw [← hW_]
  clear hW_
  refine (rtwo_ 4 false _ (by decide)).mono ?_
  rintro e w0 ⟨rfl, rfl⟩
  have qBA := BA.three (Below.refl _ _)
  have qBB := BB.three (Below.refl _ _)
  have qBR := BR.three (Below.refl _ _)
  have fR := BR.free3
  go_wp2_with fail
  clear qBA qBB qBR fR
  refine (rcmpp a b _ rfl _ hsa hsb).mono ?_
  rintro e w2 ⟨rfl, hb2⟩
  have BA := BA.ext hb2
  have BB := BB.ext hb2
  have BR := BR.ext hb2
  have qBA := BA.three (Below.refl _ _)
  have qBB := BB.three (Below.refl _ _)
  have qBR := BR.three (Below.refl _ _)
  have fR := BR.free3
  go_wp2
  clear qBA qBB qBR fR
  obtain ⟨wE, hwE, BE, hbE, _, _⟩ := BR.set3 (.int .i64 0) (.int .i64 0) (.string ⟨#[]⟩)
  rw [← hwE]
  have q_ := BE.three (Below.refl _ _)
  exact bodyPost_ret (v := .tuple #[.agg #[.int .i64 0, .int .i64 0, .string ⟨#[]⟩], .int .i64 11]) (by simp [results, Try.results42, go_sem, q_]) rfl ⟨rfl, Below.trans (bch0 hbW hb2) (hbE _ (by omega))⟩
set_option maxRecDepth 1000000 in
set_option maxHeartbeats 4000000 in
theorem rpart8 (a b : V) (w : World) (h : (a.k == 0) = false) (h2 : (b.k == 0) = false) (c : Int) (hc : rcmpV a b = c) (hsa : a.s.size ≤ maxLen) (hsb : b.s.size ≤ maxLen) :
    Calls Try.prog 42 #[.int .i64 8, .agg #[.int .i64 a.k, .int .i64 a.n, .string a.s], .agg #[.int .i64 b.k, .int .i64 b.n, .string b.s]] w fun e w' => e = .returned (partO (some (tru (c == 0)))) ∧ Below w.heap.size w w' := by
  unfold partO
  simp only
  have HC := Lib.hid hc
  clear hc
  go_enter Try.func42, Try.ntmps42
  go_wp2_with fail
  obtain ⟨W, hW_, hbW, BA, BB, BR⟩ : ∃ W_, W_ = (((w.alloc (.cells #[.int .i64 a.k, .int .i64 a.n, .string a.s] 30)).alloc (.cells #[.int .i64 b.k, .int .i64 b.n, .string b.s] 30)).alloc (.cells #[.int .i64 0, .int .i64 0, .string ⟨#[]⟩] 30)) ∧ Below w.heap.size w W_ ∧ Blk W_ (w.heap.size) 30 #[.int .i64 a.k, .int .i64 a.n, .string a.s] ∧ Blk W_ (w.heap.size + 1) 30 #[.int .i64 b.k, .int .i64 b.n, .string b.s] ∧ Blk W_ (w.heap.size + 1 + 1) 30 #[.int .i64 0, .int .i64 0, .string ⟨#[]⟩] :=
    ⟨_, rfl, ((((Below.refl _ _).alloc (Nat.le_refl _) _).alloc (by simp; try omega) _).alloc (by simp; try omega) _), (((blk_new_at w (w.heap.size) _ _ (by simp)).alloc _).alloc _), ((blk_new_at (w.alloc (.cells #[.int .i64 a.k, .int .i64 a.n, .string a.s] 30)) (w.heap.size + 1) _ _ (by simp)).alloc _), (blk_new_at ((w.alloc (.cells #[.int .i64 a.k, .int .i64 a.n, .string a.s] 30)).alloc (.cells #[.int .i64 b.k, .int .i64 b.n, .string b.s] 30)) (w.heap.size + 1 + 1) _ _ (by simp))⟩
  rw [← hW_]
  clear hW_
  refine (rtwo_ 8 true _ (by decide)).mono ?_
  rintro e w0 ⟨rfl, rfl⟩
  have qBA := BA.three (Below.refl _ _)
  have qBB := BB.three (Below.refl _ _)
  have qBR := BR.three (Below.refl _ _)
  have fR := BR.free3
  go_wp2_with fail
  clear qBA qBB qBR fR
  refine (rcmpp a b c HC.out _ hsa hsb).mono ?_
  rintro e w2 ⟨rfl, hb2⟩
  have BA := BA.ext hb2
  have BB := BB.ext hb2
  have BR := BR.ext hb2
  have qBA := BA.three (Below.refl _ _)
  have qBB := BB.three (Below.refl _ _)
  have qBR := BR.three (Below.refl _ _)
  have fR := BR.free3
  go_wp2_with fail
  clear qBA qBB qBR fR
  refine (rtruth_ (c == 0) _).mono ?_
  rintro e w3 ⟨rfl, hb3⟩
  have BA := BA.ext hb3
  have BB := BB.ext hb3
  have BR := BR.ext hb3
  have qBA := BA.three (Below.refl _ _)
  have qBB := BB.three (Below.refl _ _)
  have qBR := BR.three (Below.refl _ _)
  have fR := BR.free3
  go_wp2
  clear qBA qBB qBR fR
  obtain ⟨wE, hwE, BE, hbE, _, _⟩ := BR.set3 (.int .i64 (tru (c == 0)).k) (.int .i64 (tru (c == 0)).n) (.string (tru (c == 0)).s)
  rw [← hwE]
  have q_ := BE.three (Below.refl _ _)
  exact bodyPost_ret (v := .tuple #[.agg #[.int .i64 (tru (c == 0)).k, .int .i64 (tru (c == 0)).n, .string (tru (c == 0)).s], .int .i64 0]) (by simp [results, Try.results42, go_sem, q_]) rfl ⟨rfl, Below.trans (bch0 (bch0 hbW hb2) hb3) (hbE _ (by omega))⟩
set_option maxRecDepth 1000000 in
set_option maxHeartbeats 4000000 in
theorem rpart9 (a b : V) (w : World) (h : (a.k == 0) = false) (h2 : (b.k == 0) = false) (c : Int) (hc : rcmpV a b = c) (hsa : a.s.size ≤ maxLen) (hsb : b.s.size ≤ maxLen) :
    Calls Try.prog 42 #[.int .i64 9, .agg #[.int .i64 a.k, .int .i64 a.n, .string a.s], .agg #[.int .i64 b.k, .int .i64 b.n, .string b.s]] w fun e w' => e = .returned (partO (some (tru (c != 0)))) ∧ Below w.heap.size w w' := by
  unfold partO
  simp only
  have HC := Lib.hid hc
  clear hc
  go_enter Try.func42, Try.ntmps42
  go_wp2_with fail
  obtain ⟨W, hW_, hbW, BA, BB, BR⟩ : ∃ W_, W_ = (((w.alloc (.cells #[.int .i64 a.k, .int .i64 a.n, .string a.s] 30)).alloc (.cells #[.int .i64 b.k, .int .i64 b.n, .string b.s] 30)).alloc (.cells #[.int .i64 0, .int .i64 0, .string ⟨#[]⟩] 30)) ∧ Below w.heap.size w W_ ∧ Blk W_ (w.heap.size) 30 #[.int .i64 a.k, .int .i64 a.n, .string a.s] ∧ Blk W_ (w.heap.size + 1) 30 #[.int .i64 b.k, .int .i64 b.n, .string b.s] ∧ Blk W_ (w.heap.size + 1 + 1) 30 #[.int .i64 0, .int .i64 0, .string ⟨#[]⟩] :=
    ⟨_, rfl, ((((Below.refl _ _).alloc (Nat.le_refl _) _).alloc (by simp; try omega) _).alloc (by simp; try omega) _), (((blk_new_at w (w.heap.size) _ _ (by simp)).alloc _).alloc _), ((blk_new_at (w.alloc (.cells #[.int .i64 a.k, .int .i64 a.n, .string a.s] 30)) (w.heap.size + 1) _ _ (by simp)).alloc _), (blk_new_at ((w.alloc (.cells #[.int .i64 a.k, .int .i64 a.n, .string a.s] 30)).alloc (.cells #[.int .i64 b.k, .int .i64 b.n, .string b.s] 30)) (w.heap.size + 1 + 1) _ _ (by simp))⟩
  rw [← hW_]
  clear hW_
  refine (rtwo_ 9 true _ (by decide)).mono ?_
  rintro e w0 ⟨rfl, rfl⟩
  have qBA := BA.three (Below.refl _ _)
  have qBB := BB.three (Below.refl _ _)
  have qBR := BR.three (Below.refl _ _)
  have fR := BR.free3
  go_wp2_with fail
  clear qBA qBB qBR fR
  refine (rcmpp a b c HC.out _ hsa hsb).mono ?_
  rintro e w2 ⟨rfl, hb2⟩
  have BA := BA.ext hb2
  have BB := BB.ext hb2
  have BR := BR.ext hb2
  have qBA := BA.three (Below.refl _ _)
  have qBB := BB.three (Below.refl _ _)
  have qBR := BR.three (Below.refl _ _)
  have fR := BR.free3
  go_wp2_with fail
  clear qBA qBB qBR fR
  refine (rtruth_ (c != 0) _).mono ?_
  rintro e w3 ⟨rfl, hb3⟩
  have BA := BA.ext hb3
  have BB := BB.ext hb3
  have BR := BR.ext hb3
  have qBA := BA.three (Below.refl _ _)
  have qBB := BB.three (Below.refl _ _)
  have qBR := BR.three (Below.refl _ _)
  have fR := BR.free3
  go_wp2
  clear qBA qBB qBR fR
  obtain ⟨wE, hwE, BE, hbE, _, _⟩ := BR.set3 (.int .i64 (tru (c != 0)).k) (.int .i64 (tru (c != 0)).n) (.string (tru (c != 0)).s)
  rw [← hwE]
  have q_ := BE.three (Below.refl _ _)
  exact bodyPost_ret (v := .tuple #[.agg #[.int .i64 (tru (c != 0)).k, .int .i64 (tru (c != 0)).n, .string (tru (c != 0)).s], .int .i64 0]) (by simp [results, Try.results42, go_sem, q_]) rfl ⟨rfl, Below.trans (bch0 (bch0 hbW hb2) hb3) (hbE _ (by omega))⟩
set_option maxRecDepth 1000000 in
set_option maxHeartbeats 4000000 in
theorem rpart10 (a b : V) (w : World) (h : (a.k == 0) = false) (h2 : (b.k == 0) = false) (c : Int) (hc : rcmpV a b = c) (hsa : a.s.size ≤ maxLen) (hsb : b.s.size ≤ maxLen) :
    Calls Try.prog 42 #[.int .i64 10, .agg #[.int .i64 a.k, .int .i64 a.n, .string a.s], .agg #[.int .i64 b.k, .int .i64 b.n, .string b.s]] w fun e w' => e = .returned (partO (some (tru (decide (c < 0))))) ∧ Below w.heap.size w w' := by
  unfold partO
  simp only
  have HC := Lib.hid hc
  clear hc
  go_enter Try.func42, Try.ntmps42
  go_wp2_with fail
  obtain ⟨W, hW_, hbW, BA, BB, BR⟩ : ∃ W_, W_ = (((w.alloc (.cells #[.int .i64 a.k, .int .i64 a.n, .string a.s] 30)).alloc (.cells #[.int .i64 b.k, .int .i64 b.n, .string b.s] 30)).alloc (.cells #[.int .i64 0, .int .i64 0, .string ⟨#[]⟩] 30)) ∧ Below w.heap.size w W_ ∧ Blk W_ (w.heap.size) 30 #[.int .i64 a.k, .int .i64 a.n, .string a.s] ∧ Blk W_ (w.heap.size + 1) 30 #[.int .i64 b.k, .int .i64 b.n, .string b.s] ∧ Blk W_ (w.heap.size + 1 + 1) 30 #[.int .i64 0, .int .i64 0, .string ⟨#[]⟩] :=
    ⟨_, rfl, ((((Below.refl _ _).alloc (Nat.le_refl _) _).alloc (by simp; try omega) _).alloc (by simp; try omega) _), (((blk_new_at w (w.heap.size) _ _ (by simp)).alloc _).alloc _), ((blk_new_at (w.alloc (.cells #[.int .i64 a.k, .int .i64 a.n, .string a.s] 30)) (w.heap.size + 1) _ _ (by simp)).alloc _), (blk_new_at ((w.alloc (.cells #[.int .i64 a.k, .int .i64 a.n, .string a.s] 30)).alloc (.cells #[.int .i64 b.k, .int .i64 b.n, .string b.s] 30)) (w.heap.size + 1 + 1) _ _ (by simp))⟩
  rw [← hW_]
  clear hW_
  refine (rtwo_ 10 true _ (by decide)).mono ?_
  rintro e w0 ⟨rfl, rfl⟩
  have qBA := BA.three (Below.refl _ _)
  have qBB := BB.three (Below.refl _ _)
  have qBR := BR.three (Below.refl _ _)
  have fR := BR.free3
  go_wp2_with fail
  clear qBA qBB qBR fR
  refine (rcmpp a b c HC.out _ hsa hsb).mono ?_
  rintro e w2 ⟨rfl, hb2⟩
  have BA := BA.ext hb2
  have BB := BB.ext hb2
  have BR := BR.ext hb2
  have qBA := BA.three (Below.refl _ _)
  have qBB := BB.three (Below.refl _ _)
  have qBR := BR.three (Below.refl _ _)
  have fR := BR.free3
  go_wp2_with fail
  clear qBA qBB qBR fR
  refine (rtruth_ (decide (c < 0)) _).mono ?_
  rintro e w3 ⟨rfl, hb3⟩
  have BA := BA.ext hb3
  have BB := BB.ext hb3
  have BR := BR.ext hb3
  have qBA := BA.three (Below.refl _ _)
  have qBB := BB.three (Below.refl _ _)
  have qBR := BR.three (Below.refl _ _)
  have fR := BR.free3
  go_wp2
  clear qBA qBB qBR fR
  obtain ⟨wE, hwE, BE, hbE, _, _⟩ := BR.set3 (.int .i64 (tru (decide (c < 0))).k) (.int .i64 (tru (decide (c < 0))).n) (.string (tru (decide (c < 0))).s)
  rw [← hwE]
  have q_ := BE.three (Below.refl _ _)
  exact bodyPost_ret (v := .tuple #[.agg #[.int .i64 (tru (decide (c < 0))).k, .int .i64 (tru (decide (c < 0))).n, .string (tru (decide (c < 0))).s], .int .i64 0]) (by simp [results, Try.results42, go_sem, q_]) rfl ⟨rfl, Below.trans (bch0 (bch0 hbW hb2) hb3) (hbE _ (by omega))⟩
set_option maxRecDepth 1000000 in
set_option maxHeartbeats 4000000 in
theorem rpart11 (a b : V) (w : World) (h : (a.k == 0) = false) (h2 : (b.k == 0) = false) (c : Int) (hc : rcmpV a b = c) (hsa : a.s.size ≤ maxLen) (hsb : b.s.size ≤ maxLen) :
    Calls Try.prog 42 #[.int .i64 11, .agg #[.int .i64 a.k, .int .i64 a.n, .string a.s], .agg #[.int .i64 b.k, .int .i64 b.n, .string b.s]] w fun e w' => e = .returned (partO (some (tru (decide (c ≤ 0))))) ∧ Below w.heap.size w w' := by
  unfold partO
  simp only
  have HC := Lib.hid hc
  clear hc
  go_enter Try.func42, Try.ntmps42
  go_wp2_with fail
  obtain ⟨W, hW_, hbW, BA, BB, BR⟩ : ∃ W_, W_ = (((w.alloc (.cells #[.int .i64 a.k, .int .i64 a.n, .string a.s] 30)).alloc (.cells #[.int .i64 b.k, .int .i64 b.n, .string b.s] 30)).alloc (.cells #[.int .i64 0, .int .i64 0, .string ⟨#[]⟩] 30)) ∧ Below w.heap.size w W_ ∧ Blk W_ (w.heap.size) 30 #[.int .i64 a.k, .int .i64 a.n, .string a.s] ∧ Blk W_ (w.heap.size + 1) 30 #[.int .i64 b.k, .int .i64 b.n, .string b.s] ∧ Blk W_ (w.heap.size + 1 + 1) 30 #[.int .i64 0, .int .i64 0, .string ⟨#[]⟩] :=
    ⟨_, rfl, ((((Below.refl _ _).alloc (Nat.le_refl _) _).alloc (by simp; try omega) _).alloc (by simp; try omega) _), (((blk_new_at w (w.heap.size) _ _ (by simp)).alloc _).alloc _), ((blk_new_at (w.alloc (.cells #[.int .i64 a.k, .int .i64 a.n, .string a.s] 30)) (w.heap.size + 1) _ _ (by simp)).alloc _), (blk_new_at ((w.alloc (.cells #[.int .i64 a.k, .int .i64 a.n, .string a.s] 30)).alloc (.cells #[.int .i64 b.k, .int .i64 b.n, .string b.s] 30)) (w.heap.size + 1 + 1) _ _ (by simp))⟩
  rw [← hW_]
  clear hW_
  refine (rtwo_ 11 true _ (by decide)).mono ?_
  rintro e w0 ⟨rfl, rfl⟩
  have qBA := BA.three (Below.refl _ _)
  have qBB := BB.three (Below.refl _ _)
  have qBR := BR.three (Below.refl _ _)
  have fR := BR.free3
  go_wp2_with fail
  clear qBA qBB qBR fR
  refine (rcmpp a b c HC.out _ hsa hsb).mono ?_
  rintro e w2 ⟨rfl, hb2⟩
  have BA := BA.ext hb2
  have BB := BB.ext hb2
  have BR := BR.ext hb2
  have qBA := BA.three (Below.refl _ _)
  have qBB := BB.three (Below.refl _ _)
  have qBR := BR.three (Below.refl _ _)
  have fR := BR.free3
  go_wp2_with fail
  clear qBA qBB qBR fR
  refine (rtruth_ (decide (c ≤ 0)) _).mono ?_
  rintro e w3 ⟨rfl, hb3⟩
  have BA := BA.ext hb3
  have BB := BB.ext hb3
  have BR := BR.ext hb3
  have qBA := BA.three (Below.refl _ _)
  have qBB := BB.three (Below.refl _ _)
  have qBR := BR.three (Below.refl _ _)
  have fR := BR.free3
  go_wp2
  clear qBA qBB qBR fR
  obtain ⟨wE, hwE, BE, hbE, _, _⟩ := BR.set3 (.int .i64 (tru (decide (c ≤ 0))).k) (.int .i64 (tru (decide (c ≤ 0))).n) (.string (tru (decide (c ≤ 0))).s)
  rw [← hwE]
  have q_ := BE.three (Below.refl _ _)
  exact bodyPost_ret (v := .tuple #[.agg #[.int .i64 (tru (decide (c ≤ 0))).k, .int .i64 (tru (decide (c ≤ 0))).n, .string (tru (decide (c ≤ 0))).s], .int .i64 0]) (by simp [results, Try.results42, go_sem, q_]) rfl ⟨rfl, Below.trans (bch0 (bch0 hbW hb2) hb3) (hbE _ (by omega))⟩
set_option maxRecDepth 1000000 in
set_option maxHeartbeats 4000000 in
theorem rpart12 (a b : V) (w : World) (h : (a.k == 0) = false) (h2 : (b.k == 0) = false) (c : Int) (hc : rcmpV a b = c) (hsa : a.s.size ≤ maxLen) (hsb : b.s.size ≤ maxLen) :
    Calls Try.prog 42 #[.int .i64 12, .agg #[.int .i64 a.k, .int .i64 a.n, .string a.s], .agg #[.int .i64 b.k, .int .i64 b.n, .string b.s]] w fun e w' => e = .returned (partO (some (tru (decide (0 < c))))) ∧ Below w.heap.size w w' := by
  unfold partO
  simp only
  have HC := Lib.hid hc
  clear hc
  go_enter Try.func42, Try.ntmps42
  go_wp2_with fail
  obtain ⟨W, hW_, hbW, BA, BB, BR⟩ : ∃ W_, W_ = (((w.alloc (.cells #[.int .i64 a.k, .int .i64 a.n, .string a.s] 30)).alloc (.cells #[.int .i64 b.k, .int .i64 b.n, .string b.s] 30)).alloc (.cells #[.int .i64 0, .int .i64 0, .string ⟨#[]⟩] 30)) ∧ Below w.heap.size w W_ ∧ Blk W_ (w.heap.size) 30 #[.int .i64 a.k, .int .i64 a.n, .string a.s] ∧ Blk W_ (w.heap.size + 1) 30 #[.int .i64 b.k, .int .i64 b.n, .string b.s] ∧ Blk W_ (w.heap.size + 1 + 1) 30 #[.int .i64 0, .int .i64 0, .string ⟨#[]⟩] :=
    ⟨_, rfl, ((((Below.refl _ _).alloc (Nat.le_refl _) _).alloc (by simp; try omega) _).alloc (by simp; try omega) _), (((blk_new_at w (w.heap.size) _ _ (by simp)).alloc _).alloc _), ((blk_new_at (w.alloc (.cells #[.int .i64 a.k, .int .i64 a.n, .string a.s] 30)) (w.heap.size + 1) _ _ (by simp)).alloc _), (blk_new_at ((w.alloc (.cells #[.int .i64 a.k, .int .i64 a.n, .string a.s] 30)).alloc (.cells #[.int .i64 b.k, .int .i64 b.n, .string b.s] 30)) (w.heap.size + 1 + 1) _ _ (by simp))⟩
  rw [← hW_]
  clear hW_
  refine (rtwo_ 12 true _ (by decide)).mono ?_
  rintro e w0 ⟨rfl, rfl⟩
  have qBA := BA.three (Below.refl _ _)
  have qBB := BB.three (Below.refl _ _)
  have qBR := BR.three (Below.refl _ _)
  have fR := BR.free3
  go_wp2_with fail
  clear qBA qBB qBR fR
  refine (rcmpp a b c HC.out _ hsa hsb).mono ?_
  rintro e w2 ⟨rfl, hb2⟩
  have BA := BA.ext hb2
  have BB := BB.ext hb2
  have BR := BR.ext hb2
  have qBA := BA.three (Below.refl _ _)
  have qBB := BB.three (Below.refl _ _)
  have qBR := BR.three (Below.refl _ _)
  have fR := BR.free3
  go_wp2_with fail
  clear qBA qBB qBR fR
  refine (rtruth_ (decide (0 < c)) _).mono ?_
  rintro e w3 ⟨rfl, hb3⟩
  have BA := BA.ext hb3
  have BB := BB.ext hb3
  have BR := BR.ext hb3
  have qBA := BA.three (Below.refl _ _)
  have qBB := BB.three (Below.refl _ _)
  have qBR := BR.three (Below.refl _ _)
  have fR := BR.free3
  go_wp2
  clear qBA qBB qBR fR
  obtain ⟨wE, hwE, BE, hbE, _, _⟩ := BR.set3 (.int .i64 (tru (decide (0 < c))).k) (.int .i64 (tru (decide (0 < c))).n) (.string (tru (decide (0 < c))).s)
  rw [← hwE]
  have q_ := BE.three (Below.refl _ _)
  exact bodyPost_ret (v := .tuple #[.agg #[.int .i64 (tru (decide (0 < c))).k, .int .i64 (tru (decide (0 < c))).n, .string (tru (decide (0 < c))).s], .int .i64 0]) (by simp [results, Try.results42, go_sem, q_]) rfl ⟨rfl, Below.trans (bch0 (bch0 hbW hb2) hb3) (hbE _ (by omega))⟩
set_option maxRecDepth 1000000 in
set_option maxHeartbeats 4000000 in
theorem rpart13 (a b : V) (w : World) (h : (a.k == 0) = false) (h2 : (b.k == 0) = false) (c : Int) (hc : rcmpV a b = c) (hsa : a.s.size ≤ maxLen) (hsb : b.s.size ≤ maxLen) :
    Calls Try.prog 42 #[.int .i64 13, .agg #[.int .i64 a.k, .int .i64 a.n, .string a.s], .agg #[.int .i64 b.k, .int .i64 b.n, .string b.s]] w fun e w' => e = .returned (partO (some (tru (decide (0 ≤ c))))) ∧ Below w.heap.size w w' := by
  unfold partO
  simp only
  have HC := Lib.hid hc
  clear hc
  go_enter Try.func42, Try.ntmps42
  go_wp2_with fail
  obtain ⟨W, hW_, hbW, BA, BB, BR⟩ : ∃ W_, W_ = (((w.alloc (.cells #[.int .i64 a.k, .int .i64 a.n, .string a.s] 30)).alloc (.cells #[.int .i64 b.k, .int .i64 b.n, .string b.s] 30)).alloc (.cells #[.int .i64 0, .int .i64 0, .string ⟨#[]⟩] 30)) ∧ Below w.heap.size w W_ ∧ Blk W_ (w.heap.size) 30 #[.int .i64 a.k, .int .i64 a.n, .string a.s] ∧ Blk W_ (w.heap.size + 1) 30 #[.int .i64 b.k, .int .i64 b.n, .string b.s] ∧ Blk W_ (w.heap.size + 1 + 1) 30 #[.int .i64 0, .int .i64 0, .string ⟨#[]⟩] :=
    ⟨_, rfl, ((((Below.refl _ _).alloc (Nat.le_refl _) _).alloc (by simp; try omega) _).alloc (by simp; try omega) _), (((blk_new_at w (w.heap.size) _ _ (by simp)).alloc _).alloc _), ((blk_new_at (w.alloc (.cells #[.int .i64 a.k, .int .i64 a.n, .string a.s] 30)) (w.heap.size + 1) _ _ (by simp)).alloc _), (blk_new_at ((w.alloc (.cells #[.int .i64 a.k, .int .i64 a.n, .string a.s] 30)).alloc (.cells #[.int .i64 b.k, .int .i64 b.n, .string b.s] 30)) (w.heap.size + 1 + 1) _ _ (by simp))⟩
  rw [← hW_]
  clear hW_
  refine (rtwo_ 13 true _ (by decide)).mono ?_
  rintro e w0 ⟨rfl, rfl⟩
  have qBA := BA.three (Below.refl _ _)
  have qBB := BB.three (Below.refl _ _)
  have qBR := BR.three (Below.refl _ _)
  have fR := BR.free3
  go_wp2_with fail
  clear qBA qBB qBR fR
  refine (rcmpp a b c HC.out _ hsa hsb).mono ?_
  rintro e w2 ⟨rfl, hb2⟩
  have BA := BA.ext hb2
  have BB := BB.ext hb2
  have BR := BR.ext hb2
  have qBA := BA.three (Below.refl _ _)
  have qBB := BB.three (Below.refl _ _)
  have qBR := BR.three (Below.refl _ _)
  have fR := BR.free3
  go_wp2_with fail
  clear qBA qBB qBR fR
  refine (rtruth_ (decide (0 ≤ c)) _).mono ?_
  rintro e w3 ⟨rfl, hb3⟩
  have BA := BA.ext hb3
  have BB := BB.ext hb3
  have BR := BR.ext hb3
  have qBA := BA.three (Below.refl _ _)
  have qBB := BB.three (Below.refl _ _)
  have qBR := BR.three (Below.refl _ _)
  have fR := BR.free3
  go_wp2
  clear qBA qBB qBR fR
  obtain ⟨wE, hwE, BE, hbE, _, _⟩ := BR.set3 (.int .i64 (tru (decide (0 ≤ c))).k) (.int .i64 (tru (decide (0 ≤ c))).n) (.string (tru (decide (0 ≤ c))).s)
  rw [← hwE]
  have q_ := BE.three (Below.refl _ _)
  exact bodyPost_ret (v := .tuple #[.agg #[.int .i64 (tru (decide (0 ≤ c))).k, .int .i64 (tru (decide (0 ≤ c))).n, .string (tru (decide (0 ≤ c))).s], .int .i64 0]) (by simp [results, Try.results42, go_sem, q_]) rfl ⟨rfl, Below.trans (bch0 (bch0 hbW hb2) hb3) (hbE _ (by omega))⟩
theorem rnumber_ (op a b : Int) (o : Option V) (w : World) (hop : op = 14 ∨ op = 15 ∨ op = 16) (ha : ok64 a) (hb : ok64 b) (ho : numO op a b = o) :
    Calls Try.prog 56 #[.int .i64 op, .int .i64 a, .int .i64 b] w fun e w' => e = .returned (partO o) ∧ Below w.heap.size w w' := by
  rcases hop with rfl | rfl | rfl
  · exact rnum14 a b o w ha hb ho
  · exact rnum15 a b o w ha hb ho
  · exact rnum16 a b o w ha hb ho
set_option maxRecDepth 1000000 in
set_option maxHeartbeats 4000000 in
theorem rpart_k (op : Int) (a b : V) (v : V) (w : World) (h : (a.k == 0) = false) (h2 : (b.k == 0) = false) (hop : op = 14 ∨ op = 15 ∨ op = 16) (hsa : a.s.size ≤ maxLen) (hsb : b.s.size ≤ maxLen) (g3 : (op == 3) = false) (g4 : (op == 4) = false) (g5 : (op == 5) = false) (g6 : (op == 6) = false) (g7 : (op == 7) = false) (g8 : (op == 8) = false) (g9 : (op == 9) = false) (g10 : (op == 10) = false) (g11 : (op == 11) = false) (g12 : (op == 12) = false) (g13 : (op == 13) = false) (oa : ok64 a.n) (ob : ok64 b.n) (ho : numO op a.n b.n = (some v)) :
    Calls Try.prog 42 #[.int .i64 op, .agg #[.int .i64 a.k, .int .i64 a.n, .string a.s], .agg #[.int .i64 b.k, .int .i64 b.n, .string b.s]] w fun e w' => e = .returned (partO (some v)) ∧ Below w.heap.size w w' := by
  unfold partO
  simp only
  have HO := Lib.hid hop
  have HT := Lib.hid (show decide (6 ≤ op ∧ op ≤ 16) = true by simp; omega)
  have HN := Lib.hid ho
  clear hop ho
  go_enter Try.func42, Try.ntmps42
  go_wp2_with fail
  obtain ⟨W, hW_, hbW, BA, BB, BR⟩ : ∃ W_, W_ = (((w.alloc (.cells #[.int .i64 a.k, .int .i64 a.n, .string a.s] 30)).alloc (.cells #[.int .i64 b.k, .int .i64 b.n, .string b.s] 30)).alloc (.cells #[.int .i64 0, .int .i64 0, .string ⟨#[]⟩] 30)) ∧ Below w.heap.size w W_ ∧ Blk W_ (w.heap.size) 30 #[.int .i64 a.k, .int .i64 a.n, .string a.s] ∧ Blk W_ (w.heap.size + 1) 30 #[.int .i64 b.k, .int .i64 b.n, .string b.s] ∧ Blk W_ (w.heap.size + 1 + 1) 30 #[.int .i64 0, .int .i64 0, .string ⟨#[]⟩] :=
    ⟨_, rfl, ((((Below.refl _ _).alloc (Nat.le_refl _) _).alloc (by simp; try omega) _).alloc (by simp; try omega) _), (((blk_new_at w (w.heap.size) _ _ (by simp)).alloc _).alloc _), ((blk_new_at (w.alloc (.cells #[.int .i64 a.k, .int .i64 a.n, .string a.s] 30)) (w.heap.size + 1) _ _ (by simp)).alloc _), (blk_new_at ((w.alloc (.cells #[.int .i64 a.k, .int .i64 a.n, .string a.s] 30)).alloc (.cells #[.int .i64 b.k, .int .i64 b.n, .string b.s] 30)) (w.heap.size + 1 + 1) _ _ (by simp))⟩
  rw [← hW_]
  clear hW_
  refine (rtwo_ op true _ HT.out).mono ?_
  rintro e w0 ⟨rfl, rfl⟩
  have qBA := BA.three (Below.refl _ _)
  have qBB := BB.three (Below.refl _ _)
  have qBR := BR.three (Below.refl _ _)
  have fR := BR.free3
  go_wp2_with fail
  clear qBA qBB qBR fR
  refine (rcmpp a b _ rfl _ hsa hsb).mono ?_
  rintro e w2 ⟨rfl, hb2⟩
  have BA := BA.ext hb2
  have BB := BB.ext hb2
  have BR := BR.ext hb2
  have qBA := BA.three (Below.refl _ _)
  have qBB := BB.three (Below.refl _ _)
  have qBR := BR.three (Below.refl _ _)
  have fR := BR.free3
  go_wp2_with fail
  clear qBA qBB qBR fR
  refine ((fun W => rnumber_ op a.n b.n (some v) W HO.out oa ob HN.out) _).mono ?_
  rintro e w3 ⟨rfl, hb3⟩
  unfold partO
  simp only
  have BA := BA.ext hb3
  have BB := BB.ext hb3
  have BR := BR.ext hb3
  have qBA := BA.three (Below.refl _ _)
  have qBB := BB.three (Below.refl _ _)
  have qBR := BR.three (Below.refl _ _)
  have fR := BR.free3
  go_wp2
  clear qBA qBB qBR fR
  obtain ⟨wE, hwE, BE, hbE, _, _⟩ := BR.set3 (.int .i64 v.k) (.int .i64 v.n) (.string v.s)
  rw [← hwE]
  have q_ := BE.three (Below.refl _ _)
  exact bodyPost_ret (v := .tuple #[.agg #[.int .i64 v.k, .int .i64 v.n, .string v.s], .int .i64 0]) (by simp [results, Try.results42, go_sem, q_]) rfl ⟨rfl, Below.trans (bch0 (bch0 hbW hb2) hb3) (hbE _ (by omega))⟩
set_option maxRecDepth 1000000 in
set_option maxHeartbeats 4000000 in
theorem rpart_o (op : Int) (a b : V) (w : World) (h : (a.k == 0) = false) (h2 : (b.k == 0) = false) (hop : op = 14 ∨ op = 15 ∨ op = 16) (hsa : a.s.size ≤ maxLen) (hsb : b.s.size ≤ maxLen) (g3 : (op == 3) = false) (g4 : (op == 4) = false) (g5 : (op == 5) = false) (g6 : (op == 6) = false) (g7 : (op == 7) = false) (g8 : (op == 8) = false) (g9 : (op == 9) = false) (g10 : (op == 10) = false) (g11 : (op == 11) = false) (g12 : (op == 12) = false) (g13 : (op == 13) = false) (oa : ok64 a.n) (ob : ok64 b.n) (ho : numO op a.n b.n = none) :
    Calls Try.prog 42 #[.int .i64 op, .agg #[.int .i64 a.k, .int .i64 a.n, .string a.s], .agg #[.int .i64 b.k, .int .i64 b.n, .string b.s]] w fun e w' => e = .returned (partO none) ∧ Below w.heap.size w w' := by
  unfold partO
  simp only
  have HO := Lib.hid hop
  have HT := Lib.hid (show decide (6 ≤ op ∧ op ≤ 16) = true by simp; omega)
  have HN := Lib.hid ho
  clear hop ho
  go_enter Try.func42, Try.ntmps42
  go_wp2_with fail
  obtain ⟨W, hW_, hbW, BA, BB, BR⟩ : ∃ W_, W_ = (((w.alloc (.cells #[.int .i64 a.k, .int .i64 a.n, .string a.s] 30)).alloc (.cells #[.int .i64 b.k, .int .i64 b.n, .string b.s] 30)).alloc (.cells #[.int .i64 0, .int .i64 0, .string ⟨#[]⟩] 30)) ∧ Below w.heap.size w W_ ∧ Blk W_ (w.heap.size) 30 #[.int .i64 a.k, .int .i64 a.n, .string a.s] ∧ Blk W_ (w.heap.size + 1) 30 #[.int .i64 b.k, .int .i64 b.n, .string b.s] ∧ Blk W_ (w.heap.size + 1 + 1) 30 #[.int .i64 0, .int .i64 0, .string ⟨#[]⟩] :=
    ⟨_, rfl, ((((Below.refl _ _).alloc (Nat.le_refl _) _).alloc (by simp; try omega) _).alloc (by simp; try omega) _), (((blk_new_at w (w.heap.size) _ _ (by simp)).alloc _).alloc _), ((blk_new_at (w.alloc (.cells #[.int .i64 a.k, .int .i64 a.n, .string a.s] 30)) (w.heap.size + 1) _ _ (by simp)).alloc _), (blk_new_at ((w.alloc (.cells #[.int .i64 a.k, .int .i64 a.n, .string a.s] 30)).alloc (.cells #[.int .i64 b.k, .int .i64 b.n, .string b.s] 30)) (w.heap.size + 1 + 1) _ _ (by simp))⟩
  rw [← hW_]
  clear hW_
  refine (rtwo_ op true _ HT.out).mono ?_
  rintro e w0 ⟨rfl, rfl⟩
  have qBA := BA.three (Below.refl _ _)
  have qBB := BB.three (Below.refl _ _)
  have qBR := BR.three (Below.refl _ _)
  have fR := BR.free3
  go_wp2_with fail
  clear qBA qBB qBR fR
  refine (rcmpp a b _ rfl _ hsa hsb).mono ?_
  rintro e w2 ⟨rfl, hb2⟩
  have BA := BA.ext hb2
  have BB := BB.ext hb2
  have BR := BR.ext hb2
  have qBA := BA.three (Below.refl _ _)
  have qBB := BB.three (Below.refl _ _)
  have qBR := BR.three (Below.refl _ _)
  have fR := BR.free3
  go_wp2_with fail
  clear qBA qBB qBR fR
  refine ((fun W => rnumber_ op a.n b.n none W HO.out oa ob HN.out) _).mono ?_
  rintro e w3 ⟨rfl, hb3⟩
  unfold partO
  simp only
  have BA := BA.ext hb3
  have BB := BB.ext hb3
  have BR := BR.ext hb3
  have qBA := BA.three (Below.refl _ _)
  have qBB := BB.three (Below.refl _ _)
  have qBR := BR.three (Below.refl _ _)
  have fR := BR.free3
  go_wp2
  clear qBA qBB qBR fR
  obtain ⟨wE, hwE, BE, hbE, _, _⟩ := BR.set3 (.int .i64 0) (.int .i64 0) (.string ⟨#[]⟩)
  rw [← hwE]
  have q_ := BE.three (Below.refl _ _)
  exact bodyPost_ret (v := .tuple #[.agg #[.int .i64 0, .int .i64 0, .string ⟨#[]⟩], .int .i64 11]) (by simp [results, Try.results42, go_sem, q_]) rfl ⟨rfl, Below.trans (bch0 (bch0 hbW hb2) hb3) (hbE _ (by omega))⟩
theorem rpart_ (op : Int) (a b : V) (o : Option V) (w : World) (hop : 3 ≤ op ∧ op ≤ 16) (ha : GoodV a) (hb : GoodV b) (hk : 8 ≤ op ∧ op ≤ 13 → a.k = 0 ∨ b.k = 0 ∨ a.k = b.k) (ho : pairV op a (if 6 ≤ op then b else a) = o) :
    Calls Try.prog 42 #[.int .i64 op, .agg #[.int .i64 a.k, .int .i64 a.n, .string a.s], .agg #[.int .i64 b.k, .int .i64 b.n, .string b.s]] w fun e w' => e = .returned (partO o) ∧ Below w.heap.size w w' := by
  subst ho
  have sa := good_s ha
  have sb := good_s hb
  by_cases h5 : op = 5
  · subst h5
    have e : pairV 5 a (if (6 : Int) ≤ 5 then b else a) = some (tru (a.k == 0)) := by unfold pairV; rw [if_pos rfl]
    rw [e]
    exact rpart5 a b w
  by_cases h67 : op = 6 ∨ op = 7
  · have hn0 : ∀ v : V, (v.k == 0) = true → v.k = 0 := fun v h => by simpa using h
    have hn1 : ∀ v : V, (v.k == 0) = false → v.k ≠ 0 := fun v h => by simpa using h
    rcases h67 with rfl | rfl
    · have e : pairV 6 a (if (6 : Int) ≤ 6 then b else a) = some (logicV true a b) := by unfold pairV; rw [if_neg (by decide), if_pos rfl, if_pos (by decide)]
      rw [e]
      unfold logicV
      have ea := eq_tru ha true
      have eb := eq_tru hb true
      simp only [if_true] at ea eb
      cases hia : (a.k == 1 && a.n == 1) with
      | true =>
        rw [hia] at ea
        rw [if_pos ea]
        have : a = tru true := tru_of ha rfl hia
        rw [this]
        rw [this] at hia
        exact rpart6a _ b w hia
      | false =>
        rw [hia] at ea
        rw [if_neg (by rw [ea]; decide)]
        cases hib : (b.k == 1 && b.n == 1) with
        | true =>
          rw [hib] at eb
          rw [if_pos eb]
          have : b = tru true := tru_of hb rfl hib
          rw [this]
          rw [this] at hib
          exact rpart6b a _ w hia hib
        | false =>
          rw [hib] at eb
          rw [if_neg (by rw [eb]; decide)]
          cases h0 : a.k == 0 with
          | true => rw [if_pos (.inl (hn0 a h0))]; exact rpart6c a b w hia hib h0
          | false =>
            cases h1 : b.k == 0 with
            | true => rw [if_pos (.inr (hn0 b h1))]; exact rpart6d a b w hia hib h0 h1
            | false => rw [if_neg (by rintro (h | h); exact hn1 a h0 h; exact hn1 b h1 h)]; exact rpart6e a b w hia hib h0 h1 sa sb
    · have e : pairV 7 a (if (6 : Int) ≤ 7 then b else a) = some (logicV false a b) := by unfold pairV; rw [if_neg (by decide), if_neg (by decide), if_pos rfl, if_pos (by decide)]
      rw [e]
      unfold logicV
      have ea := eq_tru ha false
      have eb := eq_tru hb false
      simp only [if_false, Bool.false_eq_true] at ea eb
      cases hia : (a.k == 1 && a.n == 0) with
      | true =>
        rw [hia] at ea
        rw [if_pos ea]
        have : a = tru false := tru_of ha rfl hia
        rw [this]
        rw [this] at hia
        exact rpart7a _ b w hia
      | false =>
        rw [hia] at ea
        rw [if_neg (by rw [ea]; decide)]
        cases hib : (b.k == 1 && b.n == 0) with
        | true =>
          rw [hib] at eb
          rw [if_pos eb]
          have : b = tru false := tru_of hb rfl hib
          rw [this]
          rw [this] at hib
          exact rpart7b a _ w hia hib
        | false =>
          rw [hib] at eb
          rw [if_neg (by rw [eb]; decide)]
          cases h0 : a.k == 0 with
          | true => rw [if_pos (.inl (hn0 a h0))]; exact rpart7c a b w hia hib h0
          | false =>
            cases h1 : b.k == 0 with
            | true => rw [if_pos (.inr (hn0 b h1))]; exact rpart7d a b w hia hib h0 h1
            | false => rw [if_neg (by rintro (h | h); exact hn1 a h0 h; exact hn1 b h1 h)]; exact rpart7e a b w hia hib h0 h1 sa sb
  have g5 : (op == 5) = false := by simpa using h5
  have g6 : (op == 6) = false := by simp; omega
  have g7 : (op == 7) = false := by simp; omega
  cases h0 : a.k == 0 with
  | true =>
    have h0' : a.k = 0 := by simpa using h0
    have e : pairV op a (if 6 ≤ op then b else a) = some nul := by
      unfold pairV
      rw [if_neg h5, if_neg (by omega), if_neg (by omega), if_pos (.inl h0')]
    rw [e]
    exact rpart_n op a b w h0 g5 g6 g7
  | false =>
    have h0' : a.k ≠ 0 := by simpa using h0
    by_cases h3 : op = 3
    · subst h3
      have e : pairV 3 a (if (6 : Int) ≤ 3 then b else a) = some (tru (a.n == 0)) := by
        unfold pairV
        rw [if_neg (by decide), if_neg (by decide), if_neg (by decide), if_neg (by rw [if_neg (by decide)]; omega), if_pos (.inl rfl)]
        rfl
      rw [e]
      exact rpart3 a b w h0 sa sb
    by_cases h4 : op = 4
    · subst h4
      have e : pairV 4 a (if (6 : Int) ≤ 4 then b else a) = if ok64 (-a.n) then some ⟨2, -a.n, ByteArray.empty⟩ else none := by
        unfold pairV
        rw [if_neg (by decide), if_neg (by decide), if_neg (by decide), if_neg (by rw [if_neg (by decide)]; omega), if_neg (by decide)]
        rfl
      rw [e]
      have h64 := ha.n64
      by_cases hl : a.n = -9223372036854775808
      · rw [if_neg (by unfold ok64; omega)]
        exact rpart4o a b w h0 (by simpa using hl) sa sb
      · have hx : ok64 (-a.n) := by unfold ok64 at *; omega
        rw [if_pos hx]
        exact rpart4k a b w h0 (by simpa using hl) hx sa sb
    rw [if_pos (show 6 ≤ op by omega)]
    have ht : decide (6 ≤ op ∧ op ≤ 16) = true := by simp; omega
    cases h1 : b.k == 0 with
    | true =>
      have h1' : b.k = 0 := by simpa using h1
      have e : pairV op a b = some nul := by
        unfold pairV
        rw [if_neg h5, if_neg (by omega), if_neg (by omega), if_pos (.inr h1')]
      rw [e]
      exact rpart_m op a b w h0 h1 ht g5 g6 g7
    | false =>
      have h1' : b.k ≠ 0 := by simpa using h1
      by_cases h8 : 8 ≤ op ∧ op ≤ 13
      · have hc := cmp_good ha hb (by have := hk h8; omega)
        have e : pairV op a b = some (tru (opcode op (rcmpV a b) a.n)) := by
          unfold pairV
          rw [if_neg h5, if_neg (by omega), if_neg (by omega), if_neg (by omega), if_pos (.inr h8), hc]
        rw [e]
        have : op = 8 ∨ op = 9 ∨ op = 10 ∨ op = 11 ∨ op = 12 ∨ op = 13 := by omega
        rcases this with rfl | rfl | rfl | rfl | rfl | rfl
        · exact rpart8 a b w h0 h1 _ rfl sa sb
        · exact rpart9 a b w h0 h1 _ rfl sa sb
        · exact rpart10 a b w h0 h1 _ rfl sa sb
        · exact rpart11 a b w h0 h1 _ rfl sa sb
        · exact rpart12 a b w h0 h1 _ rfl sa sb
        · exact rpart13 a b w h0 h1 _ rfl sa sb
      · have hop2 : op = 14 ∨ op = 15 ∨ op = 16 := by omega
        have e : pairV op a b = numO op a.n b.n := by
          unfold pairV numO
          rw [if_neg h5, if_neg (by omega), if_neg (by omega), if_neg (by omega), if_neg (by omega)]
        rw [e]
        cases hn : numO op a.n b.n with
        | some v => exact rpart_k op a b v w h0 h1 hop2 sa sb (by simpa using h3) (by simpa using h4) g5 g6 g7 (by simp; omega) (by simp; omega) (by simp; omega) (by simp; omega) (by simp; omega) (by simp; omega) ha.n64 hb.n64 hn
        | none => exact rpart_o op a b w h0 h1 hop2 sa sb (by simpa using h3) (by simpa using h4) g5 g6 g7 (by simp; omega) (by simp; omega) (by simp; omega) (by simp; omega) (by simp; omega) (by simp; omega) ha.n64 hb.n64 hn
end Go.Proofs.Ytfgmlgflfagdjaa.ev

/- Contract: the document's Value. Printed by genw5.py. -/
namespace Go.Proofs.Ytfgmlgflfagdjaa.ev
open Go.ChangeShapes Go.WideShapes Go.ChangeAt Go.RowKit Go.Proofs.Ytfgmlgflfagdjaa.lib Go.Proofs.Ytfgmlgflfagdjaa.val
set_option linter.unusedVariables false

theorem rKindw (es : List Nd) (p : Int × Int) (A : Option Addr) (N c B : Nat) (C : Value) (F : ByteArray → Int × Int) (G : ByteArray → Int) (w0 w : World) (hp : KindV F G es = p) (hN : es.length = N) (hN2 : N ≤ 1000) (hB : B ≤ w0.heap.size) (hw : Below B w0 w) (hr : Nds w0 B A es)
    (hc : ∀ n ∈ es, RColOK w0 B C F G n) (hs : ∀ n ∈ es, n.v.s.size ≤ maxLen) :
    Calls Try.prog 22 #[.slice A N c, C] w fun e w' => e = .returned (two p) ∧ Below w.heap.size w w' :=
  rKind_ es p A N c B C F G w hp hN hN2 (Nat.le_trans hB hw.size) (hr.below hw) (fun n hn => (hc n hn).below hw) hs
theorem rpart_n1 (op : Int) (a b : V) (o : Option V) (ks : List Int) (ka kb k : Int) (w : World) (hop : 3 ≤ op ∧ op ≤ 16) (hm : madeV op ka kb = (k, 0)) (ha : Of ka a) (hb : GoodV b) (hb2 : 6 ≤ op → Of kb b) (ho : pairV op a (if 6 ≤ op then b else a) = o) :
    Calls Try.prog 42 #[.int .i64 op, .agg #[.int .i64 a.k, .int .i64 a.n, .string a.s], .agg #[.int .i64 b.k, .int .i64 b.n, .string b.s]] w fun e w' => e = .returned (partO o) ∧ Below w.heap.size w w' := by
  refine rpart_ op a b o w hop ha.1 hb (fun h8 => ?_) ho
  have hkb := (hb2 (by omega)).2
  have hka := ha.2
  rw [made_0 op ka kb h8] at hm
  by_cases h : ka = 0 ∨ kb = 0 ∨ ka = kb
  · omega
  · rw [if_neg h] at hm
    injection hm with _ hm
    exact absurd hm (by decide)
theorem of_node2 {F : ByteArray → Int × Int} {G : ByteArray → Int} {Rv : ByteArray → V} {ks : List Int} {vs : List V} {n : Nd} {k : Int} {v : V} (h : OfAll ks vs) (hk : kindN F G ks n = (k, 0)) (hv : nodeR Rv vs n = some v)
    (hr : (F n.s).2 = 0 → Of (G n.s) (Rv n.s)) (hn : ok64 n.v.n) (hs : n.op = 1 → n.v.s.size ≤ 60) : Of k v := by
  by_cases h1 : n.op = 1
  · exact of_node h hk hv hr hn (hs h1)
  · refine of_node (n := ⟨n.op, n.a, n.b, nul, n.s⟩) h ?_ ?_ hr (show ok64 0 by unfold ok64; omega) (show ByteArray.empty.size ≤ 60 by decide)
    · rw [← hk]
      unfold kindN
      simp only
      rw [if_neg h1, if_neg h1]
    · rw [← hv]
      unfold nodeR nodeV
      simp only
      rw [if_neg h1, if_neg h1]
/-- one node's parts, where its kind is known -/
theorem node_parts {F : ByteArray → Int × Int} {G : ByteArray → Int} {ks : List Int} {n : Nd} {k : Int} (h : kindN F G ks n = (k, 0)) (h1 : n.op ≠ 1) (h2 : n.op ≠ 2) :
    (3 ≤ n.op ∧ n.op ≤ 16) ∧ (0 ≤ n.a ∧ n.a < ks.length) ∧ (6 ≤ n.op → 0 ≤ n.b ∧ n.b < ks.length) ∧ madeV n.op (ks.getD n.a.toNat 0) (if 6 ≤ n.op then ks.getD n.b.toNat 0 else ks.getD n.a.toNat 0) = (k, 0) := by
  unfold kindN at h
  by_cases c1 : partsV n.op = -1
  · rw [if_pos c1] at h; cases h
  rw [if_neg c1, if_neg h1, if_neg h2] at h
  have hop : 3 ≤ n.op ∧ n.op ≤ 16 := by
    unfold partsV at c1
    rw [if_neg (by omega)] at c1
    by_cases h5 : n.op = 3 ∨ n.op = 4 ∨ n.op = 5
    · omega
    · rw [if_neg h5] at c1
      by_cases h6 : 6 ≤ n.op ∧ n.op ≤ 16
      · omega
      · rw [if_neg h6] at c1; exact absurd rfl c1
  by_cases c3 : n.a < 0 ∨ (ks.length : Int) ≤ n.a
  · rw [if_pos c3] at h; cases h
  rw [if_neg c3] at h
  by_cases c4 : n.op ≤ 5
  · rw [if_pos c4] at h
    exact ⟨hop, by omega, fun h6 => by omega, by rw [if_neg (by omega)]; exact h⟩
  rw [if_neg c4] at h
  by_cases c5 : n.b < 0 ∨ (ks.length : Int) ≤ n.b
  · rw [if_pos c5] at h; cases h
  rw [if_neg c5] at h
  exact ⟨hop, by omega, fun _ => by omega, by rw [if_pos (by omega)]; exact h⟩
set_option maxRecDepth 1000000 in
set_option maxHeartbeats 8000000 in
theorem rValue_bad (es : List Nd) (A : Option Addr) (N c B : Nat) (C R : Value) (F : ByteArray → Int × Int) (G : ByteArray → Int) (w : World) (k er : Int) (hk : KindV F G es = (k, er)) (her : er ≠ 0) (hN : es.length = N) (hN2 : N ≤ 1000) (hB : B ≤ w.heap.size) (hr : Nds w B A es)
    (hc : ∀ n ∈ es, RColOK w B C F G n) (hs : ∀ n ∈ es, n.v.s.size ≤ maxLen) :
    Calls Try.prog 24 #[.slice A N c, C, R] w fun e w' => e = .returned (.tuple #[.agg #[.int .i64 0, .int .i64 0, .string ⟨#[]⟩], .int .i64 er]) ∧ Below w.heap.size w w' := by
  have he : (er != 0) = true := by simpa using her
  have HK := Lib.hid hk
  have HN := Lib.hid hN
  clear hk hN her
  go_enter Try.func24, Try.ntmps24
  go_wp2_with fail
  obtain ⟨W, hW_, hbW, B6⟩ : ∃ W_, W_ = (w.alloc (.cells #[.int .i64 0, .int .i64 0, .string ⟨#[]⟩] 30)) ∧ Below w.heap.size w W_ ∧ Blk W_ (w.heap.size) 30 #[.int .i64 0, .int .i64 0, .string ⟨#[]⟩] :=
    ⟨_, rfl, ((Below.refl _ _).alloc (Nat.le_refl _) _), (blk_new_at w (w.heap.size) _ _ (by simp))⟩
  rw [← hW_]
  clear hW_
  refine (rKindw es _ A N c B C F G w W HK.out HN.out hN2 hB (Below.mono hbW hB) hr hc hs).mono ?_
  rintro e w3 ⟨rfl, hb3⟩
  unfold two
  have B7 := B6.ext hb3
  have q_ := B7.three (Below.refl _ _)
  have f_ := B7.free3
  go_wp2
  clear q_ f_
  obtain ⟨wE, hwE, BE, hbE, _, _⟩ := B7.set3 (.int .i64 0) (.int .i64 0) (.string ⟨#[]⟩)
  rw [← hwE]
  have q_ := BE.three (Below.refl _ _)
  exact bodyPost_ret (v := .tuple #[.agg #[.int .i64 0, .int .i64 0, .string ⟨#[]⟩], .int .i64 er]) (by simp [results, Try.results24, go_sem, q_]) rfl ⟨rfl, Below.trans (bch0 hbW hb3) (hbE _ (Nat.le_refl _))⟩
set_option maxRecDepth 1000000 in
set_option maxHeartbeats 16000000 in
theorem rValue_ok (es : List Nd) (A : Option Addr) (N c B : Nat) (C R : Value) (F : ByteArray → Int × Int) (G : ByteArray → Int) (Rv : ByteArray → V) (w : World) (k0 : Int) (hk : KindV F G es = (k0, 0)) (hN : es.length = N) (hN2 : N ≤ 1000) (hB : B ≤ w.heap.size) (hr : Nds w B A es)
    (hc : ∀ n ∈ es, RColOK w B C F G n) (hrow : ∀ n ∈ es, RowOK w B R F Rv n) (hs : ∀ n ∈ es, n.v.s.size ≤ maxLen) (hv : ∀ n ∈ es, ok64 n.v.n) (hof : ∀ n ∈ es, (F n.s).2 = 0 → Of (G n.s) (Rv n.s)) :
    Calls Try.prog 24 #[.slice A N c, C, R] w fun e w' => e = .returned (ValueV (valsR Rv es [])) ∧ Below w.heap.size w w' := by
  obtain ⟨⟨hn1, hn60⟩, _⟩ := Kind_fineR hk hv
  rw [hN] at hn1 hn60
  obtain ⟨i0, hi, hz0, hz1, hz2⟩ := info_parts (P := Try.prog) (e := 30) (z := .agg #[.int .i64 0, .int .i64 0, .string ⟨#[]⟩]) (size := 3) (bytes := 32) (by kernel_rfl)
  have hu : Try.prog.underlying 25 = some (.slice 30) := by kernel_rfl
  have HKV := Lib.hid (show kindsV F G es [] = (k0, 0) by
    unfold KindV at hk
    split at hk
    · cases hk
    · exact hk)
  have HK := Lib.hid hk
  have HN := Lib.hid hN
  obtain ⟨ov, hov⟩ : ∃ ov, valsR Rv es [] = ov := ⟨_, rfl⟩
  rw [hov]
  obtain ⟨r, hrr⟩ : ∃ r, ValueV ov = r := ⟨_, rfl⟩
  rw [hrr]
  have HRR := Lib.hid hrr
  have HOV := Lib.hid hov
  clear hk hN hov hrr
  go_enter Try.func24, Try.ntmps24
  go_wp2_with fail
  obtain ⟨W, hW_, hbW, B6⟩ : ∃ W_, W_ = (w.alloc (.cells #[.int .i64 0, .int .i64 0, .string ⟨#[]⟩] 30)) ∧ Below w.heap.size w W_ ∧ Blk W_ (w.heap.size) 30 #[.int .i64 0, .int .i64 0, .string ⟨#[]⟩] :=
    ⟨_, rfl, ((Below.refl _ _).alloc (Nat.le_refl _) _), (blk_new_at w (w.heap.size) _ _ (by simp))⟩
  rw [← hW_]
  clear hW_
  have hWs : w.heap.size + 1 ≤ W.heap.size := B6.lt
  refine (rKindw es _ A N c B C F G w W HK.out HN.out hN2 hB (Below.mono hbW hB) hr hc hs).mono ?_
  rintro e w3 ⟨rfl, hb3⟩
  unfold two
  go_wp2_with fail
  go_loopw [10, 11] (fun l i wr => ∃ (k : Nat) (ks : List Int) (vs : List V), k ≤ N ∧ i = .int .i64 k ∧ vs.length = k ∧ wr.ownsRow (w.heap.size + 1) 30 3 l k (cellsV vs) ∧ Below w.heap.size w wr ∧ Blk wr w.heap.size 30 #[.int .i64 0, .int .i64 0, .string ⟨#[]⟩] ∧ w.heap.size + 1 ≤ wr.heap.size ∧
      Hid (OfAll ks vs ∧ kindsV F G (es.drop k) ks = (k0, 0) ∧ valsR Rv (es.drop k) vs = ov)) (fun _ i _ => N - (intOf i).toNat)
  case atStart => exact ⟨0, [], [], Nat.zero_le _, rfl, rfl, World.ownsRow_nil _ _ _ _, bch0 hbW hb3, B6.ext hb3, Nat.le_trans hWs hb3.size, Lib.hid ⟨⟨rfl, fun i h => absurd h (by simp)⟩, HKV.out, HOV.out⟩⟩
  case round =>
    obtain ⟨k, ks, vs, hkn, rfl, hkl, hown, hb, E6, hsz, HH⟩ := hrel
    have HKL := Lib.hid hkl
    clear hkl
    obtain ⟨Al, cl, rfl, hvals, hAl⟩ := own_vals hown HKL.out
    rcases Nat.lt_or_ge k N with hlt | hge
    · have hd : decide ((k : Int) < (N : Int)) = true := by simp; omega
      have hd5 : decide (k < N) = true := by simp; omega
      have hkN : (k : Int) < (N : Int) := by omega
      obtain ⟨b, off, rfl, hlb, hcl⟩ := hr (by rw [HN.out]; omega)
      obtain ⟨nd, hnd⟩ : ∃ nd, es[k]? = some nd := ⟨_, List.getElem?_eq_getElem (by rw [HN.out]; exact hlt)⟩
      have HND := Lib.hid hnd
      clear hnd hcl
      have hmem : nd ∈ es := List.mem_of_getElem? HND.out
      have HCN := Lib.hid (hc nd hmem)
      have HRN := Lib.hid (hrow nd hmem)
      have HON := Lib.hid (hof nd hmem)
      have hvn := hv nd hmem
      have HSN := Lib.hid (hs nd hmem)
      clear hmem
      have qc := (Nds.below hr (Below.mono hb hB)).cells HND.out
      obtain ⟨k1, hk1⟩ : ∃ k1, kindN F G ks nd = (k1, 0) := by
        have h := HH.out.2.1
        rw [drop_at es k nd HND.out, kindsV] at h
        by_cases c : (kindN F G ks nd).2 = 0
        · exact ⟨_, Prod.ext rfl c⟩
        · rw [if_neg c] at h
          exact absurd (congrArg Prod.snd h) c
      have HK1 := Lib.hid hk1
      have HKS2 := Lib.hid (show kindsV F G (es.drop (k + 1)) (ks ++ [k1]) = (k0, 0) by rw [← kinds_step HND.out hk1]; exact HH.out.2.1)
      clear hk1
      have HS60 := Lib.hid (show nd.op = 1 → nd.v.s.size ≤ 60 by
        intro h
        have h1 := HK1.out
        unfold kindN at h1
        rw [if_neg (by rw [h]; decide), if_pos h] at h1
        have h2 : chk nd.v.k nd.v.n nd.v.s = 0 := congrArg Prod.snd h1
        unfold chk at h2
        split at h2
        · cases h2
        split at h2
        · cases h2
        split at h2
        · cases h2
        · omega)
      obtain ⟨op, na, nb, ⟨vk, vn, vt⟩, ns⟩ := nd
      simp only at qc hvn HON
      by_cases hop1 : op = 1
      · subst hop1
        have hofv : Of k1 ⟨vk, vn, vt⟩ := by
          refine of_node (Rv := Rv) HH.out.1 HK1.out (by unfold nodeR; rw [if_neg (show ¬ (1 : Int) = 2 by decide)]; rfl) (fun h => HON.out h) hvn (HS60.out rfl)
        have HNX := Lib.hid (show valsR Rv (es.drop (k + 1)) (vs ++ [⟨vk, vn, vt⟩]) = ov by
          rw [← valsR_step (v := ⟨vk, vn, vt⟩) HND.out (by unfold nodeR; rw [if_neg (show ¬ (1 : Int) = 2 by decide)]; rfl)]; exact HH.out.2.2)
        have HOF := Lib.hid hofv
        clear hofv
        go_upto_region 21 with fail
        clear qc
        obtain ⟨W8, hW_, hbW8, BN, BV⟩ : ∃ W_, W_ = ((wr.alloc (.cells #[.int .i64 1, .int .i64 na, .int .i64 nb, .int .i64 vk, .int .i64 vn, .string vt, .string ns] 36)).alloc (.cells #[.int .i64 vk, .int .i64 vn, .string vt] 30)) ∧ Below wr.heap.size wr W_ ∧ Blk W_ (wr.heap.size) 36 #[.int .i64 1, .int .i64 na, .int .i64 nb, .int .i64 vk, .int .i64 vn, .string vt, .string ns] ∧ Blk W_ (wr.heap.size + 1) 30 #[.int .i64 vk, .int .i64 vn, .string vt] :=
          ⟨_, rfl, (((Below.refl _ _).alloc (Nat.le_refl _) _).alloc (by simp; try omega) _), ((blk_new_at wr (wr.heap.size) _ _ (by simp)).alloc _), (blk_new_at (wr.alloc (.cells #[.int .i64 1, .int .i64 na, .int .i64 nb, .int .i64 vk, .int .i64 vn, .string vt, .string ns] 36)) (wr.heap.size + 1) _ _ (by simp))⟩
        rw [← hW_]
        clear hW_
        have q8 := BV.three (Below.refl _ _)
        have hownE := own_ext hown hbW8
        have E6E := E6.ext hbW8
        have hsE := hbW8.size
        have hsr := hb.size
        have hb9 : Below w.heap.size w W8 := Below.trans hb (Below.mono hbW8 hb.size)
        go_wp2_with (at_builtin; refine wpList_append_own _ rfl _ _ 25 rfl (w.heap.size + 1) 30 i0 (.agg #[.int .i64 0, .int .i64 0, .string ⟨#[]⟩]) 3 32 hu hi hz0 hz1 hz2 rfl (by decide) _ _ _ rfl (hownE.alloc _) ⟨W8.heap.size, 0, none⟩ 1 1 [.int .i64 vk, .int .i64 vn, .string vt] rfl rfl ?b1 ?b2 ?b3 ?b4 ?b5 ?_)
        case b2 => first | (intro u hu; simp at hu; rcases hu with rfl | rfl | rfl <;> rfl) | exact ⟨rfl, rfl, rfl⟩
        case b3 => unfold maxLen; omega
        case b4 => omega
        case b5 => first | omega | (simp; omega)
        intro v' w9 hown9 hgrow9 _
        clear q8
        have hrw : ∀ g, (Value.slice Al k cl).ownBlock = some g → w.heap.size + 1 ≤ g := fun g hg => (hownE.lt g hg).1
        have E69 : Blk w9 w.heap.size 30 #[.int .i64 0, .int .i64 0, .string ⟨#[]⟩] := (E6E.alloc _).grown hgrow9 (fun h => by have := hrw _ h.symm; omega)
        have hb10 : Below w.heap.size w w9 := (hb9.alloc (by omega) _).grown hgrow9 (by simp; omega) (fun g hg => by have := hrw g hg; omega)
        have hs9 : w.heap.size + 1 ≤ w9.heap.size := by have := hgrow9.size; simp at this; omega
        go_wp2
        go_roundw
        case rel => exact ⟨k + 1, ks ++ [k1], vs ++ [⟨vk, vn, vt⟩], by omega, by go_num, by simp [HKL.out], by rw [append_cells]; exact hown9, hb10, E69, hs9, Lib.hid ⟨ofall_snoc HH.out.1 HOF.out, HKS2.out, HNX.out⟩⟩
        case measure => simp [intOf]; omega
      by_cases hop2 : op = 2
      · subst hop2
        have hF0 : (F ns).2 = 0 := by
          have h := HK1.out
          unfold kindN at h
          rw [if_neg (show ¬ partsV 2 = -1 by decide), if_neg (show ¬ (2 : Int) = 1 by decide), if_pos (show (2 : Int) = 2 from rfl)] at h
          split at h
          · assumption
          · exact congrArg Prod.snd h
        obtain ⟨x, hx⟩ : ∃ x, Rv ns = x := ⟨_, rfl⟩
        have hofv : Of k1 x := by
          refine of_node2 (Rv := Rv) HH.out.1 HK1.out (by unfold nodeR; rw [if_pos (show (2 : Int) = 2 from rfl), hx]) (fun h => HON.out h) hvn (fun h => absurd (show (2 : Int) = 1 from h) (by decide))
        have HNX := Lib.hid (show valsR Rv (es.drop (k + 1)) (vs ++ [x]) = ov by
          rw [← valsR_step (v := x) HND.out (by unfold nodeR; rw [if_pos (show (2 : Int) = 2 from rfl), hx])]; exact HH.out.2.2)
        have HOF := Lib.hid hofv
        obtain ⟨j, bk, offr, len, cap, e1, rfl, e3, e4, e5, _, e6⟩ := HRN.out rfl hF0
        simp only [hx] at e1 e6
        obtain ⟨hfc, _⟩ := HCN.out rfl
        simp only at hfc
        rw [show F ns = ((j : Int), 0) from Prod.ext e1 hF0] at hfc
        have HFC := Lib.hid hfc
        have hjl : (j : Int) < (len : Int) := by omega
        have E6C := Lib.hid e6
        clear hofv hx hfc e6 hF0 e1
        go_wp2_with fail
        clear qc
        obtain ⟨W8, hW_, hbW8, BN, BV⟩ : ∃ W_, W_ = ((wr.alloc (.cells #[.int .i64 2, .int .i64 na, .int .i64 nb, .int .i64 vk, .int .i64 vn, .string vt, .string ns] 36)).alloc (.cells #[.int .i64 vk, .int .i64 vn, .string vt] 30)) ∧ Below wr.heap.size wr W_ ∧ Blk W_ (wr.heap.size) 36 #[.int .i64 2, .int .i64 na, .int .i64 nb, .int .i64 vk, .int .i64 vn, .string vt, .string ns] ∧ Blk W_ (wr.heap.size + 1) 30 #[.int .i64 vk, .int .i64 vn, .string vt] :=
          ⟨_, rfl, (((Below.refl _ _).alloc (Nat.le_refl _) _).alloc (by simp; try omega) _), ((blk_new_at wr (wr.heap.size) _ _ (by simp)).alloc _), (blk_new_at (wr.alloc (.cells #[.int .i64 2, .int .i64 na, .int .i64 nb, .int .i64 vk, .int .i64 vn, .string vt, .string ns] 36)) (wr.heap.size + 1) _ _ (by simp))⟩
        rw [← hW_]
        clear hW_
        have hbB : Below B w W8 := Below.trans (Below.mono hb hB) (Below.mono hbW8 (Nat.le_trans hB hb.size))
        refine (HFC.out _ hbB).mono ?_
        rintro e w5 ⟨rfl, rfl⟩
        unfold two
        have q0 := (hbB.cell (p := ⟨bk, offr + j * 3, none⟩) (by exact e5)).trans E6C.out.1
        have q1 := (hbB.cell (p := ⟨bk, offr + j * 3 + 1, none⟩) (by exact e5)).trans E6C.out.2.1
        have q2 := (hbB.cell (p := ⟨bk, offr + j * 3 + 2, none⟩) (by exact e5)).trans E6C.out.2.2
        have q_ := BV.three (Below.refl _ _)
        have f_ := BV.free3
        go_upto_region 21 with fail
        clear q0 q1 q2 q_ f_
        obtain ⟨wV, hwV, BV, hbV, hfarV, _⟩ := BV.set3 (.int .i64 x.k) (.int .i64 x.n) (.string x.s)
        rw [← hwV]
        clear hwV
        have hbW8 : Below wr.heap.size wr wV := Below.trans hbW8 (hbV _ (by omega))
        clear hbV hfarV hbB BN
        have q8 := BV.three (Below.refl _ _)
        have hownE := own_ext hown hbW8
        have E6E := E6.ext hbW8
        have hsE := hbW8.size
        have hsr := hb.size
        have hb9 : Below w.heap.size w wV := Below.trans hb (Below.mono hbW8 hb.size)
        go_wp2_with (at_builtin; refine wpList_append_own _ rfl _ _ 25 rfl (w.heap.size + 1) 30 i0 (.agg #[.int .i64 0, .int .i64 0, .string ⟨#[]⟩]) 3 32 hu hi hz0 hz1 hz2 rfl (by decide) _ _ _ rfl (hownE.alloc _) ⟨wV.heap.size, 0, none⟩ 1 1 [.int .i64 x.k, .int .i64 x.n, .string x.s] rfl rfl ?c1 ?c2 ?c3 ?c4 ?c5 ?_)
        case c1 =>
          intro j u hj
          match j, hj with
          | 0, hj => simp at hj; subst hj; simp [Addr.add]
          | 1, hj => simp at hj; subst hj; simp [Addr.add]
          | 2, hj => simp at hj; subst hj; simp [Addr.add]
        case c2 => first | (intro u hu; simp at hu; rcases hu with rfl | rfl | rfl <;> rfl) | exact ⟨rfl, rfl, rfl⟩
        case c3 => unfold maxLen; omega
        case c4 => omega
        case c5 => first | omega | (simp; omega)
        intro v' w9 hown9 hgrow9 _
        clear q8
        have hrw : ∀ g, (Value.slice Al k cl).ownBlock = some g → w.heap.size + 1 ≤ g := fun g hg => (hownE.lt g hg).1
        have E69 : Blk w9 w.heap.size 30 #[.int .i64 0, .int .i64 0, .string ⟨#[]⟩] := (E6E.alloc _).grown hgrow9 (fun h => by have := hrw _ h.symm; omega)
        have hb10 : Below w.heap.size w w9 := (hb9.alloc (by omega) _).grown hgrow9 (by simp; omega) (fun g hg => by have := hrw g hg; omega)
        have hs9 : w.heap.size + 1 ≤ w9.heap.size := by have := hgrow9.size; simp at this; omega
        go_wp2
        go_roundw
        case rel => exact ⟨k + 1, ks ++ [k1], vs ++ [x], by omega, by go_num, by simp [HKL.out], by rw [append_cells]; exact hown9, hb10, E69, hs9, Lib.hid ⟨ofall_snoc HH.out.1 HOF.out, HKS2.out, HNX.out⟩⟩
        case measure => simp [intOf]; omega
      obtain ⟨⟨ho3, ho16⟩, ⟨ha0, ham⟩, hbb, hmade⟩ := node_parts HK1.out hop1 hop2
      simp only at ho3 ho16 ha0 ham hbb hmade
      obtain ⟨ia, rfl⟩ : ∃ ia : Nat, na = ia := ⟨na.toNat, by omega⟩
      have hlen : ks.length = k := by rw [← HH.out.1.1]; exact HKL.out
      rw [Int.toNat_natCast] at hmade
      rw [hlen] at ham hbb
      have hia : ia < k := by omega
      obtain ⟨x, hx⟩ : ∃ x, vs.getD ia nul = x := ⟨_, rfl⟩
      have hofx : Of (ks.getD ia 0) x := by rw [← hx]; exact HH.out.1.2 ia (by rw [hlen]; exact hia)
      have hxi : vs[ia]? = some x := by rw [← hx]; exact getV vs ia (by rw [HKL.out]; exact hia)
      have h1 : (op == 1) = false := by simpa using hop1
      have h2 : (op == 2) = false := by simpa using hop2
      have h3 : decide (2 < op) = true := by simp; omega
      have hia2 : (ia : Int) < (k : Int) := by omega
      obtain ⟨bl, rfl, hbl⟩ := hAl (by omega)
      by_cases h6 : 6 ≤ op
      case pos =>
        obtain ⟨hb0, hbm⟩ := hbb h6
        obtain ⟨ib, rfl⟩ : ∃ ib : Nat, nb = ib := ⟨nb.toNat, by omega⟩
        rw [if_pos h6, Int.toNat_natCast] at hmade
        have hib : ib < k := by omega
        have hib2 : (ib : Int) < (k : Int) := by omega
        obtain ⟨y, hy⟩ : ∃ y, vs.getD ib nul = y := ⟨_, rfl⟩
        have hofy : Of (ks.getD ib 0) y := by rw [← hy]; exact HH.out.1.2 ib (by rw [hlen]; exact hib)
        have hyi : vs[ib]? = some y := by rw [← hy]; exact getV vs ib (by rw [HKL.out]; exact hib)
        have HT := Lib.hid (show decide (6 ≤ op ∧ op ≤ 16) = true by simp; omega)
        obtain ⟨o, ho⟩ : ∃ o, pairV op x y = o := ⟨_, rfl⟩
        have HNR := Lib.hid (show nodeR Rv vs ⟨op, (ia : Int), (ib : Int), ⟨vk, vn, vt⟩, ns⟩ = o by
          unfold nodeR nodeV
          simp only [Int.toNat_natCast]
          rw [if_neg hop2, if_neg hop1, if_neg (by omega), hx, hy, ho])
        have HPT := Lib.hid (fun W => rpart_n1 op x y o ks _ _ k1 W ⟨ho3, ho16⟩ hmade hofx hofy.1 (fun _ => hofy) (by rw [if_pos h6]; exact ho))
        have qx := fun w' (h : Below wr.heap.size wr w') => (hvals.below h).at_ hxi
        have qy := fun w' (h : Below wr.heap.size wr w') => (hvals.below h).at_ hyi
        simp only [Nat.zero_add] at qx qy
        clear hx hy ho hofx hofy hxi hyi hmade hop1 hop2 h6 ho3 ho16 hbb ha0 hb0 ham hbm
        go_wp2_with fail
        clear qc
        obtain ⟨W8, hW_, hbW8, BN, BV, BB⟩ : ∃ W_, W_ = (((wr.alloc (.cells #[.int .i64 op, .int .i64 ia, .int .i64 ib, .int .i64 vk, .int .i64 vn, .string vt, .string ns] 36)).alloc (.cells #[.int .i64 vk, .int .i64 vn, .string vt] 30)).alloc (.cells #[.int .i64 0, .int .i64 0, .string ⟨#[]⟩] 30)) ∧ Below wr.heap.size wr W_ ∧ Blk W_ (wr.heap.size) 36 #[.int .i64 op, .int .i64 ia, .int .i64 ib, .int .i64 vk, .int .i64 vn, .string vt, .string ns] ∧ Blk W_ (wr.heap.size + 1) 30 #[.int .i64 vk, .int .i64 vn, .string vt] ∧ Blk W_ (wr.heap.size + 1 + 1) 30 #[.int .i64 0, .int .i64 0, .string ⟨#[]⟩] :=
          ⟨_, rfl, ((((Below.refl _ _).alloc (Nat.le_refl _) _).alloc (by simp; try omega) _).alloc (by simp; try omega) _), (((blk_new_at wr (wr.heap.size) _ _ (by simp)).alloc _).alloc _), ((blk_new_at (wr.alloc (.cells #[.int .i64 op, .int .i64 ia, .int .i64 ib, .int .i64 vk, .int .i64 vn, .string vt, .string ns] 36)) (wr.heap.size + 1) _ _ (by simp)).alloc _), (blk_new_at ((wr.alloc (.cells #[.int .i64 op, .int .i64 ia, .int .i64 ib, .int .i64 vk, .int .i64 vn, .string vt, .string ns] 36)).alloc (.cells #[.int .i64 vk, .int .i64 vn, .string vt] 30)) (wr.heap.size + 1 + 1) _ _ (by simp))⟩
        rw [← hW_]
        clear hW_
        refine (rtwo_ op true _ HT.out).mono ?_
        rintro e w5 ⟨rfl, rfl⟩
        have q1 := seven BN (Below.refl _ _)
        have q2 := qy _ hbW8
        have q_ := BB.three (Below.refl _ _)
        have f_ := BB.free3
        go_upto_region 17 with fail
        clear q1 q2 q_ f_
        obtain ⟨wB, hwB, BB, hbB, hfarB, hgB⟩ := BB.set3 (.int .i64 y.k) (.int .i64 y.n) (.string y.s)
        rw [← hwB]
        clear hwB
        have BN := hfarB _ _ _ (by omega) BN
        have BV := hfarB _ _ _ (by omega) BV
        have hbW8 : Below wr.heap.size wr wB := Below.trans hbW8 (hbB _ (by omega))
        clear hbB hfarB qy
        have D1 := fun w' (h : Below wB.heap.size wB.drew w') => seven BN (Below.trans (Below.refl _ _).drew h)
        have D2 := fun w' (h : Below wB.heap.size wB.drew w') => qx w' (bch0 hbW8 (Below.trans (Below.refl _ _).drew h))
        have D3 := fun w' (h : Below wB.heap.size wB.drew w') => BB.three (Below.trans (Below.refl _ _).drew h)
        refine wp_region_mix1 ⟨12, 17, fun g => .pointer (some ⟨g, 0, none⟩), .cells #[.int .i64 0, .int .i64 0, .string ⟨#[]⟩] 30⟩
          [(0, true), (1, true), (2, true), (3, true), (4, true), (5, true), (6, true), (7, true)] [(8, false), (9, true), (10, true), (11, true)] [(13, false), (14, true)] (by kernel_rfl) (by kernel_rfl) ?_
        repeat ((with_reducible show wpI _ _ _ _ _ ((_, true) :: _) _ _); (first | (refine wpI_on (v := ?_) rfl rfl (wanted_free rfl) (fun w' hS => ?_) ?_; rotate_left; (focus (go_simp; (try with_reducible rfl); done)); try simp only [List.setIfInBounds_toArray, List.set_cons_zero, List.set_cons_succ]) | (refine wpI_on (v := ?_) rfl rfl (wanted_yes rfl rfl rfl) (fun w' hS => ?_) ?_; rotate_left; (focus (go_simp; (try with_reducible rfl); done)); try simp only [List.setIfInBounds_toArray, List.set_cons_zero, List.set_cons_succ]) | (refine wpI_off rfl rfl (wanted_no rfl rfl rfl) ?_; try simp only [List.setIfInBounds_toArray, List.set_cons_zero, List.set_cons_succ]) | (refine wpI_off rfl rfl (wanted_undef rfl rfl rfl) ?_; try simp only [List.setIfInBounds_toArray, List.set_cons_zero, List.set_cons_succ])))
        refine wpI_done ⟨?_, ?_⟩
        · intro t ht
          simp only [List.mem_cons, List.not_mem_nil, or_false] at ht
          subst ht
          exact ⟨_, rfl, rfl, wanted_free rfl, fun w => by go_simp⟩
        clear D1 D2 D3 qx
        refine wpI_do rfl (wanted_free rfl) (fun wI hI hSI K hK => ?_); go_simp
        refine (HPT.out _).mono ?_
        rintro e w6 ⟨rfl, hb6⟩
        refine hK.out _ _ hb6 ?_
        clear hK K
        cases o with
        | none =>
          unfold partO
          simp only
          repeat ((with_reducible show wpI _ _ _ _ _ ((_, true) :: _) _ _); (first | (refine wpI_on (v := ?_) rfl rfl (wanted_free rfl) (fun w' hS => ?_) ?_; rotate_left; (focus (go_simp; (try with_reducible rfl); done)); try simp only [List.setIfInBounds_toArray, List.set_cons_zero, List.set_cons_succ]) | (refine wpI_on (v := ?_) rfl rfl (wanted_yes rfl rfl rfl) (fun w' hS => ?_) ?_; rotate_left; (focus (go_simp; (try with_reducible rfl); done)); try simp only [List.setIfInBounds_toArray, List.set_cons_zero, List.set_cons_succ]) | (refine wpI_off rfl rfl (wanted_no rfl rfl rfl) ?_; try simp only [List.setIfInBounds_toArray, List.set_cons_zero, List.set_cons_succ]) | (refine wpI_off rfl rfl (wanted_undef rfl rfl rfl) ?_; try simp only [List.setIfInBounds_toArray, List.set_cons_zero, List.set_cons_succ])))
          refine wpI_done ?_
          intro g1 wf he hbf hlo1 hhi1 hat1
          have B1 : Blk wf g1 30 #[.int .i64 0, .int .i64 0, .string ⟨#[]⟩] := hat1
          clear hat1
          have q := B1.three (Below.refl _ _)
          have f := B1.free3
          refine wpPerm_do rfl (wanted_free rfl) (fun K hK => ?_); go_simp
          clear q f
          obtain ⟨wA, hw, B1, hbw, hfar, hgw⟩ := B1.set3 (.int .i64 0) (.int .i64 0) (.string ⟨#[]⟩)
          rw [← hw]
          clear hw
          have hbf := Below.trans hbf (hbw _ hlo1)
          refine hK.out _ _ hbf ?_
          clear hK K
          repeat ((with_reducible show wpPerm _ _ _ _ ((_, true) :: _) _ _); (first | (refine wpPerm_on (v := ?_) rfl rfl (wanted_free rfl) (fun w' hS => ?_) ?_; rotate_left; (focus (go_simp; (try with_reducible rfl); done)); try simp only [List.setIfInBounds_toArray, List.set_cons_zero, List.set_cons_succ]) | (refine wpPerm_on (v := ?_) rfl rfl (wanted_yes rfl rfl rfl) (fun w' hS => ?_) ?_; rotate_left; (focus (go_simp; (try with_reducible rfl); done)); try simp only [List.setIfInBounds_toArray, List.set_cons_zero, List.set_cons_succ]) | (refine wpPerm_off rfl rfl (wanted_no rfl rfl rfl) ?_; try simp only [List.setIfInBounds_toArray, List.set_cons_zero, List.set_cons_succ]) | (refine wpPerm_off rfl rfl (wanted_undef rfl rfl rfl) ?_; try simp only [List.setIfInBounds_toArray, List.set_cons_zero, List.set_cons_succ])))
          refine wpPerm_done ?_
          have hbr : Below wr.heap.size wr wA := bch0 hbW8 (Below.trans (Below.refl _ _).drew hbf)
          have E6E := E6.ext hbr
          have hb9 : Below w.heap.size w wA := Below.trans hb (Below.mono hbr hb.size)
          obtain rfl : ov = none := by rw [← HH.out.2.2]; exact valsR_stop HND.out HNR.out
          obtain rfl : r = .tuple #[.agg #[.int .i64 0, .int .i64 0, .string ⟨#[]⟩], .int .i64 11] := by rw [← HRR.out]; rfl
          have q_ := E6E.three (Below.refl _ _)
          have f_ := E6E.free3
          go_wp2
          clear q_ f_
          obtain ⟨wE, hwE, BE, hbE, _, _⟩ := E6E.set3 (.int .i64 0) (.int .i64 0) (.string ⟨#[]⟩)
          rw [← hwE]
          have q_ := BE.three (Below.refl _ _)
          exact bodyPost_ret (v := .tuple #[.agg #[.int .i64 0, .int .i64 0, .string ⟨#[]⟩], .int .i64 11]) (by simp [results, Try.results24, go_sem, q_]) rfl ⟨rfl, Below.trans hb9 (hbE _ (Nat.le_refl _))⟩
        | some v =>
          unfold partO
          simp only
          repeat ((with_reducible show wpI _ _ _ _ _ ((_, true) :: _) _ _); (first | (refine wpI_on (v := ?_) rfl rfl (wanted_free rfl) (fun w' hS => ?_) ?_; rotate_left; (focus (go_simp; (try with_reducible rfl); done)); try simp only [List.setIfInBounds_toArray, List.set_cons_zero, List.set_cons_succ]) | (refine wpI_on (v := ?_) rfl rfl (wanted_yes rfl rfl rfl) (fun w' hS => ?_) ?_; rotate_left; (focus (go_simp; (try with_reducible rfl); done)); try simp only [List.setIfInBounds_toArray, List.set_cons_zero, List.set_cons_succ]) | (refine wpI_off rfl rfl (wanted_no rfl rfl rfl) ?_; try simp only [List.setIfInBounds_toArray, List.set_cons_zero, List.set_cons_succ]) | (refine wpI_off rfl rfl (wanted_undef rfl rfl rfl) ?_; try simp only [List.setIfInBounds_toArray, List.set_cons_zero, List.set_cons_succ])))
          refine wpI_done ?_
          intro g1 wf he hbf hlo1 hhi1 hat1
          have B1 : Blk wf g1 30 #[.int .i64 0, .int .i64 0, .string ⟨#[]⟩] := hat1
          clear hat1
          have q := B1.three (Below.refl _ _)
          have f := B1.free3
          refine wpPerm_do rfl (wanted_free rfl) (fun K hK => ?_); go_simp
          clear q f
          obtain ⟨wA, hw, B1, hbw, hfar, hgw⟩ := B1.set3 (.int .i64 v.k) (.int .i64 v.n) (.string v.s)
          rw [← hw]
          clear hw
          have hbf := Below.trans hbf (hbw _ hlo1)
          refine hK.out _ _ hbf ?_
          clear hK K
          repeat ((with_reducible show wpPerm _ _ _ _ ((_, true) :: _) _ _); (first | (refine wpPerm_on (v := ?_) rfl rfl (wanted_free rfl) (fun w' hS => ?_) ?_; rotate_left; (focus (go_simp; (try with_reducible rfl); done)); try simp only [List.setIfInBounds_toArray, List.set_cons_zero, List.set_cons_succ]) | (refine wpPerm_on (v := ?_) rfl rfl (wanted_yes rfl rfl rfl) (fun w' hS => ?_) ?_; rotate_left; (focus (go_simp; (try with_reducible rfl); done)); try simp only [List.setIfInBounds_toArray, List.set_cons_zero, List.set_cons_succ]) | (refine wpPerm_off rfl rfl (wanted_no rfl rfl rfl) ?_; try simp only [List.setIfInBounds_toArray, List.set_cons_zero, List.set_cons_succ]) | (refine wpPerm_off rfl rfl (wanted_undef rfl rfl rfl) ?_; try simp only [List.setIfInBounds_toArray, List.set_cons_zero, List.set_cons_succ])))
          refine wpPerm_done ?_
          have hbd : Below wB.heap.size wB wA := Below.trans (Below.refl _ _).drew hbf
          have hbW8 : Below wr.heap.size wr wA := bch0 hbW8 hbd
          have BV := BV.ext hbd
          have HNX := Lib.hid (show valsR Rv (es.drop (k + 1)) (vs ++ [v]) = ov by rw [← valsR_step HND.out HNR.out]; exact HH.out.2.2)
          have HOF := Lib.hid (of_node2 (Rv := Rv) HH.out.1 HK1.out HNR.out (fun h => HON.out h) hvn HS60.out)
          have q0 := B1.three (Below.refl _ _)
          have q_ := BV.three (Below.refl _ _)
          have f_ := BV.free3
          go_upto_region 21 with fail
          clear q0 q_ f_
          obtain ⟨wV, hwV, BV, hbV, hfarV, _⟩ := BV.set3 (.int .i64 v.k) (.int .i64 v.n) (.string v.s)
          rw [← hwV]
          clear hwV
          have hbW8 : Below wr.heap.size wr wV := Below.trans hbW8 (hbV _ (by omega))
          clear hbV hfarV
          have q8 := BV.three (Below.refl _ _)
          have hownE := own_ext hown hbW8
          have E6E := E6.ext hbW8
          have hsE := hbW8.size
          have hsr := hb.size
          have hb9 : Below w.heap.size w wV := Below.trans hb (Below.mono hbW8 hb.size)
          go_wp2_with (at_builtin; refine wpList_append_own _ rfl _ _ 25 rfl (w.heap.size + 1) 30 i0 (.agg #[.int .i64 0, .int .i64 0, .string ⟨#[]⟩]) 3 32 hu hi hz0 hz1 hz2 rfl (by decide) _ _ _ rfl (hownE.alloc _) ⟨wV.heap.size, 0, none⟩ 1 1 [.int .i64 v.k, .int .i64 v.n, .string v.s] rfl rfl ?d1 ?d2 ?d3 ?d4 ?d5 ?_)
          case d1 =>
            intro j u hj
            match j, hj with
            | 0, hj => simp at hj; subst hj; simp [Addr.add]
            | 1, hj => simp at hj; subst hj; simp [Addr.add]
            | 2, hj => simp at hj; subst hj; simp [Addr.add]
          case d2 => first | (intro u hu; simp at hu; rcases hu with rfl | rfl | rfl <;> rfl) | exact ⟨rfl, rfl, rfl⟩
          case d3 => unfold maxLen; omega
          case d4 => omega
          case d5 => first | omega | (simp; omega)
          intro v' w9 hown9 hgrow9 _
          clear q8
          have hrw : ∀ g, (Value.slice (some ⟨bl, 0, none⟩) k cl).ownBlock = some g → w.heap.size + 1 ≤ g := fun g hg => (hownE.lt g hg).1
          have E69 : Blk w9 w.heap.size 30 #[.int .i64 0, .int .i64 0, .string ⟨#[]⟩] := (E6E.alloc _).grown hgrow9 (fun h => by have := hrw _ h.symm; omega)
          have hb10 : Below w.heap.size w w9 := (hb9.alloc (by omega) _).grown hgrow9 (by simp; omega) (fun g hg => by have := hrw g hg; omega)
          have hs9 : w.heap.size + 1 ≤ w9.heap.size := by have := hgrow9.size; simp at this; omega
          go_wp2
          go_roundw
          case rel => exact ⟨k + 1, ks ++ [k1], vs ++ [v], by omega, by go_num, by simp [HKL.out], by rw [append_cells]; exact hown9, hb10, E69, hs9, Lib.hid ⟨ofall_snoc HH.out.1 HOF.out, HKS2.out, HNX.out⟩⟩
          case measure => simp [intOf]; omega
      case neg =>
        have HT := Lib.hid (show decide (6 ≤ op ∧ op ≤ 16) = false by simp; omega)
        obtain ⟨o, ho⟩ : ∃ o, pairV op x x = o := ⟨_, rfl⟩
        have HNR := Lib.hid (show nodeR Rv vs ⟨op, (ia : Int), nb, ⟨vk, vn, vt⟩, ns⟩ = o by
          unfold nodeR nodeV
          simp only [Int.toNat_natCast]
          rw [if_neg hop2, if_neg hop1, if_pos (by omega), hx, ho])
        rw [if_neg h6] at hmade
        obtain ⟨y, hy⟩ : ∃ y, y = nul := ⟨_, rfl⟩
        have HPT := Lib.hid (fun W => rpart_n1 op x y o ks _ _ k1 W ⟨ho3, ho16⟩ hmade hofx (by rw [hy]; exact good_nul) (fun h => absurd h h6) (by rw [if_neg h6]; exact ho))
        have qx := fun w' (h : Below wr.heap.size wr w') => (hvals.below h).at_ hxi
        simp only [Nat.zero_add] at qx
        clear hx ho hofx hxi hmade hop1 hop2 h6 ho3 ho16 hbb ha0 ham
        go_wp2_with fail
        clear qc
        obtain ⟨W8, hW_, hbW8, BN, BV, BB⟩ : ∃ W_, W_ = (((wr.alloc (.cells #[.int .i64 op, .int .i64 ia, .int .i64 nb, .int .i64 vk, .int .i64 vn, .string vt, .string ns] 36)).alloc (.cells #[.int .i64 vk, .int .i64 vn, .string vt] 30)).alloc (.cells #[.int .i64 0, .int .i64 0, .string ⟨#[]⟩] 30)) ∧ Below wr.heap.size wr W_ ∧ Blk W_ (wr.heap.size) 36 #[.int .i64 op, .int .i64 ia, .int .i64 nb, .int .i64 vk, .int .i64 vn, .string vt, .string ns] ∧ Blk W_ (wr.heap.size + 1) 30 #[.int .i64 vk, .int .i64 vn, .string vt] ∧ Blk W_ (wr.heap.size + 1 + 1) 30 #[.int .i64 0, .int .i64 0, .string ⟨#[]⟩] :=
          ⟨_, rfl, ((((Below.refl _ _).alloc (Nat.le_refl _) _).alloc (by simp; try omega) _).alloc (by simp; try omega) _), (((blk_new_at wr (wr.heap.size) _ _ (by simp)).alloc _).alloc _), ((blk_new_at (wr.alloc (.cells #[.int .i64 op, .int .i64 ia, .int .i64 nb, .int .i64 vk, .int .i64 vn, .string vt, .string ns] 36)) (wr.heap.size + 1) _ _ (by simp)).alloc _), (blk_new_at ((wr.alloc (.cells #[.int .i64 op, .int .i64 ia, .int .i64 nb, .int .i64 vk, .int .i64 vn, .string vt, .string ns] 36)).alloc (.cells #[.int .i64 vk, .int .i64 vn, .string vt] 30)) (wr.heap.size + 1 + 1) _ _ (by simp))⟩
        rw [← hW_]
        clear hW_
        refine (rtwo_ op false _ HT.out).mono ?_
        rintro e w5 ⟨rfl, rfl⟩
        go_upto_region 17 with fail
        have BB : Blk W8 (wr.heap.size + 2) 30 #[.int .i64 y.k, .int .i64 y.n, .string y.s] := by rw [hy]; exact BB
        clear hy
        obtain ⟨wB, hwB⟩ : ∃ x, x = W8 := ⟨_, rfl⟩
        rw [← hwB] at BB BN BV hbW8 ⊢
        clear hwB
        have D1 := fun w' (h : Below wB.heap.size wB.drew w') => seven BN (Below.trans (Below.refl _ _).drew h)
        have D2 := fun w' (h : Below wB.heap.size wB.drew w') => qx w' (bch0 hbW8 (Below.trans (Below.refl _ _).drew h))
        have D3 := fun w' (h : Below wB.heap.size wB.drew w') => BB.three (Below.trans (Below.refl _ _).drew h)
        refine wp_region_mix1 ⟨12, 17, fun g => .pointer (some ⟨g, 0, none⟩), .cells #[.int .i64 0, .int .i64 0, .string ⟨#[]⟩] 30⟩
          [(0, true), (1, true), (2, true), (3, true), (4, true), (5, true), (6, true), (7, true)] [(8, false), (9, true), (10, true), (11, true)] [(13, false), (14, true)] (by kernel_rfl) (by kernel_rfl) ?_
        repeat ((with_reducible show wpI _ _ _ _ _ ((_, true) :: _) _ _); (first | (refine wpI_on (v := ?_) rfl rfl (wanted_free rfl) (fun w' hS => ?_) ?_; rotate_left; (focus (go_simp; (try with_reducible rfl); done)); try simp only [List.setIfInBounds_toArray, List.set_cons_zero, List.set_cons_succ]) | (refine wpI_on (v := ?_) rfl rfl (wanted_yes rfl rfl rfl) (fun w' hS => ?_) ?_; rotate_left; (focus (go_simp; (try with_reducible rfl); done)); try simp only [List.setIfInBounds_toArray, List.set_cons_zero, List.set_cons_succ]) | (refine wpI_off rfl rfl (wanted_no rfl rfl rfl) ?_; try simp only [List.setIfInBounds_toArray, List.set_cons_zero, List.set_cons_succ]) | (refine wpI_off rfl rfl (wanted_undef rfl rfl rfl) ?_; try simp only [List.setIfInBounds_toArray, List.set_cons_zero, List.set_cons_succ])))
        refine wpI_done ⟨?_, ?_⟩
        · intro t ht
          simp only [List.mem_cons, List.not_mem_nil, or_false] at ht
          subst ht
          exact ⟨_, rfl, rfl, wanted_free rfl, fun w => by go_simp⟩
        clear D1 D2 D3 qx
        refine wpI_do rfl (wanted_free rfl) (fun wI hI hSI K hK => ?_); go_simp
        refine (HPT.out _).mono ?_
        rintro e w6 ⟨rfl, hb6⟩
        refine hK.out _ _ hb6 ?_
        clear hK K
        cases o with
        | none =>
          unfold partO
          simp only
          repeat ((with_reducible show wpI _ _ _ _ _ ((_, true) :: _) _ _); (first | (refine wpI_on (v := ?_) rfl rfl (wanted_free rfl) (fun w' hS => ?_) ?_; rotate_left; (focus (go_simp; (try with_reducible rfl); done)); try simp only [List.setIfInBounds_toArray, List.set_cons_zero, List.set_cons_succ]) | (refine wpI_on (v := ?_) rfl rfl (wanted_yes rfl rfl rfl) (fun w' hS => ?_) ?_; rotate_left; (focus (go_simp; (try with_reducible rfl); done)); try simp only [List.setIfInBounds_toArray, List.set_cons_zero, List.set_cons_succ]) | (refine wpI_off rfl rfl (wanted_no rfl rfl rfl) ?_; try simp only [List.setIfInBounds_toArray, List.set_cons_zero, List.set_cons_succ]) | (refine wpI_off rfl rfl (wanted_undef rfl rfl rfl) ?_; try simp only [List.setIfInBounds_toArray, List.set_cons_zero, List.set_cons_succ])))
          refine wpI_done ?_
          intro g1 wf he hbf hlo1 hhi1 hat1
          have B1 : Blk wf g1 30 #[.int .i64 0, .int .i64 0, .string ⟨#[]⟩] := hat1
          clear hat1
          have q := B1.three (Below.refl _ _)
          have f := B1.free3
          refine wpPerm_do rfl (wanted_free rfl) (fun K hK => ?_); go_simp
          clear q f
          obtain ⟨wA, hw, B1, hbw, hfar, hgw⟩ := B1.set3 (.int .i64 0) (.int .i64 0) (.string ⟨#[]⟩)
          rw [← hw]
          clear hw
          have hbf := Below.trans hbf (hbw _ hlo1)
          refine hK.out _ _ hbf ?_
          clear hK K
          repeat ((with_reducible show wpPerm _ _ _ _ ((_, true) :: _) _ _); (first | (refine wpPerm_on (v := ?_) rfl rfl (wanted_free rfl) (fun w' hS => ?_) ?_; rotate_left; (focus (go_simp; (try with_reducible rfl); done)); try simp only [List.setIfInBounds_toArray, List.set_cons_zero, List.set_cons_succ]) | (refine wpPerm_on (v := ?_) rfl rfl (wanted_yes rfl rfl rfl) (fun w' hS => ?_) ?_; rotate_left; (focus (go_simp; (try with_reducible rfl); done)); try simp only [List.setIfInBounds_toArray, List.set_cons_zero, List.set_cons_succ]) | (refine wpPerm_off rfl rfl (wanted_no rfl rfl rfl) ?_; try simp only [List.setIfInBounds_toArray, List.set_cons_zero, List.set_cons_succ]) | (refine wpPerm_off rfl rfl (wanted_undef rfl rfl rfl) ?_; try simp only [List.setIfInBounds_toArray, List.set_cons_zero, List.set_cons_succ])))
          refine wpPerm_done ?_
          have hbr : Below wr.heap.size wr wA := bch0 hbW8 (Below.trans (Below.refl _ _).drew hbf)
          have E6E := E6.ext hbr
          have hb9 : Below w.heap.size w wA := Below.trans hb (Below.mono hbr hb.size)
          obtain rfl : ov = none := by rw [← HH.out.2.2]; exact valsR_stop HND.out HNR.out
          obtain rfl : r = .tuple #[.agg #[.int .i64 0, .int .i64 0, .string ⟨#[]⟩], .int .i64 11] := by rw [← HRR.out]; rfl
          have q_ := E6E.three (Below.refl _ _)
          have f_ := E6E.free3
          go_wp2
          clear q_ f_
          obtain ⟨wE, hwE, BE, hbE, _, _⟩ := E6E.set3 (.int .i64 0) (.int .i64 0) (.string ⟨#[]⟩)
          rw [← hwE]
          have q_ := BE.three (Below.refl _ _)
          exact bodyPost_ret (v := .tuple #[.agg #[.int .i64 0, .int .i64 0, .string ⟨#[]⟩], .int .i64 11]) (by simp [results, Try.results24, go_sem, q_]) rfl ⟨rfl, Below.trans hb9 (hbE _ (Nat.le_refl _))⟩
        | some v =>
          unfold partO
          simp only
          repeat ((with_reducible show wpI _ _ _ _ _ ((_, true) :: _) _ _); (first | (refine wpI_on (v := ?_) rfl rfl (wanted_free rfl) (fun w' hS => ?_) ?_; rotate_left; (focus (go_simp; (try with_reducible rfl); done)); try simp only [List.setIfInBounds_toArray, List.set_cons_zero, List.set_cons_succ]) | (refine wpI_on (v := ?_) rfl rfl (wanted_yes rfl rfl rfl) (fun w' hS => ?_) ?_; rotate_left; (focus (go_simp; (try with_reducible rfl); done)); try simp only [List.setIfInBounds_toArray, List.set_cons_zero, List.set_cons_succ]) | (refine wpI_off rfl rfl (wanted_no rfl rfl rfl) ?_; try simp only [List.setIfInBounds_toArray, List.set_cons_zero, List.set_cons_succ]) | (refine wpI_off rfl rfl (wanted_undef rfl rfl rfl) ?_; try simp only [List.setIfInBounds_toArray, List.set_cons_zero, List.set_cons_succ])))
          refine wpI_done ?_
          intro g1 wf he hbf hlo1 hhi1 hat1
          have B1 : Blk wf g1 30 #[.int .i64 0, .int .i64 0, .string ⟨#[]⟩] := hat1
          clear hat1
          have q := B1.three (Below.refl _ _)
          have f := B1.free3
          refine wpPerm_do rfl (wanted_free rfl) (fun K hK => ?_); go_simp
          clear q f
          obtain ⟨wA, hw, B1, hbw, hfar, hgw⟩ := B1.set3 (.int .i64 v.k) (.int .i64 v.n) (.string v.s)
          rw [← hw]
          clear hw
          have hbf := Below.trans hbf (hbw _ hlo1)
          refine hK.out _ _ hbf ?_
          clear hK K
          repeat ((with_reducible show wpPerm _ _ _ _ ((_, true) :: _) _ _); (first | (refine wpPerm_on (v := ?_) rfl rfl (wanted_free rfl) (fun w' hS => ?_) ?_; rotate_left; (focus (go_simp; (try with_reducible rfl); done)); try simp only [List.setIfInBounds_toArray, List.set_cons_zero, List.set_cons_succ]) | (refine wpPerm_on (v := ?_) rfl rfl (wanted_yes rfl rfl rfl) (fun w' hS => ?_) ?_; rotate_left; (focus (go_simp; (try with_reducible rfl); done)); try simp only [List.setIfInBounds_toArray, List.set_cons_zero, List.set_cons_succ]) | (refine wpPerm_off rfl rfl (wanted_no rfl rfl rfl) ?_; try simp only [List.setIfInBounds_toArray, List.set_cons_zero, List.set_cons_succ]) | (refine wpPerm_off rfl rfl (wanted_undef rfl rfl rfl) ?_; try simp only [List.setIfInBounds_toArray, List.set_cons_zero, List.set_cons_succ])))
          refine wpPerm_done ?_
          have hbd : Below wB.heap.size wB wA := Below.trans (Below.refl _ _).drew hbf
          have hbW8 : Below wr.heap.size wr wA := bch0 hbW8 hbd
          have BV := BV.ext hbd
          have HNX := Lib.hid (show valsR Rv (es.drop (k + 1)) (vs ++ [v]) = ov by rw [← valsR_step HND.out HNR.out]; exact HH.out.2.2)
          have HOF := Lib.hid (of_node2 (Rv := Rv) HH.out.1 HK1.out HNR.out (fun h => HON.out h) hvn HS60.out)
          have q0 := B1.three (Below.refl _ _)
          have q_ := BV.three (Below.refl _ _)
          have f_ := BV.free3
          go_upto_region 21 with fail
          clear q0 q_ f_
          obtain ⟨wV, hwV, BV, hbV, hfarV, _⟩ := BV.set3 (.int .i64 v.k) (.int .i64 v.n) (.string v.s)
          rw [← hwV]
          clear hwV
          have hbW8 : Below wr.heap.size wr wV := Below.trans hbW8 (hbV _ (by omega))
          clear hbV hfarV
          have q8 := BV.three (Below.refl _ _)
          have hownE := own_ext hown hbW8
          have E6E := E6.ext hbW8
          have hsE := hbW8.size
          have hsr := hb.size
          have hb9 : Below w.heap.size w wV := Below.trans hb (Below.mono hbW8 hb.size)
          go_wp2_with (at_builtin; refine wpList_append_own _ rfl _ _ 25 rfl (w.heap.size + 1) 30 i0 (.agg #[.int .i64 0, .int .i64 0, .string ⟨#[]⟩]) 3 32 hu hi hz0 hz1 hz2 rfl (by decide) _ _ _ rfl (hownE.alloc _) ⟨wV.heap.size, 0, none⟩ 1 1 [.int .i64 v.k, .int .i64 v.n, .string v.s] rfl rfl ?e1 ?e2 ?e3 ?e4 ?e5 ?_)
          case e1 =>
            intro j u hj
            match j, hj with
            | 0, hj => simp at hj; subst hj; simp [Addr.add]
            | 1, hj => simp at hj; subst hj; simp [Addr.add]
            | 2, hj => simp at hj; subst hj; simp [Addr.add]
          case e2 => first | (intro u hu; simp at hu; rcases hu with rfl | rfl | rfl <;> rfl) | exact ⟨rfl, rfl, rfl⟩
          case e3 => unfold maxLen; omega
          case e4 => omega
          case e5 => first | omega | (simp; omega)
          intro v' w9 hown9 hgrow9 _
          clear q8
          have hrw : ∀ g, (Value.slice (some ⟨bl, 0, none⟩) k cl).ownBlock = some g → w.heap.size + 1 ≤ g := fun g hg => (hownE.lt g hg).1
          have E69 : Blk w9 w.heap.size 30 #[.int .i64 0, .int .i64 0, .string ⟨#[]⟩] := (E6E.alloc _).grown hgrow9 (fun h => by have := hrw _ h.symm; omega)
          have hb10 : Below w.heap.size w w9 := (hb9.alloc (by omega) _).grown hgrow9 (by simp; omega) (fun g hg => by have := hrw g hg; omega)
          have hs9 : w.heap.size + 1 ≤ w9.heap.size := by have := hgrow9.size; simp at this; omega
          go_wp2
          go_roundw
          case rel => exact ⟨k + 1, ks ++ [k1], vs ++ [v], by omega, by go_num, by simp [HKL.out], by rw [append_cells]; exact hown9, hb10, E69, hs9, Lib.hid ⟨ofall_snoc HH.out.1 HOF.out, HKS2.out, HNX.out⟩⟩
          case measure => simp [intOf]; omega
    · have hd : decide ((k : Int) < (N : Int)) = false := by simp; omega
      have hd5 : decide (k < N) = false := by simp; omega
      obtain rfl : k = N := by omega
      obtain ⟨g, rfl, hg⟩ := hAl (by omega)
      have qe := hvals.at_ (last_val vs (k - 1) (by rw [HKL.out]; omega))
      simp only [Nat.zero_add] at qe
      obtain rfl : ov = some vs := by
        rw [← HH.out.2.2, List.drop_eq_nil_of_le (by rw [HN.out]; omega)]; rfl
      have q1 := E6.three (Below.refl _ _)
      have f1 := E6.free3
      obtain rfl : r = .tuple #[.agg #[.int .i64 (vs.getLast?.getD nul).k, .int .i64 (vs.getLast?.getD nul).n, .string (vs.getLast?.getD nul).s], .int .i64 0] := by rw [← HRR.out]; rfl
      go_wp2
      clear q1 f1 qe
      obtain ⟨wE, hwE, H1, hbE, _, _⟩ := E6.set3 (.int .i64 (vs.getLast?.getD nul).k) (.int .i64 (vs.getLast?.getD nul).n) (.string (vs.getLast?.getD nul).s)
      rw [← hwE]
      have q_ := H1.three (Below.refl _ _)
      exact bodyPost_ret (v := .tuple #[.agg #[.int .i64 (vs.getLast?.getD nul).k, .int .i64 (vs.getLast?.getD nul).n, .string (vs.getLast?.getD nul).s], .int .i64 0]) (by simp [results, Try.results24, go_sem, q_]) rfl ⟨rfl, Below.trans hb (hbE _ (Nat.le_refl _))⟩
end Go.Proofs.Ytfgmlgflfagdjaa.ev
