/- The walks of EvalOver. (Printed by genover.py.) -/
import Derived.Test.YtfgmlgflfagdjaaO3
namespace Go.Proofs.Ytfgmlgflfagdjaa.ev
open Go.ChangeShapes Go.WideShapes Go.ChangeAt Go.RowKit Go.Proofs.Ytfgmlgflfagdjaa.lib Go.Proofs.Ytfgmlgflfagdjaa.val
set_option linter.unusedVariables false

set_option maxRecDepth 1000000 in
set_option maxHeartbeats 4000000 in
theorem over_0k (op a b : Int) (w : World) (ho : ok64 op) (ha : ok64 a) (hb : ok64 b) (hk : op % 4 = 0) (h : ok64 (a + b)) :
    Calls Try.prog 6 #[.int .i64 op, .int .i64 a, .int .i64 b] w fun e w' => e = .returned (.bool true) ∧ Below w.heap.size w w' := by
  have HK := Lib.hid hk
  have HV := Lib.hid (show EvV [nv ⟨2, a, ByteArray.empty⟩, nv ⟨2, b, ByteArray.empty⟩, nb 14 0 1] = (.tuple #[.agg #[.int .i64 2, .int .i64 (a + b), .string ⟨#[]⟩], .int .i64 0]) by rw [evBin _ _ _ _ _ (by omega), if_pos (by exact h)] <;> rfl)
  have HC := Lib.hid (show ∀ n ∈ [nv ⟨2, a, ByteArray.empty⟩, nv ⟨2, b, ByteArray.empty⟩, nb 14 0 1], n.op ≠ 2 ∧ n.v.s.size ≤ maxLen ∧ ok64 n.v.n by
    intro n hn
    simp at hn
    rcases hn with rfl | rfl | rfl
    · exact ⟨show (1 : Int) ≠ 2 by decide, show ByteArray.empty.size ≤ maxLen by decide, ha⟩
    · exact ⟨show (1 : Int) ≠ 2 by decide, show ByteArray.empty.size ≤ maxLen by decide, hb⟩
    · exact ⟨by decide, by decide, by decide⟩)
  clear hk
  have e0 := fun W => eqlS 2 (a + b) ⟨#[]⟩ 2 (a + b) ⟨#[]⟩ true (by simp [vEq]; rfl) W
  go_enter Try.func6, Try.ntmps6
  go_wp2_with fail
  refine (known _).mono ?_
  rintro e w1 ⟨rfl, hb1⟩
  go_wp2_with fail
  refine (withinr _ _ _ HK.out _ (by decide) (by decide) ho).mono ?_
  rintro e w2 ⟨rfl, rfl⟩
  go_wp2_with fail
  refine (refAdd a b _ ha hb).mono ?_
  rintro e w2 ⟨rfl, rfl⟩
  rw [wrap_in h, decide_eq_true h]
  go_wp2_with fail
  obtain ⟨W, hW_, hbW, BE⟩ : ∃ W_, W_ = (w1.alloc (.cells #[.int .i64 1, .int .i64 0, .int .i64 0, .int .i64 2, .int .i64 a, .string ⟨#[]⟩, .string ⟨#[]⟩, .int .i64 1, .int .i64 0, .int .i64 0, .int .i64 2, .int .i64 b, .string ⟨#[]⟩, .string ⟨#[]⟩, .int .i64 14, .int .i64 0, .int .i64 1, .int .i64 0, .int .i64 0, .string ⟨#[]⟩, .string ⟨#[]⟩] 36)) ∧ Below w1.heap.size w1 W_ ∧ Blk W_ (w1.heap.size) 36 #[.int .i64 1, .int .i64 0, .int .i64 0, .int .i64 2, .int .i64 a, .string ⟨#[]⟩, .string ⟨#[]⟩, .int .i64 1, .int .i64 0, .int .i64 0, .int .i64 2, .int .i64 b, .string ⟨#[]⟩, .string ⟨#[]⟩, .int .i64 14, .int .i64 0, .int .i64 1, .int .i64 0, .int .i64 0, .string ⟨#[]⟩, .string ⟨#[]⟩] :=
    ⟨_, rfl, ((Below.refl _ _).alloc (Nat.le_refl _) _), (blk_new_at w1 (w1.heap.size) _ _ (by simp))⟩
  rw [← hW_]
  clear hW_
  refine (ValueB [nv ⟨2, a, ByteArray.empty⟩, nv ⟨2, b, ByteArray.empty⟩, nb 14 0 1] _ _ 3 3 _ _ W _ HV.out rfl BE rfl HC.out).mono ?_
  rintro e w3 ⟨rfl, hb3⟩
  go_wp2
  go_ret
  exact ⟨rfl, Below.trans hb1 (Below.mono (bch0 hbW (hb3.alloc hb3.size _)) hb1.size)⟩

set_option maxRecDepth 1000000 in
set_option maxHeartbeats 4000000 in
theorem over_0o (op a b : Int) (w : World) (ho : ok64 op) (ha : ok64 a) (hb : ok64 b) (hk : op % 4 = 0) (h : ¬ ok64 (a + b)) :
    Calls Try.prog 6 #[.int .i64 op, .int .i64 a, .int .i64 b] w fun e w' => e = .returned (.bool true) ∧ Below w.heap.size w w' := by
  have HK := Lib.hid hk
  have HV := Lib.hid (show EvV [nv ⟨2, a, ByteArray.empty⟩, nv ⟨2, b, ByteArray.empty⟩, nb 14 0 1] = (.tuple #[.agg #[.int .i64 0, .int .i64 0, .string ⟨#[]⟩], .int .i64 11]) by rw [evBin _ _ _ _ _ (by omega), if_neg (by exact h)] <;> rfl)
  have HC := Lib.hid (show ∀ n ∈ [nv ⟨2, a, ByteArray.empty⟩, nv ⟨2, b, ByteArray.empty⟩, nb 14 0 1], n.op ≠ 2 ∧ n.v.s.size ≤ maxLen ∧ ok64 n.v.n by
    intro n hn
    simp at hn
    rcases hn with rfl | rfl | rfl
    · exact ⟨show (1 : Int) ≠ 2 by decide, show ByteArray.empty.size ≤ maxLen by decide, ha⟩
    · exact ⟨show (1 : Int) ≠ 2 by decide, show ByteArray.empty.size ≤ maxLen by decide, hb⟩
    · exact ⟨by decide, by decide, by decide⟩)
  clear hk
  have e0 := fun W => eqlS 0 0 ⟨#[]⟩ 0 0 ⟨#[]⟩ true (by decide) W
  go_enter Try.func6, Try.ntmps6
  go_wp2_with fail
  refine (known _).mono ?_
  rintro e w1 ⟨rfl, hb1⟩
  go_wp2_with fail
  refine (withinr _ _ _ HK.out _ (by decide) (by decide) ho).mono ?_
  rintro e w2 ⟨rfl, rfl⟩
  go_wp2_with fail
  refine (refAdd a b _ ha hb).mono ?_
  rintro e w2 ⟨rfl, rfl⟩
  rw [decide_eq_false h]
  go_wp2_with fail
  obtain ⟨W, hW_, hbW, BE⟩ : ∃ W_, W_ = (w1.alloc (.cells #[.int .i64 1, .int .i64 0, .int .i64 0, .int .i64 2, .int .i64 a, .string ⟨#[]⟩, .string ⟨#[]⟩, .int .i64 1, .int .i64 0, .int .i64 0, .int .i64 2, .int .i64 b, .string ⟨#[]⟩, .string ⟨#[]⟩, .int .i64 14, .int .i64 0, .int .i64 1, .int .i64 0, .int .i64 0, .string ⟨#[]⟩, .string ⟨#[]⟩] 36)) ∧ Below w1.heap.size w1 W_ ∧ Blk W_ (w1.heap.size) 36 #[.int .i64 1, .int .i64 0, .int .i64 0, .int .i64 2, .int .i64 a, .string ⟨#[]⟩, .string ⟨#[]⟩, .int .i64 1, .int .i64 0, .int .i64 0, .int .i64 2, .int .i64 b, .string ⟨#[]⟩, .string ⟨#[]⟩, .int .i64 14, .int .i64 0, .int .i64 1, .int .i64 0, .int .i64 0, .string ⟨#[]⟩, .string ⟨#[]⟩] :=
    ⟨_, rfl, ((Below.refl _ _).alloc (Nat.le_refl _) _), (blk_new_at w1 (w1.heap.size) _ _ (by simp))⟩
  rw [← hW_]
  clear hW_
  refine (ValueB [nv ⟨2, a, ByteArray.empty⟩, nv ⟨2, b, ByteArray.empty⟩, nb 14 0 1] _ _ 3 3 _ _ W _ HV.out rfl BE rfl HC.out).mono ?_
  rintro e w3 ⟨rfl, hb3⟩
  go_wp2
  go_ret
  exact ⟨rfl, Below.trans hb1 (Below.mono (bch0 hbW (hb3.alloc hb3.size _)) hb1.size)⟩

set_option maxRecDepth 1000000 in
set_option maxHeartbeats 4000000 in
theorem over_1k (op a b : Int) (w : World) (ho : ok64 op) (ha : ok64 a) (hb : ok64 b) (hk : op % 4 = 1) (h : ok64 (a - b)) :
    Calls Try.prog 6 #[.int .i64 op, .int .i64 a, .int .i64 b] w fun e w' => e = .returned (.bool true) ∧ Below w.heap.size w w' := by
  have HK := Lib.hid hk
  have HV := Lib.hid (show EvV [nv ⟨2, a, ByteArray.empty⟩, nv ⟨2, b, ByteArray.empty⟩, nb 15 0 1] = (.tuple #[.agg #[.int .i64 2, .int .i64 (a - b), .string ⟨#[]⟩], .int .i64 0]) by rw [evBin _ _ _ _ _ (by omega), if_pos (by exact h)] <;> rfl)
  have HC := Lib.hid (show ∀ n ∈ [nv ⟨2, a, ByteArray.empty⟩, nv ⟨2, b, ByteArray.empty⟩, nb 15 0 1], n.op ≠ 2 ∧ n.v.s.size ≤ maxLen ∧ ok64 n.v.n by
    intro n hn
    simp at hn
    rcases hn with rfl | rfl | rfl
    · exact ⟨show (1 : Int) ≠ 2 by decide, show ByteArray.empty.size ≤ maxLen by decide, ha⟩
    · exact ⟨show (1 : Int) ≠ 2 by decide, show ByteArray.empty.size ≤ maxLen by decide, hb⟩
    · exact ⟨by decide, by decide, by decide⟩)
  clear hk
  have e0 := fun W => eqlS 2 (a - b) ⟨#[]⟩ 2 (a - b) ⟨#[]⟩ true (by simp [vEq]; rfl) W
  go_enter Try.func6, Try.ntmps6
  go_wp2_with fail
  refine (known _).mono ?_
  rintro e w1 ⟨rfl, hb1⟩
  go_wp2_with fail
  refine (withinr _ _ _ HK.out _ (by decide) (by decide) ho).mono ?_
  rintro e w2 ⟨rfl, rfl⟩
  go_wp2_with fail
  refine (refSub a b _ ha hb).mono ?_
  rintro e w2 ⟨rfl, rfl⟩
  rw [wrap_in h, decide_eq_true h]
  go_wp2_with fail
  obtain ⟨W, hW_, hbW, BE⟩ : ∃ W_, W_ = (w1.alloc (.cells #[.int .i64 1, .int .i64 0, .int .i64 0, .int .i64 2, .int .i64 a, .string ⟨#[]⟩, .string ⟨#[]⟩, .int .i64 1, .int .i64 0, .int .i64 0, .int .i64 2, .int .i64 b, .string ⟨#[]⟩, .string ⟨#[]⟩, .int .i64 15, .int .i64 0, .int .i64 1, .int .i64 0, .int .i64 0, .string ⟨#[]⟩, .string ⟨#[]⟩] 36)) ∧ Below w1.heap.size w1 W_ ∧ Blk W_ (w1.heap.size) 36 #[.int .i64 1, .int .i64 0, .int .i64 0, .int .i64 2, .int .i64 a, .string ⟨#[]⟩, .string ⟨#[]⟩, .int .i64 1, .int .i64 0, .int .i64 0, .int .i64 2, .int .i64 b, .string ⟨#[]⟩, .string ⟨#[]⟩, .int .i64 15, .int .i64 0, .int .i64 1, .int .i64 0, .int .i64 0, .string ⟨#[]⟩, .string ⟨#[]⟩] :=
    ⟨_, rfl, ((Below.refl _ _).alloc (Nat.le_refl _) _), (blk_new_at w1 (w1.heap.size) _ _ (by simp))⟩
  rw [← hW_]
  clear hW_
  refine (ValueB [nv ⟨2, a, ByteArray.empty⟩, nv ⟨2, b, ByteArray.empty⟩, nb 15 0 1] _ _ 3 3 _ _ W _ HV.out rfl BE rfl HC.out).mono ?_
  rintro e w3 ⟨rfl, hb3⟩
  go_wp2
  go_ret
  exact ⟨rfl, Below.trans hb1 (Below.mono (bch0 hbW (hb3.alloc hb3.size _)) hb1.size)⟩

set_option maxRecDepth 1000000 in
set_option maxHeartbeats 4000000 in
theorem over_1o (op a b : Int) (w : World) (ho : ok64 op) (ha : ok64 a) (hb : ok64 b) (hk : op % 4 = 1) (h : ¬ ok64 (a - b)) :
    Calls Try.prog 6 #[.int .i64 op, .int .i64 a, .int .i64 b] w fun e w' => e = .returned (.bool true) ∧ Below w.heap.size w w' := by
  have HK := Lib.hid hk
  have HV := Lib.hid (show EvV [nv ⟨2, a, ByteArray.empty⟩, nv ⟨2, b, ByteArray.empty⟩, nb 15 0 1] = (.tuple #[.agg #[.int .i64 0, .int .i64 0, .string ⟨#[]⟩], .int .i64 11]) by rw [evBin _ _ _ _ _ (by omega), if_neg (by exact h)] <;> rfl)
  have HC := Lib.hid (show ∀ n ∈ [nv ⟨2, a, ByteArray.empty⟩, nv ⟨2, b, ByteArray.empty⟩, nb 15 0 1], n.op ≠ 2 ∧ n.v.s.size ≤ maxLen ∧ ok64 n.v.n by
    intro n hn
    simp at hn
    rcases hn with rfl | rfl | rfl
    · exact ⟨show (1 : Int) ≠ 2 by decide, show ByteArray.empty.size ≤ maxLen by decide, ha⟩
    · exact ⟨show (1 : Int) ≠ 2 by decide, show ByteArray.empty.size ≤ maxLen by decide, hb⟩
    · exact ⟨by decide, by decide, by decide⟩)
  clear hk
  have e0 := fun W => eqlS 0 0 ⟨#[]⟩ 0 0 ⟨#[]⟩ true (by decide) W
  go_enter Try.func6, Try.ntmps6
  go_wp2_with fail
  refine (known _).mono ?_
  rintro e w1 ⟨rfl, hb1⟩
  go_wp2_with fail
  refine (withinr _ _ _ HK.out _ (by decide) (by decide) ho).mono ?_
  rintro e w2 ⟨rfl, rfl⟩
  go_wp2_with fail
  refine (refSub a b _ ha hb).mono ?_
  rintro e w2 ⟨rfl, rfl⟩
  rw [decide_eq_false h]
  go_wp2_with fail
  obtain ⟨W, hW_, hbW, BE⟩ : ∃ W_, W_ = (w1.alloc (.cells #[.int .i64 1, .int .i64 0, .int .i64 0, .int .i64 2, .int .i64 a, .string ⟨#[]⟩, .string ⟨#[]⟩, .int .i64 1, .int .i64 0, .int .i64 0, .int .i64 2, .int .i64 b, .string ⟨#[]⟩, .string ⟨#[]⟩, .int .i64 15, .int .i64 0, .int .i64 1, .int .i64 0, .int .i64 0, .string ⟨#[]⟩, .string ⟨#[]⟩] 36)) ∧ Below w1.heap.size w1 W_ ∧ Blk W_ (w1.heap.size) 36 #[.int .i64 1, .int .i64 0, .int .i64 0, .int .i64 2, .int .i64 a, .string ⟨#[]⟩, .string ⟨#[]⟩, .int .i64 1, .int .i64 0, .int .i64 0, .int .i64 2, .int .i64 b, .string ⟨#[]⟩, .string ⟨#[]⟩, .int .i64 15, .int .i64 0, .int .i64 1, .int .i64 0, .int .i64 0, .string ⟨#[]⟩, .string ⟨#[]⟩] :=
    ⟨_, rfl, ((Below.refl _ _).alloc (Nat.le_refl _) _), (blk_new_at w1 (w1.heap.size) _ _ (by simp))⟩
  rw [← hW_]
  clear hW_
  refine (ValueB [nv ⟨2, a, ByteArray.empty⟩, nv ⟨2, b, ByteArray.empty⟩, nb 15 0 1] _ _ 3 3 _ _ W _ HV.out rfl BE rfl HC.out).mono ?_
  rintro e w3 ⟨rfl, hb3⟩
  go_wp2
  go_ret
  exact ⟨rfl, Below.trans hb1 (Below.mono (bch0 hbW (hb3.alloc hb3.size _)) hb1.size)⟩

set_option maxRecDepth 1000000 in
set_option maxHeartbeats 4000000 in
theorem over_2k (op a b : Int) (w : World) (ho : ok64 op) (ha : ok64 a) (hb : ok64 b) (hk : op % 4 = 2) (h : ok64 (a * b)) :
    Calls Try.prog 6 #[.int .i64 op, .int .i64 a, .int .i64 b] w fun e w' => e = .returned (.bool true) ∧ Below w.heap.size w w' := by
  have HK := Lib.hid hk
  have HV := Lib.hid (show EvV [nv ⟨2, a, ByteArray.empty⟩, nv ⟨2, b, ByteArray.empty⟩, nb 16 0 1] = (.tuple #[.agg #[.int .i64 2, .int .i64 (a * b), .string ⟨#[]⟩], .int .i64 0]) by rw [evBin _ _ _ _ _ (by omega), if_pos (by exact h)] <;> rfl)
  have HC := Lib.hid (show ∀ n ∈ [nv ⟨2, a, ByteArray.empty⟩, nv ⟨2, b, ByteArray.empty⟩, nb 16 0 1], n.op ≠ 2 ∧ n.v.s.size ≤ maxLen ∧ ok64 n.v.n by
    intro n hn
    simp at hn
    rcases hn with rfl | rfl | rfl
    · exact ⟨show (1 : Int) ≠ 2 by decide, show ByteArray.empty.size ≤ maxLen by decide, ha⟩
    · exact ⟨show (1 : Int) ≠ 2 by decide, show ByteArray.empty.size ≤ maxLen by decide, hb⟩
    · exact ⟨by decide, by decide, by decide⟩)
  clear hk
  have HA := Lib.hid (refMul_k a b h ha hb)
  have e0 := fun W => eqlS 2 (a * b) ⟨#[]⟩ 2 (a * b) ⟨#[]⟩ true (by simp [vEq]; rfl) W
  go_enter Try.func6, Try.ntmps6
  go_wp2_with fail
  refine (known _).mono ?_
  rintro e w1 ⟨rfl, hb1⟩
  go_wp2_with fail
  refine (withinr _ _ _ HK.out _ (by decide) (by decide) ho).mono ?_
  rintro e w2 ⟨rfl, rfl⟩
  go_wp2_with fail
  obtain ⟨W, hW_, hbW, BE⟩ : ∃ W_, W_ = (w1.alloc (.cells #[.int .i64 1, .int .i64 0, .int .i64 0, .int .i64 2, .int .i64 a, .string ⟨#[]⟩, .string ⟨#[]⟩, .int .i64 1, .int .i64 0, .int .i64 0, .int .i64 2, .int .i64 b, .string ⟨#[]⟩, .string ⟨#[]⟩, .int .i64 16, .int .i64 0, .int .i64 1, .int .i64 0, .int .i64 0, .string ⟨#[]⟩, .string ⟨#[]⟩] 36)) ∧ Below w1.heap.size w1 W_ ∧ Blk W_ (w1.heap.size) 36 #[.int .i64 1, .int .i64 0, .int .i64 0, .int .i64 2, .int .i64 a, .string ⟨#[]⟩, .string ⟨#[]⟩, .int .i64 1, .int .i64 0, .int .i64 0, .int .i64 2, .int .i64 b, .string ⟨#[]⟩, .string ⟨#[]⟩, .int .i64 16, .int .i64 0, .int .i64 1, .int .i64 0, .int .i64 0, .string ⟨#[]⟩, .string ⟨#[]⟩] :=
    ⟨_, rfl, ((Below.refl _ _).alloc (Nat.le_refl _) _), (blk_new_at w1 (w1.heap.size) _ _ (by simp))⟩
  rw [← hW_]
  clear hW_
  refine (HA.out _).mono ?_
  rintro e w2 ⟨⟨t, rfl, rfl⟩, hbm⟩
  go_wp2_with fail
  refine (ValueB [nv ⟨2, a, ByteArray.empty⟩, nv ⟨2, b, ByteArray.empty⟩, nb 16 0 1] _ _ 3 3 _ _ w2 _ HV.out rfl (BE.ext hbm) rfl HC.out).mono ?_
  rintro e w3 ⟨rfl, hb3⟩
  go_wp2
  go_ret
  exact ⟨rfl, Below.trans hb1 (Below.mono (bch0 hbW (bch0 hbm (hb3.alloc hb3.size _))) hb1.size)⟩

set_option maxRecDepth 1000000 in
set_option maxHeartbeats 4000000 in
theorem over_2o (op a b : Int) (w : World) (ho : ok64 op) (ha : ok64 a) (hb : ok64 b) (hk : op % 4 = 2) (h : ¬ ok64 (a * b)) :
    Calls Try.prog 6 #[.int .i64 op, .int .i64 a, .int .i64 b] w fun e w' => e = .returned (.bool true) ∧ Below w.heap.size w w' := by
  have HK := Lib.hid hk
  have HV := Lib.hid (show EvV [nv ⟨2, a, ByteArray.empty⟩, nv ⟨2, b, ByteArray.empty⟩, nb 16 0 1] = (.tuple #[.agg #[.int .i64 0, .int .i64 0, .string ⟨#[]⟩], .int .i64 11]) by rw [evBin _ _ _ _ _ (by omega), if_neg (by exact h)] <;> rfl)
  have HC := Lib.hid (show ∀ n ∈ [nv ⟨2, a, ByteArray.empty⟩, nv ⟨2, b, ByteArray.empty⟩, nb 16 0 1], n.op ≠ 2 ∧ n.v.s.size ≤ maxLen ∧ ok64 n.v.n by
    intro n hn
    simp at hn
    rcases hn with rfl | rfl | rfl
    · exact ⟨show (1 : Int) ≠ 2 by decide, show ByteArray.empty.size ≤ maxLen by decide, ha⟩
    · exact ⟨show (1 : Int) ≠ 2 by decide, show ByteArray.empty.size ≤ maxLen by decide, hb⟩
    · exact ⟨by decide, by decide, by decide⟩)
  clear hk
  have HA := Lib.hid (refMul_o a b h ha hb)
  have e0 := fun W => eqlS 0 0 ⟨#[]⟩ 0 0 ⟨#[]⟩ true (by decide) W
  go_enter Try.func6, Try.ntmps6
  go_wp2_with fail
  refine (known _).mono ?_
  rintro e w1 ⟨rfl, hb1⟩
  go_wp2_with fail
  refine (withinr _ _ _ HK.out _ (by decide) (by decide) ho).mono ?_
  rintro e w2 ⟨rfl, rfl⟩
  go_wp2_with fail
  obtain ⟨W, hW_, hbW, BE⟩ : ∃ W_, W_ = (w1.alloc (.cells #[.int .i64 1, .int .i64 0, .int .i64 0, .int .i64 2, .int .i64 a, .string ⟨#[]⟩, .string ⟨#[]⟩, .int .i64 1, .int .i64 0, .int .i64 0, .int .i64 2, .int .i64 b, .string ⟨#[]⟩, .string ⟨#[]⟩, .int .i64 16, .int .i64 0, .int .i64 1, .int .i64 0, .int .i64 0, .string ⟨#[]⟩, .string ⟨#[]⟩] 36)) ∧ Below w1.heap.size w1 W_ ∧ Blk W_ (w1.heap.size) 36 #[.int .i64 1, .int .i64 0, .int .i64 0, .int .i64 2, .int .i64 a, .string ⟨#[]⟩, .string ⟨#[]⟩, .int .i64 1, .int .i64 0, .int .i64 0, .int .i64 2, .int .i64 b, .string ⟨#[]⟩, .string ⟨#[]⟩, .int .i64 16, .int .i64 0, .int .i64 1, .int .i64 0, .int .i64 0, .string ⟨#[]⟩, .string ⟨#[]⟩] :=
    ⟨_, rfl, ((Below.refl _ _).alloc (Nat.le_refl _) _), (blk_new_at w1 (w1.heap.size) _ _ (by simp))⟩
  rw [← hW_]
  clear hW_
  refine (HA.out _).mono ?_
  rintro e w2 ⟨⟨c, t, rfl, rfl⟩, hbm⟩
  go_wp2_with fail
  refine (ValueB [nv ⟨2, a, ByteArray.empty⟩, nv ⟨2, b, ByteArray.empty⟩, nb 16 0 1] _ _ 3 3 _ _ w2 _ HV.out rfl (BE.ext hbm) rfl HC.out).mono ?_
  rintro e w3 ⟨rfl, hb3⟩
  go_wp2
  go_ret
  exact ⟨rfl, Below.trans hb1 (Below.mono (bch0 hbW (bch0 hbm (hb3.alloc hb3.size _))) hb1.size)⟩

set_option maxRecDepth 1000000 in
set_option maxHeartbeats 4000000 in
theorem over_3k (op a b : Int) (w : World) (ho : ok64 op) (ha : ok64 a) (hb : ok64 b) (hk : op % 4 = 3) (h : ok64 (-a)) :
    Calls Try.prog 6 #[.int .i64 op, .int .i64 a, .int .i64 b] w fun e w' => e = .returned (.bool true) ∧ Below w.heap.size w w' := by
  have HK := Lib.hid hk
  have HV := Lib.hid (show EvV [nv ⟨2, a, ByteArray.empty⟩, nv ⟨2, b, ByteArray.empty⟩, nb 4 0 0] = (.tuple #[.agg #[.int .i64 2, .int .i64 (-a), .string ⟨#[]⟩], .int .i64 0]) by rw [evBin _ _ _ _ _ (by omega), if_pos (by exact h)] <;> rfl)
  have HC := Lib.hid (show ∀ n ∈ [nv ⟨2, a, ByteArray.empty⟩, nv ⟨2, b, ByteArray.empty⟩, nb 4 0 0], n.op ≠ 2 ∧ n.v.s.size ≤ maxLen ∧ ok64 n.v.n by
    intro n hn
    simp at hn
    rcases hn with rfl | rfl | rfl
    · exact ⟨show (1 : Int) ≠ 2 by decide, show ByteArray.empty.size ≤ maxLen by decide, ha⟩
    · exact ⟨show (1 : Int) ≠ 2 by decide, show ByteArray.empty.size ≤ maxLen by decide, hb⟩
    · exact ⟨by decide, by decide, by decide⟩)
  clear hk
  have e0 := fun W => eqlS 2 (-a) ⟨#[]⟩ 2 (-a) ⟨#[]⟩ true (by simp [vEq]; rfl) W
  have hw : wrap64 (-a) = -a := wrap_in h
  have hm : (a != -9223372036854775808) = true := by unfold ok64 at *; simp; omega
  go_enter Try.func6, Try.ntmps6
  go_wp2_with fail
  refine (known _).mono ?_
  rintro e w1 ⟨rfl, hb1⟩
  go_wp2_with fail
  refine (withinr _ _ _ HK.out _ (by decide) (by decide) ho).mono ?_
  rintro e w2 ⟨rfl, rfl⟩
  go_wp2_with fail
  obtain ⟨W, hW_, hbW, BE⟩ : ∃ W_, W_ = (w1.alloc (.cells #[.int .i64 1, .int .i64 0, .int .i64 0, .int .i64 2, .int .i64 a, .string ⟨#[]⟩, .string ⟨#[]⟩, .int .i64 1, .int .i64 0, .int .i64 0, .int .i64 2, .int .i64 b, .string ⟨#[]⟩, .string ⟨#[]⟩, .int .i64 4, .int .i64 0, .int .i64 0, .int .i64 0, .int .i64 0, .string ⟨#[]⟩, .string ⟨#[]⟩] 36)) ∧ Below w1.heap.size w1 W_ ∧ Blk W_ (w1.heap.size) 36 #[.int .i64 1, .int .i64 0, .int .i64 0, .int .i64 2, .int .i64 a, .string ⟨#[]⟩, .string ⟨#[]⟩, .int .i64 1, .int .i64 0, .int .i64 0, .int .i64 2, .int .i64 b, .string ⟨#[]⟩, .string ⟨#[]⟩, .int .i64 4, .int .i64 0, .int .i64 0, .int .i64 0, .int .i64 0, .string ⟨#[]⟩, .string ⟨#[]⟩] :=
    ⟨_, rfl, ((Below.refl _ _).alloc (Nat.le_refl _) _), (blk_new_at w1 (w1.heap.size) _ _ (by simp))⟩
  rw [← hW_]
  clear hW_
  refine (ValueB [nv ⟨2, a, ByteArray.empty⟩, nv ⟨2, b, ByteArray.empty⟩, nb 4 0 0] _ _ 3 3 _ _ W _ HV.out rfl BE rfl HC.out).mono ?_
  rintro e w3 ⟨rfl, hb3⟩
  go_wp2
  go_ret
  exact ⟨rfl, Below.trans hb1 (Below.mono (bch0 hbW (hb3.alloc hb3.size _)) hb1.size)⟩

set_option maxRecDepth 1000000 in
set_option maxHeartbeats 4000000 in
theorem over_3o (op a b : Int) (w : World) (ho : ok64 op) (ha : ok64 a) (hb : ok64 b) (hk : op % 4 = 3) (h : ¬ ok64 (-a)) :
    Calls Try.prog 6 #[.int .i64 op, .int .i64 a, .int .i64 b] w fun e w' => e = .returned (.bool true) ∧ Below w.heap.size w w' := by
  have HK := Lib.hid hk
  have HV := Lib.hid (show EvV [nv ⟨2, a, ByteArray.empty⟩, nv ⟨2, b, ByteArray.empty⟩, nb 4 0 0] = (.tuple #[.agg #[.int .i64 0, .int .i64 0, .string ⟨#[]⟩], .int .i64 11]) by rw [evBin _ _ _ _ _ (by omega), if_neg (by exact h)] <;> rfl)
  have HC := Lib.hid (show ∀ n ∈ [nv ⟨2, a, ByteArray.empty⟩, nv ⟨2, b, ByteArray.empty⟩, nb 4 0 0], n.op ≠ 2 ∧ n.v.s.size ≤ maxLen ∧ ok64 n.v.n by
    intro n hn
    simp at hn
    rcases hn with rfl | rfl | rfl
    · exact ⟨show (1 : Int) ≠ 2 by decide, show ByteArray.empty.size ≤ maxLen by decide, ha⟩
    · exact ⟨show (1 : Int) ≠ 2 by decide, show ByteArray.empty.size ≤ maxLen by decide, hb⟩
    · exact ⟨by decide, by decide, by decide⟩)
  clear hk
  have e0 := fun W => eqlS 0 0 ⟨#[]⟩ 0 0 ⟨#[]⟩ true (by decide) W
  obtain rfl : a = -9223372036854775808 := by unfold ok64 at *; omega
  go_enter Try.func6, Try.ntmps6
  go_wp2_with fail
  refine (known _).mono ?_
  rintro e w1 ⟨rfl, hb1⟩
  go_wp2_with fail
  refine (withinr _ _ _ HK.out _ (by decide) (by decide) ho).mono ?_
  rintro e w2 ⟨rfl, rfl⟩
  go_wp2_with fail
  obtain ⟨W, hW_, hbW, BE⟩ : ∃ W_, W_ = (w1.alloc (.cells #[.int .i64 1, .int .i64 0, .int .i64 0, .int .i64 2, .int .i64 (-9223372036854775808), .string ⟨#[]⟩, .string ⟨#[]⟩, .int .i64 1, .int .i64 0, .int .i64 0, .int .i64 2, .int .i64 b, .string ⟨#[]⟩, .string ⟨#[]⟩, .int .i64 4, .int .i64 0, .int .i64 0, .int .i64 0, .int .i64 0, .string ⟨#[]⟩, .string ⟨#[]⟩] 36)) ∧ Below w1.heap.size w1 W_ ∧ Blk W_ (w1.heap.size) 36 #[.int .i64 1, .int .i64 0, .int .i64 0, .int .i64 2, .int .i64 (-9223372036854775808), .string ⟨#[]⟩, .string ⟨#[]⟩, .int .i64 1, .int .i64 0, .int .i64 0, .int .i64 2, .int .i64 b, .string ⟨#[]⟩, .string ⟨#[]⟩, .int .i64 4, .int .i64 0, .int .i64 0, .int .i64 0, .int .i64 0, .string ⟨#[]⟩, .string ⟨#[]⟩] :=
    ⟨_, rfl, ((Below.refl _ _).alloc (Nat.le_refl _) _), (blk_new_at w1 (w1.heap.size) _ _ (by simp))⟩
  rw [← hW_]
  clear hW_
  refine (ValueB [nv ⟨2, (-9223372036854775808), ByteArray.empty⟩, nv ⟨2, b, ByteArray.empty⟩, nb 4 0 0] _ _ 3 3 _ _ W _ HV.out rfl BE rfl HC.out).mono ?_
  rintro e w3 ⟨rfl, hb3⟩
  go_wp2
  go_ret
  exact ⟨rfl, Below.trans hb1 (Below.mono (bch0 hbW (hb3.alloc hb3.size _)) hb1.size)⟩

theorem over_walk (op a b : Int) (w : World) (ho : ok64 op) (ha : ok64 a) (hb : ok64 b) :
    Calls Try.prog 6 #[.int .i64 op, .int .i64 a, .int .i64 b] w fun e w' => e = .returned (.bool true) ∧ Below w.heap.size w w' := by
  have hk : op % 4 = 0 ∨ op % 4 = 1 ∨ op % 4 = 2 ∨ op % 4 = 3 := by omega
  rcases hk with hk | hk | hk | hk
  · by_cases h : ok64 (a + b)
    · exact over_0k op a b w ho ha hb hk h
    · exact over_0o op a b w ho ha hb hk h
  · by_cases h : ok64 (a - b)
    · exact over_1k op a b w ho ha hb hk h
    · exact over_1o op a b w ho ha hb hk h
  · by_cases h : ok64 (a * b)
    · exact over_2k op a b w ho ha hb hk h
    · exact over_2o op a b w ho ha hb hk h
  · by_cases h : ok64 (-a)
    · exact over_3k op a b w ho ha hb hk h
    · exact over_3o op a b w ho ha hb hk h
end Go.Proofs.Ytfgmlgflfagdjaa.ev
