/- Contract: the document's kind of a node. Printed by genw2.py. -/
import Derived.Test.YtfgmlgflfagdjaaMV4
import Derived.Test.YtfgmlgflfagdjaaW1
namespace Go.Proofs.Ytfgmlgflfagdjaa.ev
open Go.ChangeShapes Go.WideShapes Go.ChangeAt Go.RowKit Go.Proofs.Ytfgmlgflfagdjaa.lib Go.Proofs.Ytfgmlgflfagdjaa.val
set_option linter.unusedVariables false

theorem made_w (op x y want own : Int) (hop : 3 ≤ op ∧ op ≤ 16) (h : wantsV op = (want, own)) (hw : want ≠ 0) : madeV op x y = if (x = 0 ∨ x = want) ∧ (y = 0 ∨ y = want) then (own, 0) else (0, 3) := by
  have e : (want = 1 ∧ own = 1 ∧ (op = 3 ∨ op = 6 ∨ op = 7)) ∨ (want = 2 ∧ own = 2 ∧ (op = 4 ∨ op = 14 ∨ op = 15 ∨ op = 16)) := by
    unfold wantsV at h
    split at h
    · injection h with h1 h2; omega
    split at h
    · injection h with h1 h2; omega
    · injection h with h1 h2; omega
  unfold madeV fitsV
  rw [if_neg (by omega), if_neg (show ¬ (8 ≤ op ∧ op ≤ 13) by omega)]
  rcases e with ⟨rfl, rfl, e⟩ | ⟨rfl, rfl, e⟩
  · rw [if_neg (show ¬ (op = 4 ∨ 14 ≤ op) by omega)]
    by_cases hf : (x = 0 ∨ x = 1) ∧ (y = 0 ∨ y = 1)
    · rw [if_pos hf, if_pos (by simp; omega)]
    · rw [if_neg hf, if_neg (by simp; omega)]
  · rw [if_pos (show op = 4 ∨ 14 ≤ op by omega)]
    by_cases hf : (x = 0 ∨ x = 2) ∧ (y = 0 ∨ y = 2)
    · rw [if_pos hf, if_pos (by simp; omega)]
    · rw [if_neg hf, if_neg (by simp; omega)]
theorem made_0 (op x y : Int) (hop : 8 ≤ op ∧ op ≤ 13) : madeV op x y = if x = 0 ∨ y = 0 ∨ x = y then (1, 0) else (0, 3) := by
  unfold madeV fitsV
  rw [if_neg (by omega), if_pos hop, if_neg (show ¬ (op = 4 ∨ 14 ≤ op) by omega)]
  by_cases hx : x = 0
  · subst hx
    rw [if_pos rfl, if_pos (by simp), if_pos (.inl rfl)]
  · rw [if_neg hx]
    by_cases hf : y = 0 ∨ x = y
    · rw [if_pos (by simp; omega), if_pos (.inr hf)]
    · rw [if_neg (by simp; omega), if_neg (by omega)]
theorem rcheckp (k n : Int) (s : ByteArray) (c : Int) (hc : chk k n s = c) (w : World) (hs : s.size ≤ maxLen) :
    Calls Try.prog 25 #[.agg #[.int .i64 k, .int .i64 n, .string s]] w fun e w' => e = .returned (.int .i64 c) ∧ Below w.heap.size w w' := by
  subst hc; exact rcheck_ k n s w hs

set_option maxRecDepth 1000000 in
set_option maxHeartbeats 4000000 in
theorem rkind_none (op a b vk vn : Int) (vs s : ByteArray) (A : Option Addr) (m c : Nat) (C : Value) (w : World) (hop : op < 1 ∨ 16 < op) :
    Calls Try.prog 37 #[.agg #[.int .i64 op, .int .i64 a, .int .i64 b, .int .i64 vk, .int .i64 vn, .string vs, .string s], .slice A m c, C] w fun e w' => e = .returned (two (0, 1)) ∧ Below w.heap.size w w' := by
  rcases hop with h | h
  · have h1 : decide (op < 1) = true := by simpa using h
    clear h
    go_enter Try.func37, Try.ntmps37
    go_wp2
    go_ret2
    exact ⟨rfl, (Below.refl _ _).alloc (Nat.le_refl _) _⟩
  · have h1 : decide (op < 1) = false := by simp; omega
    have h2 : decide (16 < op) = true := by simpa using h
    clear h
    go_enter Try.func37, Try.ntmps37
    go_wp2
    go_ret2
    exact ⟨rfl, (Below.refl _ _).alloc (Nat.le_refl _) _⟩
set_option maxRecDepth 1000000 in
set_option maxHeartbeats 4000000 in
theorem rkind_val (a b vk vn : Int) (vs s : ByteArray) (A : Option Addr) (m c : Nat) (C : Value) (w : World) (hs : vs.size ≤ maxLen) :
    Calls Try.prog 37 #[.agg #[.int .i64 1, .int .i64 a, .int .i64 b, .int .i64 vk, .int .i64 vn, .string vs, .string s], .slice A m c, C] w fun e w' => e = .returned (two (vk, chk vk vn vs)) ∧ Below w.heap.size w w' := by
  obtain ⟨x, hx⟩ : ∃ x, chk vk vn vs = x := ⟨_, rfl⟩
  rw [hx]
  have HX := Lib.hid hx
  clear hx
  go_enter Try.func37, Try.ntmps37
  go_wp2_with fail
  obtain ⟨W, hW_, hbW, B1⟩ : ∃ W_, W_ = (w.alloc (.cells #[.int .i64 1, .int .i64 a, .int .i64 b, .int .i64 vk, .int .i64 vn, .string vs, .string s] 36)) ∧ Below w.heap.size w W_ ∧ Blk W_ (w.heap.size) 36 #[.int .i64 1, .int .i64 a, .int .i64 b, .int .i64 vk, .int .i64 vn, .string vs, .string s] :=
    ⟨_, rfl, ((Below.refl _ _).alloc (Nat.le_refl _) _), (blk_new_at w (w.heap.size) _ _ (by simp))⟩
  rw [← hW_]
  clear hW_
  refine (rtwo_ 1 false _ (by decide)).mono ?_
  rintro e w1 ⟨rfl, rfl⟩
  have q1 := seven B1 (Below.refl _ _)
  go_wp2_with fail
  clear q1
  have D := fun w' (h : Below W.heap.size W.drew w') => seven B1 (Below.trans (Below.refl _ _).drew h)
  refine wp_region_one [(0, true), (1, true), (2, true), (3, true), (4, true), (5, false), (6, true), (7, true)] (by kernel_rfl) (by kernel_rfl) (by kernel_rfl) (by decide) ?_
  repeat ((with_reducible show wpPerm _ _ _ _ ((_, true) :: _) _ _); (first | (refine wpPerm_on (v := ?_) rfl rfl (wanted_free rfl) (fun w' hS => ?_) ?_; rotate_left; (focus (go_simp; (try with_reducible rfl); done)); try simp only [List.setIfInBounds_toArray, List.set_cons_zero, List.set_cons_succ]) | (refine wpPerm_on (v := ?_) rfl rfl (wanted_yes rfl rfl rfl) (fun w' hS => ?_) ?_; rotate_left; (focus (go_simp; (try with_reducible rfl); done)); try simp only [List.setIfInBounds_toArray, List.set_cons_zero, List.set_cons_succ]) | (refine wpPerm_off rfl rfl (wanted_no rfl rfl rfl) ?_; try simp only [List.setIfInBounds_toArray, List.set_cons_zero, List.set_cons_succ]) | (refine wpPerm_off rfl rfl (wanted_undef rfl rfl rfl) ?_; try simp only [List.setIfInBounds_toArray, List.set_cons_zero, List.set_cons_succ])))
  refine wpPerm_do rfl (wanted_free rfl) (fun K hK => ?_); go_simp
  refine (rcheckp vk vn vs x HX.out _ hs).mono ?_
  rintro e w3 ⟨rfl, hb3⟩
  refine hK.out _ _ hb3 ?_
  clear hK K
  repeat ((with_reducible show wpPerm _ _ _ _ ((_, true) :: _) _ _); (first | (refine wpPerm_on (v := ?_) rfl rfl (wanted_free rfl) (fun w' hS => ?_) ?_; rotate_left; (focus (go_simp; (try with_reducible rfl); done)); try simp only [List.setIfInBounds_toArray, List.set_cons_zero, List.set_cons_succ]) | (refine wpPerm_on (v := ?_) rfl rfl (wanted_yes rfl rfl rfl) (fun w' hS => ?_) ?_; rotate_left; (focus (go_simp; (try with_reducible rfl); done)); try simp only [List.setIfInBounds_toArray, List.set_cons_zero, List.set_cons_succ]) | (refine wpPerm_off rfl rfl (wanted_no rfl rfl rfl) ?_; try simp only [List.setIfInBounds_toArray, List.set_cons_zero, List.set_cons_succ]) | (refine wpPerm_off rfl rfl (wanted_undef rfl rfl rfl) ?_; try simp only [List.setIfInBounds_toArray, List.set_cons_zero, List.set_cons_succ])))
  refine wpPerm_done ?_
  clear D
  go_wp2
  go_ret2
  exact ⟨rfl, bch0 hbW (Below.trans (Below.refl _ _).drew hb3)⟩
set_option maxRecDepth 1000000 in
set_option maxHeartbeats 4000000 in
theorem rkind_colbad (a b vk vn : Int) (vs s : ByteArray) (A : Option Addr) (m c : Nat) (C : Value) (x er : Int) (w : World) (her : er ≠ 0)
    (hf : ∀ w', Below w.heap.size w w' → Calls Try.prog 40 #[C, .string s] w' fun e w'' => e = .returned (two (x, er)) ∧ w' = w'') :
    Calls Try.prog 37 #[.agg #[.int .i64 2, .int .i64 a, .int .i64 b, .int .i64 vk, .int .i64 vn, .string vs, .string s], .slice A m c, C] w fun e w' => e = .returned (two (0, er)) ∧ Below w.heap.size w w' := by
  have he : (er != 0) = true := by simpa using her
  clear her
  go_enter Try.func37, Try.ntmps37
  go_wp2_with fail
  obtain ⟨W, hW_, hbW, B1⟩ : ∃ W_, W_ = (w.alloc (.cells #[.int .i64 2, .int .i64 a, .int .i64 b, .int .i64 vk, .int .i64 vn, .string vs, .string s] 36)) ∧ Below w.heap.size w W_ ∧ Blk W_ (w.heap.size) 36 #[.int .i64 2, .int .i64 a, .int .i64 b, .int .i64 vk, .int .i64 vn, .string vs, .string s] :=
    ⟨_, rfl, ((Below.refl _ _).alloc (Nat.le_refl _) _), (blk_new_at w (w.heap.size) _ _ (by simp))⟩
  rw [← hW_]
  clear hW_
  refine (rtwo_ 2 false _ (by decide)).mono ?_
  rintro e w1 ⟨rfl, rfl⟩
  have q1 := seven B1 (Below.refl _ _)
  go_wp2_with fail
  clear q1
  refine (hf _ hbW).mono ?_
  rintro e w2 ⟨rfl, rfl⟩
  unfold two
  go_wp2
  go_ret2
  exact ⟨rfl, hbW⟩
set_option maxRecDepth 1000000 in
set_option maxHeartbeats 4000000 in
theorem rkind_colok (a b vk vn : Int) (vs s : ByteArray) (A : Option Addr) (m c : Nat) (k : Int) (j len cap bk off : Nat) (w : World) (hj : j < len) (hj2 : len < 1000)
    (hf : ∀ w', Below w.heap.size w w' → Calls Try.prog 40 #[.slice (some ⟨bk, off, none⟩) len cap, .string s] w' fun e w'' => e = .returned (two (j, 0)) ∧ w' = w'')
    (hlt : bk < w.heap.size) (hc : w.cell? ⟨bk, off + j * 3 + 1, none⟩ = some (.int .i64 k)) :
    Calls Try.prog 37 #[.agg #[.int .i64 2, .int .i64 a, .int .i64 b, .int .i64 vk, .int .i64 vn, .string vs, .string s], .slice A m c, .slice (some ⟨bk, off, none⟩) len cap] w fun e w' => e = .returned (two (k, 0)) ∧ Below w.heap.size w w' := by
  have hj3 : (j : Int) < (len : Int) := by omega
  go_enter Try.func37, Try.ntmps37
  go_wp2_with fail
  obtain ⟨W, hW_, hbW, B1⟩ : ∃ W_, W_ = (w.alloc (.cells #[.int .i64 2, .int .i64 a, .int .i64 b, .int .i64 vk, .int .i64 vn, .string vs, .string s] 36)) ∧ Below w.heap.size w W_ ∧ Blk W_ (w.heap.size) 36 #[.int .i64 2, .int .i64 a, .int .i64 b, .int .i64 vk, .int .i64 vn, .string vs, .string s] :=
    ⟨_, rfl, ((Below.refl _ _).alloc (Nat.le_refl _) _), (blk_new_at w (w.heap.size) _ _ (by simp))⟩
  rw [← hW_]
  clear hW_
  refine (rtwo_ 2 false _ (by decide)).mono ?_
  rintro e w1 ⟨rfl, rfl⟩
  have q1 := seven B1 (Below.refl _ _)
  go_wp2_with fail
  clear q1
  refine (hf _ hbW).mono ?_
  rintro e w2 ⟨rfl, rfl⟩
  unfold two
  have qc : W.cell? ⟨bk, off + j * 3 + 1, none⟩ = some (.int .i64 k) := (hbW.cell (by exact hlt)).trans hc
  clear hc
  go_wp2
  go_ret2
  exact ⟨rfl, hbW⟩
set_option maxRecDepth 1000000 in
set_option maxHeartbeats 4000000 in
theorem rkind_a (op a b vk vn : Int) (vs s : ByteArray) (A : Option Addr) (m c : Nat) (C : Value) (w : World) (hop : 3 ≤ op ∧ op ≤ 16) (ha : a < 0 ∨ (m : Int) ≤ a) :
    Calls Try.prog 37 #[.agg #[.int .i64 op, .int .i64 a, .int .i64 b, .int .i64 vk, .int .i64 vn, .string vs, .string s], .slice A m c, C] w fun e w' => e = .returned (two (0, 1)) ∧ Below w.heap.size w w' := by
  have h1 : decide (op < 1) = false := by simp; omega
  have h2 : decide (16 < op) = false := by simp; omega
  have h3 : decide (2 < op) = true := by simp; omega
  have h4 : (op == 1) = false := by simp; omega
  have h5 : (op == 2) = false := by simp; omega
  clear hop
  rcases ha with h | h
  · have h6 : decide (a < 0) = true := by simpa using h
    clear h
    go_enter Try.func37, Try.ntmps37
    go_wp2
    go_ret2
    exact ⟨rfl, (Below.refl _ _).alloc (Nat.le_refl _) _⟩
  · have h6 : decide (a < 0) = false := by simp; omega
    have h7 : decide ((m : Int) ≤ a) = true := by simpa using h
    clear h
    go_enter Try.func37, Try.ntmps37
    go_wp2
    go_ret2
    exact ⟨rfl, (Below.refl _ _).alloc (Nat.le_refl _) _⟩
set_option maxRecDepth 1000000 in
set_option maxHeartbeats 4000000 in
theorem rkind_b (op b vk vn : Int) (ia : Nat) (vs s : ByteArray) (A : Option Addr) (m c : Nat) (C : Value) (w : World) (hop : 6 ≤ op ∧ op ≤ 16) (ha : ia < m) (hm : m < 1000) (hb : b < 0 ∨ (m : Int) ≤ b) :
    Calls Try.prog 37 #[.agg #[.int .i64 op, .int .i64 ia, .int .i64 b, .int .i64 vk, .int .i64 vn, .string vs, .string s], .slice A m c, C] w fun e w' => e = .returned (two (0, 1)) ∧ Below w.heap.size w w' := by
  have h1 : decide (op < 1) = false := by simp; omega
  have h2 : decide (16 < op) = false := by simp; omega
  have h3 : decide (2 < op) = true := by simp; omega
  have h4 : (op == 1) = false := by simp; omega
  have h5 : (op == 2) = false := by simp; omega
  have h6 : decide (m ≤ ia) = false := by simp; omega
  have h66 : decide ((m : Int) ≤ (ia : Int)) = false := by simp; omega
  have HT := Lib.hid (show decide (6 ≤ op ∧ op ≤ 16) = true by simp; omega)
  clear hop
  rcases hb with h | h
  · have h7 : decide (b < 0) = true := by simpa using h
    clear h
    go_enter Try.func37, Try.ntmps37
    go_wp2_with fail
    obtain ⟨W, hW_, hbW, B1⟩ : ∃ W_, W_ = (w.alloc (.cells #[.int .i64 op, .int .i64 ia, .int .i64 b, .int .i64 vk, .int .i64 vn, .string vs, .string s] 36)) ∧ Below w.heap.size w W_ ∧ Blk W_ (w.heap.size) 36 #[.int .i64 op, .int .i64 ia, .int .i64 b, .int .i64 vk, .int .i64 vn, .string vs, .string s] :=
      ⟨_, rfl, ((Below.refl _ _).alloc (Nat.le_refl _) _), (blk_new_at w (w.heap.size) _ _ (by simp))⟩
    rw [← hW_]
    clear hW_
    refine (rtwo_ op true _ HT.out).mono ?_
    rintro e w1 ⟨rfl, rfl⟩
    have q1 := seven B1 (Below.refl _ _)
    go_wp2
    go_ret2
    exact ⟨rfl, hbW⟩
  · have h7 : decide (b < 0) = false := by simp; omega
    have h8 : decide ((m : Int) ≤ b) = true := by simpa using h
    clear h
    go_enter Try.func37, Try.ntmps37
    go_wp2_with fail
    obtain ⟨W, hW_, hbW, B1⟩ : ∃ W_, W_ = (w.alloc (.cells #[.int .i64 op, .int .i64 ia, .int .i64 b, .int .i64 vk, .int .i64 vn, .string vs, .string s] 36)) ∧ Below w.heap.size w W_ ∧ Blk W_ (w.heap.size) 36 #[.int .i64 op, .int .i64 ia, .int .i64 b, .int .i64 vk, .int .i64 vn, .string vs, .string s] :=
      ⟨_, rfl, ((Below.refl _ _).alloc (Nat.le_refl _) _), (blk_new_at w (w.heap.size) _ _ (by simp))⟩
    rw [← hW_]
    clear hW_
    refine (rtwo_ op true _ HT.out).mono ?_
    rintro e w1 ⟨rfl, rfl⟩
    have q1 := seven B1 (Below.refl _ _)
    go_wp2
    go_ret2
    exact ⟨rfl, hbW⟩
set_option maxRecDepth 1000000 in
set_option maxHeartbeats 4000000 in
theorem rkind_3 (op vk vn : Int) (b : Int) (ia : Nat) (vs s : ByteArray) (ad : Addr) (m c : Nat) (C : Value) (x : Int) (w : World) (hop : op = 3) (ham : ia < m) (hm : m < 1000) (hlt : ad.block < w.heap.size) (ha2 : w.cell? (ad.add ia) = some (.int .i64 x)) :
    Calls Try.prog 37 #[.agg #[.int .i64 op, .int .i64 ia, .int .i64 b, .int .i64 vk, .int .i64 vn, .string vs, .string s], .slice (some ad) m c, C] w fun e w' => e = .returned (two (madeV op x x)) ∧ Below w.heap.size w w' := by
  have h1 : decide (op < 1) = false := by simp; omega
  have h2 : decide (16 < op) = false := by simp; omega
  have h3 : decide (2 < op) = true := by simp; omega
  have h4 : (op == 1) = false := by simp; omega
  have h5 : (op == 2) = false := by simp; omega
  have h6 : decide (m ≤ ia) = false := by simp; omega
  have h66 : decide ((m : Int) ≤ (ia : Int)) = false := by simp; omega
  have ham2 : (ia : Int) < (m : Int) := by omega
  have HT := Lib.hid (show decide (6 ≤ op ∧ op ≤ 16) = false by simp; omega)
  have HW := Lib.hid (show wantsV op = (1, 1) by unfold wantsV; rw [if_pos (by omega)])
  have HO := Lib.hid hop
  clear hop
  rcases (show x = 0 ∨ x = 1 ∨ (x ≠ 0 ∧ x ≠ 1) by omega) with rfl | rfl | ⟨hx, hx2⟩
  · have e : madeV op 0 0 = (1, 0) := (made_w op 0 0 1 1 (by have := HO.out; omega) HW.out (by decide)).trans (if_pos (by omega))
    rw [e]
    clear e
    go_enter Try.func37, Try.ntmps37
    go_wp2_with fail
    obtain ⟨W, hW_, hbW, B1⟩ : ∃ W_, W_ = (w.alloc (.cells #[.int .i64 op, .int .i64 ia, .int .i64 b, .int .i64 vk, .int .i64 vn, .string vs, .string s] 36)) ∧ Below w.heap.size w W_ ∧ Blk W_ (w.heap.size) 36 #[.int .i64 op, .int .i64 ia, .int .i64 b, .int .i64 vk, .int .i64 vn, .string vs, .string s] :=
      ⟨_, rfl, ((Below.refl _ _).alloc (Nat.le_refl _) _), (blk_new_at w (w.heap.size) _ _ (by simp))⟩
    rw [← hW_]
    clear hW_
    refine (rtwo_ op false _ HT.out).mono ?_
    rintro e w1 ⟨rfl, rfl⟩
    have q1 := seven B1 (Below.refl _ _)
    go_wp2_with fail
    refine (rwants_ op _ _ HW.out).mono ?_
    rintro e w1 ⟨rfl, rfl⟩
    unfold two
    have qa : W.cell? (ad.add ia) = some (.int .i64 0) := (hbW.cell (by rw [block_of_add]; exact hlt)).trans ha2
    go_wp2_with fail
    refine (rtwo_ op false _ HT.out).mono ?_
    rintro e w1 ⟨rfl, rfl⟩
    go_wp2_with fail
    refine (rtwo_ op false _ HT.out).mono ?_
    rintro e w1 ⟨rfl, rfl⟩
    go_wp2
    go_ret2
    exact ⟨rfl, hbW⟩
  · have e : madeV op 1 1 = (1, 0) := (made_w op 1 1 1 1 (by have := HO.out; omega) HW.out (by decide)).trans (if_pos (by omega))
    rw [e]
    clear e
    go_enter Try.func37, Try.ntmps37
    go_wp2_with fail
    obtain ⟨W, hW_, hbW, B1⟩ : ∃ W_, W_ = (w.alloc (.cells #[.int .i64 op, .int .i64 ia, .int .i64 b, .int .i64 vk, .int .i64 vn, .string vs, .string s] 36)) ∧ Below w.heap.size w W_ ∧ Blk W_ (w.heap.size) 36 #[.int .i64 op, .int .i64 ia, .int .i64 b, .int .i64 vk, .int .i64 vn, .string vs, .string s] :=
      ⟨_, rfl, ((Below.refl _ _).alloc (Nat.le_refl _) _), (blk_new_at w (w.heap.size) _ _ (by simp))⟩
    rw [← hW_]
    clear hW_
    refine (rtwo_ op false _ HT.out).mono ?_
    rintro e w1 ⟨rfl, rfl⟩
    have q1 := seven B1 (Below.refl _ _)
    go_wp2_with fail
    refine (rwants_ op _ _ HW.out).mono ?_
    rintro e w1 ⟨rfl, rfl⟩
    unfold two
    have qa : W.cell? (ad.add ia) = some (.int .i64 1) := (hbW.cell (by rw [block_of_add]; exact hlt)).trans ha2
    go_wp2_with fail
    refine (rtwo_ op false _ HT.out).mono ?_
    rintro e w1 ⟨rfl, rfl⟩
    go_wp2_with fail
    refine (rtwo_ op false _ HT.out).mono ?_
    rintro e w1 ⟨rfl, rfl⟩
    go_wp2
    go_ret2
    exact ⟨rfl, hbW⟩
  · have e : madeV op x x = (0, 3) := (made_w op x x 1 1 (by have := HO.out; omega) HW.out (by decide)).trans (if_neg (by omega))
    rw [e]
    clear e
    have k1 : (x != 0) = true := by simpa using hx
    have k2 : (x != 1) = true := by simpa using hx2
    clear hx hx2
    go_enter Try.func37, Try.ntmps37
    go_wp2_with fail
    obtain ⟨W, hW_, hbW, B1⟩ : ∃ W_, W_ = (w.alloc (.cells #[.int .i64 op, .int .i64 ia, .int .i64 b, .int .i64 vk, .int .i64 vn, .string vs, .string s] 36)) ∧ Below w.heap.size w W_ ∧ Blk W_ (w.heap.size) 36 #[.int .i64 op, .int .i64 ia, .int .i64 b, .int .i64 vk, .int .i64 vn, .string vs, .string s] :=
      ⟨_, rfl, ((Below.refl _ _).alloc (Nat.le_refl _) _), (blk_new_at w (w.heap.size) _ _ (by simp))⟩
    rw [← hW_]
    clear hW_
    refine (rtwo_ op false _ HT.out).mono ?_
    rintro e w1 ⟨rfl, rfl⟩
    have q1 := seven B1 (Below.refl _ _)
    go_wp2_with fail
    refine (rwants_ op _ _ HW.out).mono ?_
    rintro e w1 ⟨rfl, rfl⟩
    unfold two
    have qa : W.cell? (ad.add ia) = some (.int .i64 x) := (hbW.cell (by rw [block_of_add]; exact hlt)).trans ha2
    go_wp2_with fail
    refine (rtwo_ op false _ HT.out).mono ?_
    rintro e w1 ⟨rfl, rfl⟩
    go_wp2_with fail
    go_ret2
    exact ⟨rfl, hbW⟩
set_option maxRecDepth 1000000 in
set_option maxHeartbeats 4000000 in
theorem rkind_4 (op vk vn : Int) (b : Int) (ia : Nat) (vs s : ByteArray) (ad : Addr) (m c : Nat) (C : Value) (x : Int) (w : World) (hop : op = 4) (ham : ia < m) (hm : m < 1000) (hlt : ad.block < w.heap.size) (ha2 : w.cell? (ad.add ia) = some (.int .i64 x)) :
    Calls Try.prog 37 #[.agg #[.int .i64 op, .int .i64 ia, .int .i64 b, .int .i64 vk, .int .i64 vn, .string vs, .string s], .slice (some ad) m c, C] w fun e w' => e = .returned (two (madeV op x x)) ∧ Below w.heap.size w w' := by
  have h1 : decide (op < 1) = false := by simp; omega
  have h2 : decide (16 < op) = false := by simp; omega
  have h3 : decide (2 < op) = true := by simp; omega
  have h4 : (op == 1) = false := by simp; omega
  have h5 : (op == 2) = false := by simp; omega
  have h6 : decide (m ≤ ia) = false := by simp; omega
  have h66 : decide ((m : Int) ≤ (ia : Int)) = false := by simp; omega
  have ham2 : (ia : Int) < (m : Int) := by omega
  have HT := Lib.hid (show decide (6 ≤ op ∧ op ≤ 16) = false by simp; omega)
  have HW := Lib.hid (show wantsV op = (2, 2) by unfold wantsV; rw [if_neg (by omega), if_pos (by omega)])
  have HO := Lib.hid hop
  clear hop
  rcases (show x = 0 ∨ x = 2 ∨ (x ≠ 0 ∧ x ≠ 2) by omega) with rfl | rfl | ⟨hx, hx2⟩
  · have e : madeV op 0 0 = (2, 0) := (made_w op 0 0 2 2 (by have := HO.out; omega) HW.out (by decide)).trans (if_pos (by omega))
    rw [e]
    clear e
    go_enter Try.func37, Try.ntmps37
    go_wp2_with fail
    obtain ⟨W, hW_, hbW, B1⟩ : ∃ W_, W_ = (w.alloc (.cells #[.int .i64 op, .int .i64 ia, .int .i64 b, .int .i64 vk, .int .i64 vn, .string vs, .string s] 36)) ∧ Below w.heap.size w W_ ∧ Blk W_ (w.heap.size) 36 #[.int .i64 op, .int .i64 ia, .int .i64 b, .int .i64 vk, .int .i64 vn, .string vs, .string s] :=
      ⟨_, rfl, ((Below.refl _ _).alloc (Nat.le_refl _) _), (blk_new_at w (w.heap.size) _ _ (by simp))⟩
    rw [← hW_]
    clear hW_
    refine (rtwo_ op false _ HT.out).mono ?_
    rintro e w1 ⟨rfl, rfl⟩
    have q1 := seven B1 (Below.refl _ _)
    go_wp2_with fail
    refine (rwants_ op _ _ HW.out).mono ?_
    rintro e w1 ⟨rfl, rfl⟩
    unfold two
    have qa : W.cell? (ad.add ia) = some (.int .i64 0) := (hbW.cell (by rw [block_of_add]; exact hlt)).trans ha2
    go_wp2_with fail
    refine (rtwo_ op false _ HT.out).mono ?_
    rintro e w1 ⟨rfl, rfl⟩
    go_wp2_with fail
    refine (rtwo_ op false _ HT.out).mono ?_
    rintro e w1 ⟨rfl, rfl⟩
    go_wp2
    go_ret2
    exact ⟨rfl, hbW⟩
  · have e : madeV op 2 2 = (2, 0) := (made_w op 2 2 2 2 (by have := HO.out; omega) HW.out (by decide)).trans (if_pos (by omega))
    rw [e]
    clear e
    go_enter Try.func37, Try.ntmps37
    go_wp2_with fail
    obtain ⟨W, hW_, hbW, B1⟩ : ∃ W_, W_ = (w.alloc (.cells #[.int .i64 op, .int .i64 ia, .int .i64 b, .int .i64 vk, .int .i64 vn, .string vs, .string s] 36)) ∧ Below w.heap.size w W_ ∧ Blk W_ (w.heap.size) 36 #[.int .i64 op, .int .i64 ia, .int .i64 b, .int .i64 vk, .int .i64 vn, .string vs, .string s] :=
      ⟨_, rfl, ((Below.refl _ _).alloc (Nat.le_refl _) _), (blk_new_at w (w.heap.size) _ _ (by simp))⟩
    rw [← hW_]
    clear hW_
    refine (rtwo_ op false _ HT.out).mono ?_
    rintro e w1 ⟨rfl, rfl⟩
    have q1 := seven B1 (Below.refl _ _)
    go_wp2_with fail
    refine (rwants_ op _ _ HW.out).mono ?_
    rintro e w1 ⟨rfl, rfl⟩
    unfold two
    have qa : W.cell? (ad.add ia) = some (.int .i64 2) := (hbW.cell (by rw [block_of_add]; exact hlt)).trans ha2
    go_wp2_with fail
    refine (rtwo_ op false _ HT.out).mono ?_
    rintro e w1 ⟨rfl, rfl⟩
    go_wp2_with fail
    refine (rtwo_ op false _ HT.out).mono ?_
    rintro e w1 ⟨rfl, rfl⟩
    go_wp2
    go_ret2
    exact ⟨rfl, hbW⟩
  · have e : madeV op x x = (0, 3) := (made_w op x x 2 2 (by have := HO.out; omega) HW.out (by decide)).trans (if_neg (by omega))
    rw [e]
    clear e
    have k1 : (x != 0) = true := by simpa using hx
    have k2 : (x != 2) = true := by simpa using hx2
    clear hx hx2
    go_enter Try.func37, Try.ntmps37
    go_wp2_with fail
    obtain ⟨W, hW_, hbW, B1⟩ : ∃ W_, W_ = (w.alloc (.cells #[.int .i64 op, .int .i64 ia, .int .i64 b, .int .i64 vk, .int .i64 vn, .string vs, .string s] 36)) ∧ Below w.heap.size w W_ ∧ Blk W_ (w.heap.size) 36 #[.int .i64 op, .int .i64 ia, .int .i64 b, .int .i64 vk, .int .i64 vn, .string vs, .string s] :=
      ⟨_, rfl, ((Below.refl _ _).alloc (Nat.le_refl _) _), (blk_new_at w (w.heap.size) _ _ (by simp))⟩
    rw [← hW_]
    clear hW_
    refine (rtwo_ op false _ HT.out).mono ?_
    rintro e w1 ⟨rfl, rfl⟩
    have q1 := seven B1 (Below.refl _ _)
    go_wp2_with fail
    refine (rwants_ op _ _ HW.out).mono ?_
    rintro e w1 ⟨rfl, rfl⟩
    unfold two
    have qa : W.cell? (ad.add ia) = some (.int .i64 x) := (hbW.cell (by rw [block_of_add]; exact hlt)).trans ha2
    go_wp2_with fail
    refine (rtwo_ op false _ HT.out).mono ?_
    rintro e w1 ⟨rfl, rfl⟩
    go_wp2_with fail
    go_ret2
    exact ⟨rfl, hbW⟩
set_option maxRecDepth 1000000 in
set_option maxHeartbeats 4000000 in
theorem rkind_5 (op vk vn : Int) (b : Int) (ia : Nat) (vs s : ByteArray) (ad : Addr) (m c : Nat) (C : Value) (x : Int) (w : World) (hop : op = 5) (ham : ia < m) (hm : m < 1000) (hlt : ad.block < w.heap.size) (ha2 : w.cell? (ad.add ia) = some (.int .i64 x)) :
    Calls Try.prog 37 #[.agg #[.int .i64 op, .int .i64 ia, .int .i64 b, .int .i64 vk, .int .i64 vn, .string vs, .string s], .slice (some ad) m c, C] w fun e w' => e = .returned (two (madeV op x x)) ∧ Below w.heap.size w w' := by
  have h1 : decide (op < 1) = false := by simp; omega
  have h2 : decide (16 < op) = false := by simp; omega
  have h3 : decide (2 < op) = true := by simp; omega
  have h4 : (op == 1) = false := by simp; omega
  have h5 : (op == 2) = false := by simp; omega
  have h6 : decide (m ≤ ia) = false := by simp; omega
  have h66 : decide ((m : Int) ≤ (ia : Int)) = false := by simp; omega
  have ham2 : (ia : Int) < (m : Int) := by omega
  have HT := Lib.hid (show decide (6 ≤ op ∧ op ≤ 16) = false by simp; omega)
  have HW := Lib.hid (show wantsV op = (0, 1) by unfold wantsV; rw [if_neg (by omega), if_neg (by omega)])
  have HO := Lib.hid hop
  clear hop
  have e : madeV op x x = (1, 0) := by have := HO.out; unfold madeV; rw [if_pos this]
  rw [e]
  clear e
  go_enter Try.func37, Try.ntmps37
  go_wp2_with fail
  obtain ⟨W, hW_, hbW, B1⟩ : ∃ W_, W_ = (w.alloc (.cells #[.int .i64 op, .int .i64 ia, .int .i64 b, .int .i64 vk, .int .i64 vn, .string vs, .string s] 36)) ∧ Below w.heap.size w W_ ∧ Blk W_ (w.heap.size) 36 #[.int .i64 op, .int .i64 ia, .int .i64 b, .int .i64 vk, .int .i64 vn, .string vs, .string s] :=
    ⟨_, rfl, ((Below.refl _ _).alloc (Nat.le_refl _) _), (blk_new_at w (w.heap.size) _ _ (by simp))⟩
  rw [← hW_]
  clear hW_
  refine (rtwo_ op false _ HT.out).mono ?_
  rintro e w1 ⟨rfl, rfl⟩
  have q1 := seven B1 (Below.refl _ _)
  go_wp2_with fail
  refine (rwants_ op _ _ HW.out).mono ?_
  rintro e w1 ⟨rfl, rfl⟩
  unfold two
  have qa : W.cell? (ad.add ia) = some (.int .i64 x) := (hbW.cell (by rw [block_of_add]; exact hlt)).trans ha2
  go_wp2_with fail
  refine (rtwo_ op false _ HT.out).mono ?_
  rintro e w1 ⟨rfl, rfl⟩
  go_wp2_with fail
  refine (rtwo_ op false _ HT.out).mono ?_
  rintro e w1 ⟨rfl, rfl⟩
  go_wp2
  go_ret2
  exact ⟨rfl, hbW⟩
set_option maxRecDepth 1000000 in
set_option maxHeartbeats 4000000 in
theorem rkind_67 (op vk vn : Int) (ia ib : Nat) (vs s : ByteArray) (ad : Addr) (m c : Nat) (C : Value) (x y : Int) (w : World) (hop : op = 6 ∨ op = 7) (ham : ia < m) (hm : m < 1000) (hlt : ad.block < w.heap.size) (ha2 : w.cell? (ad.add ia) = some (.int .i64 x)) (hbm : ib < m) (hb2 : w.cell? (ad.add ib) = some (.int .i64 y)) :
    Calls Try.prog 37 #[.agg #[.int .i64 op, .int .i64 ia, .int .i64 ib, .int .i64 vk, .int .i64 vn, .string vs, .string s], .slice (some ad) m c, C] w fun e w' => e = .returned (two (madeV op x y)) ∧ Below w.heap.size w w' := by
  have h1 : decide (op < 1) = false := by simp; omega
  have h2 : decide (16 < op) = false := by simp; omega
  have h3 : decide (2 < op) = true := by simp; omega
  have h4 : (op == 1) = false := by simp; omega
  have h5 : (op == 2) = false := by simp; omega
  have h6 : decide (m ≤ ia) = false := by simp; omega
  have h66 : decide ((m : Int) ≤ (ia : Int)) = false := by simp; omega
  have ham2 : (ia : Int) < (m : Int) := by omega
  have h7 : decide (m ≤ ib) = false := by simp; omega
  have h77 : decide ((m : Int) ≤ (ib : Int)) = false := by simp; omega
  have hbm2 : (ib : Int) < (m : Int) := by omega
  have HT := Lib.hid (show decide (6 ≤ op ∧ op ≤ 16) = true by simp; omega)
  have HW := Lib.hid (show wantsV op = (1, 1) by unfold wantsV; rw [if_pos (by omega)])
  have HO := Lib.hid hop
  clear hop
  rcases (show x = 0 ∨ x = 1 ∨ (x ≠ 0 ∧ x ≠ 1) by omega) with rfl | rfl | ⟨hx, hx2⟩
  · rcases (show y = 0 ∨ y = 1 ∨ (y ≠ 0 ∧ y ≠ 1) by omega) with rfl | rfl | ⟨hy, hy2⟩
    · have e : madeV op 0 0 = (1, 0) := (made_w op 0 0 1 1 (by have := HO.out; omega) HW.out (by decide)).trans (if_pos (by omega))
      rw [e]
      clear e
      go_enter Try.func37, Try.ntmps37
      go_wp2_with fail
      obtain ⟨W, hW_, hbW, B1⟩ : ∃ W_, W_ = (w.alloc (.cells #[.int .i64 op, .int .i64 ia, .int .i64 ib, .int .i64 vk, .int .i64 vn, .string vs, .string s] 36)) ∧ Below w.heap.size w W_ ∧ Blk W_ (w.heap.size) 36 #[.int .i64 op, .int .i64 ia, .int .i64 ib, .int .i64 vk, .int .i64 vn, .string vs, .string s] :=
        ⟨_, rfl, ((Below.refl _ _).alloc (Nat.le_refl _) _), (blk_new_at w (w.heap.size) _ _ (by simp))⟩
      rw [← hW_]
      clear hW_
      refine (rtwo_ op true _ HT.out).mono ?_
      rintro e w1 ⟨rfl, rfl⟩
      have q1 := seven B1 (Below.refl _ _)
      go_wp2_with fail
      refine (rwants_ op _ _ HW.out).mono ?_
      rintro e w1 ⟨rfl, rfl⟩
      unfold two
      have qa : W.cell? (ad.add ia) = some (.int .i64 0) := (hbW.cell (by rw [block_of_add]; exact hlt)).trans ha2
      have qb : W.cell? (ad.add ib) = some (.int .i64 0) := (hbW.cell (by rw [block_of_add]; exact hlt)).trans hb2
      go_wp2_with fail
      refine (rtwo_ op true _ HT.out).mono ?_
      rintro e w1 ⟨rfl, rfl⟩
      go_wp2_with fail
      refine (rtwo_ op true _ HT.out).mono ?_
      rintro e w1 ⟨rfl, rfl⟩
      go_wp2
      go_ret2
      exact ⟨rfl, hbW⟩
    · have e : madeV op 0 1 = (1, 0) := (made_w op 0 1 1 1 (by have := HO.out; omega) HW.out (by decide)).trans (if_pos (by omega))
      rw [e]
      clear e
      go_enter Try.func37, Try.ntmps37
      go_wp2_with fail
      obtain ⟨W, hW_, hbW, B1⟩ : ∃ W_, W_ = (w.alloc (.cells #[.int .i64 op, .int .i64 ia, .int .i64 ib, .int .i64 vk, .int .i64 vn, .string vs, .string s] 36)) ∧ Below w.heap.size w W_ ∧ Blk W_ (w.heap.size) 36 #[.int .i64 op, .int .i64 ia, .int .i64 ib, .int .i64 vk, .int .i64 vn, .string vs, .string s] :=
        ⟨_, rfl, ((Below.refl _ _).alloc (Nat.le_refl _) _), (blk_new_at w (w.heap.size) _ _ (by simp))⟩
      rw [← hW_]
      clear hW_
      refine (rtwo_ op true _ HT.out).mono ?_
      rintro e w1 ⟨rfl, rfl⟩
      have q1 := seven B1 (Below.refl _ _)
      go_wp2_with fail
      refine (rwants_ op _ _ HW.out).mono ?_
      rintro e w1 ⟨rfl, rfl⟩
      unfold two
      have qa : W.cell? (ad.add ia) = some (.int .i64 0) := (hbW.cell (by rw [block_of_add]; exact hlt)).trans ha2
      have qb : W.cell? (ad.add ib) = some (.int .i64 1) := (hbW.cell (by rw [block_of_add]; exact hlt)).trans hb2
      go_wp2_with fail
      refine (rtwo_ op true _ HT.out).mono ?_
      rintro e w1 ⟨rfl, rfl⟩
      go_wp2_with fail
      refine (rtwo_ op true _ HT.out).mono ?_
      rintro e w1 ⟨rfl, rfl⟩
      go_wp2
      go_ret2
      exact ⟨rfl, hbW⟩
    · have e : madeV op 0 y = (0, 3) := (made_w op 0 y 1 1 (by have := HO.out; omega) HW.out (by decide)).trans (if_neg (by omega))
      rw [e]
      clear e
      have k1 : (y != 0) = true := by simpa using hy
      have k2 : (y != 1) = true := by simpa using hy2
      clear hy hy2
      go_enter Try.func37, Try.ntmps37
      go_wp2_with fail
      obtain ⟨W, hW_, hbW, B1⟩ : ∃ W_, W_ = (w.alloc (.cells #[.int .i64 op, .int .i64 ia, .int .i64 ib, .int .i64 vk, .int .i64 vn, .string vs, .string s] 36)) ∧ Below w.heap.size w W_ ∧ Blk W_ (w.heap.size) 36 #[.int .i64 op, .int .i64 ia, .int .i64 ib, .int .i64 vk, .int .i64 vn, .string vs, .string s] :=
        ⟨_, rfl, ((Below.refl _ _).alloc (Nat.le_refl _) _), (blk_new_at w (w.heap.size) _ _ (by simp))⟩
      rw [← hW_]
      clear hW_
      refine (rtwo_ op true _ HT.out).mono ?_
      rintro e w1 ⟨rfl, rfl⟩
      have q1 := seven B1 (Below.refl _ _)
      go_wp2_with fail
      refine (rwants_ op _ _ HW.out).mono ?_
      rintro e w1 ⟨rfl, rfl⟩
      unfold two
      have qa : W.cell? (ad.add ia) = some (.int .i64 0) := (hbW.cell (by rw [block_of_add]; exact hlt)).trans ha2
      have qb : W.cell? (ad.add ib) = some (.int .i64 y) := (hbW.cell (by rw [block_of_add]; exact hlt)).trans hb2
      go_wp2_with fail
      refine (rtwo_ op true _ HT.out).mono ?_
      rintro e w1 ⟨rfl, rfl⟩
      go_wp2_with fail
      go_ret2
      exact ⟨rfl, hbW⟩
  · rcases (show y = 0 ∨ y = 1 ∨ (y ≠ 0 ∧ y ≠ 1) by omega) with rfl | rfl | ⟨hy, hy2⟩
    · have e : madeV op 1 0 = (1, 0) := (made_w op 1 0 1 1 (by have := HO.out; omega) HW.out (by decide)).trans (if_pos (by omega))
      rw [e]
      clear e
      go_enter Try.func37, Try.ntmps37
      go_wp2_with fail
      obtain ⟨W, hW_, hbW, B1⟩ : ∃ W_, W_ = (w.alloc (.cells #[.int .i64 op, .int .i64 ia, .int .i64 ib, .int .i64 vk, .int .i64 vn, .string vs, .string s] 36)) ∧ Below w.heap.size w W_ ∧ Blk W_ (w.heap.size) 36 #[.int .i64 op, .int .i64 ia, .int .i64 ib, .int .i64 vk, .int .i64 vn, .string vs, .string s] :=
        ⟨_, rfl, ((Below.refl _ _).alloc (Nat.le_refl _) _), (blk_new_at w (w.heap.size) _ _ (by simp))⟩
      rw [← hW_]
      clear hW_
      refine (rtwo_ op true _ HT.out).mono ?_
      rintro e w1 ⟨rfl, rfl⟩
      have q1 := seven B1 (Below.refl _ _)
      go_wp2_with fail
      refine (rwants_ op _ _ HW.out).mono ?_
      rintro e w1 ⟨rfl, rfl⟩
      unfold two
      have qa : W.cell? (ad.add ia) = some (.int .i64 1) := (hbW.cell (by rw [block_of_add]; exact hlt)).trans ha2
      have qb : W.cell? (ad.add ib) = some (.int .i64 0) := (hbW.cell (by rw [block_of_add]; exact hlt)).trans hb2
      go_wp2_with fail
      refine (rtwo_ op true _ HT.out).mono ?_
      rintro e w1 ⟨rfl, rfl⟩
      go_wp2_with fail
      refine (rtwo_ op true _ HT.out).mono ?_
      rintro e w1 ⟨rfl, rfl⟩
      go_wp2
      go_ret2
      exact ⟨rfl, hbW⟩
    · have e : madeV op 1 1 = (1, 0) := (made_w op 1 1 1 1 (by have := HO.out; omega) HW.out (by decide)).trans (if_pos (by omega))
      rw [e]
      clear e
      go_enter Try.func37, Try.ntmps37
      go_wp2_with fail
      obtain ⟨W, hW_, hbW, B1⟩ : ∃ W_, W_ = (w.alloc (.cells #[.int .i64 op, .int .i64 ia, .int .i64 ib, .int .i64 vk, .int .i64 vn, .string vs, .string s] 36)) ∧ Below w.heap.size w W_ ∧ Blk W_ (w.heap.size) 36 #[.int .i64 op, .int .i64 ia, .int .i64 ib, .int .i64 vk, .int .i64 vn, .string vs, .string s] :=
        ⟨_, rfl, ((Below.refl _ _).alloc (Nat.le_refl _) _), (blk_new_at w (w.heap.size) _ _ (by simp))⟩
      rw [← hW_]
      clear hW_
      refine (rtwo_ op true _ HT.out).mono ?_
      rintro e w1 ⟨rfl, rfl⟩
      have q1 := seven B1 (Below.refl _ _)
      go_wp2_with fail
      refine (rwants_ op _ _ HW.out).mono ?_
      rintro e w1 ⟨rfl, rfl⟩
      unfold two
      have qa : W.cell? (ad.add ia) = some (.int .i64 1) := (hbW.cell (by rw [block_of_add]; exact hlt)).trans ha2
      have qb : W.cell? (ad.add ib) = some (.int .i64 1) := (hbW.cell (by rw [block_of_add]; exact hlt)).trans hb2
      go_wp2_with fail
      refine (rtwo_ op true _ HT.out).mono ?_
      rintro e w1 ⟨rfl, rfl⟩
      go_wp2_with fail
      refine (rtwo_ op true _ HT.out).mono ?_
      rintro e w1 ⟨rfl, rfl⟩
      go_wp2
      go_ret2
      exact ⟨rfl, hbW⟩
    · have e : madeV op 1 y = (0, 3) := (made_w op 1 y 1 1 (by have := HO.out; omega) HW.out (by decide)).trans (if_neg (by omega))
      rw [e]
      clear e
      have k1 : (y != 0) = true := by simpa using hy
      have k2 : (y != 1) = true := by simpa using hy2
      clear hy hy2
      go_enter Try.func37, Try.ntmps37
      go_wp2_with fail
      obtain ⟨W, hW_, hbW, B1⟩ : ∃ W_, W_ = (w.alloc (.cells #[.int .i64 op, .int .i64 ia, .int .i64 ib, .int .i64 vk, .int .i64 vn, .string vs, .string s] 36)) ∧ Below w.heap.size w W_ ∧ Blk W_ (w.heap.size) 36 #[.int .i64 op, .int .i64 ia, .int .i64 ib, .int .i64 vk, .int .i64 vn, .string vs, .string s] :=
        ⟨_, rfl, ((Below.refl _ _).alloc (Nat.le_refl _) _), (blk_new_at w (w.heap.size) _ _ (by simp))⟩
      rw [← hW_]
      clear hW_
      refine (rtwo_ op true _ HT.out).mono ?_
      rintro e w1 ⟨rfl, rfl⟩
      have q1 := seven B1 (Below.refl _ _)
      go_wp2_with fail
      refine (rwants_ op _ _ HW.out).mono ?_
      rintro e w1 ⟨rfl, rfl⟩
      unfold two
      have qa : W.cell? (ad.add ia) = some (.int .i64 1) := (hbW.cell (by rw [block_of_add]; exact hlt)).trans ha2
      have qb : W.cell? (ad.add ib) = some (.int .i64 y) := (hbW.cell (by rw [block_of_add]; exact hlt)).trans hb2
      go_wp2_with fail
      refine (rtwo_ op true _ HT.out).mono ?_
      rintro e w1 ⟨rfl, rfl⟩
      go_wp2_with fail
      go_ret2
      exact ⟨rfl, hbW⟩
  · have e : madeV op x y = (0, 3) := (made_w op x y 1 1 (by have := HO.out; omega) HW.out (by decide)).trans (if_neg (by omega))
    rw [e]
    clear e
    have k1 : (x != 0) = true := by simpa using hx
    have k2 : (x != 1) = true := by simpa using hx2
    clear hx hx2
    go_enter Try.func37, Try.ntmps37
    go_wp2_with fail
    obtain ⟨W, hW_, hbW, B1⟩ : ∃ W_, W_ = (w.alloc (.cells #[.int .i64 op, .int .i64 ia, .int .i64 ib, .int .i64 vk, .int .i64 vn, .string vs, .string s] 36)) ∧ Below w.heap.size w W_ ∧ Blk W_ (w.heap.size) 36 #[.int .i64 op, .int .i64 ia, .int .i64 ib, .int .i64 vk, .int .i64 vn, .string vs, .string s] :=
      ⟨_, rfl, ((Below.refl _ _).alloc (Nat.le_refl _) _), (blk_new_at w (w.heap.size) _ _ (by simp))⟩
    rw [← hW_]
    clear hW_
    refine (rtwo_ op true _ HT.out).mono ?_
    rintro e w1 ⟨rfl, rfl⟩
    have q1 := seven B1 (Below.refl _ _)
    go_wp2_with fail
    refine (rwants_ op _ _ HW.out).mono ?_
    rintro e w1 ⟨rfl, rfl⟩
    unfold two
    have qa : W.cell? (ad.add ia) = some (.int .i64 x) := (hbW.cell (by rw [block_of_add]; exact hlt)).trans ha2
    have qb : W.cell? (ad.add ib) = some (.int .i64 y) := (hbW.cell (by rw [block_of_add]; exact hlt)).trans hb2
    go_wp2_with fail
    refine (rtwo_ op true _ HT.out).mono ?_
    rintro e w1 ⟨rfl, rfl⟩
    go_wp2_with fail
    go_ret2
    exact ⟨rfl, hbW⟩
set_option maxRecDepth 1000000 in
set_option maxHeartbeats 4000000 in
theorem rkind_cmp (op vk vn : Int) (ia ib : Nat) (vs s : ByteArray) (ad : Addr) (m c : Nat) (C : Value) (x y : Int) (w : World) (hop : 8 ≤ op ∧ op ≤ 13) (ham : ia < m) (hm : m < 1000) (hlt : ad.block < w.heap.size) (ha2 : w.cell? (ad.add ia) = some (.int .i64 x)) (hbm : ib < m) (hb2 : w.cell? (ad.add ib) = some (.int .i64 y)) :
    Calls Try.prog 37 #[.agg #[.int .i64 op, .int .i64 ia, .int .i64 ib, .int .i64 vk, .int .i64 vn, .string vs, .string s], .slice (some ad) m c, C] w fun e w' => e = .returned (two (madeV op x y)) ∧ Below w.heap.size w w' := by
  have h1 : decide (op < 1) = false := by simp; omega
  have h2 : decide (16 < op) = false := by simp; omega
  have h3 : decide (2 < op) = true := by simp; omega
  have h4 : (op == 1) = false := by simp; omega
  have h5 : (op == 2) = false := by simp; omega
  have h6 : decide (m ≤ ia) = false := by simp; omega
  have h66 : decide ((m : Int) ≤ (ia : Int)) = false := by simp; omega
  have ham2 : (ia : Int) < (m : Int) := by omega
  have h7 : decide (m ≤ ib) = false := by simp; omega
  have h77 : decide ((m : Int) ≤ (ib : Int)) = false := by simp; omega
  have hbm2 : (ib : Int) < (m : Int) := by omega
  have HT := Lib.hid (show decide (6 ≤ op ∧ op ≤ 16) = true by simp; omega)
  have HW := Lib.hid (show wantsV op = (0, 1) by unfold wantsV; rw [if_neg (by omega), if_neg (by omega)])
  have HO := Lib.hid hop
  clear hop
  rcases (show x = 0 ∨ (x ≠ 0 ∧ y = 0) ∨ (x ≠ 0 ∧ y = x) ∨ (x ≠ 0 ∧ y ≠ 0 ∧ x ≠ y) by omega) with rfl | ⟨hx, rfl⟩ | ⟨hx, rfl⟩ | ⟨hx, hy, hxy⟩
  · have e : madeV op 0 y = (1, 0) := (made_0 op 0 y HO.out).trans (if_pos (by omega))
    rw [e]
    clear e
    go_enter Try.func37, Try.ntmps37
    go_wp2_with fail
    obtain ⟨W, hW_, hbW, B1⟩ : ∃ W_, W_ = (w.alloc (.cells #[.int .i64 op, .int .i64 ia, .int .i64 ib, .int .i64 vk, .int .i64 vn, .string vs, .string s] 36)) ∧ Below w.heap.size w W_ ∧ Blk W_ (w.heap.size) 36 #[.int .i64 op, .int .i64 ia, .int .i64 ib, .int .i64 vk, .int .i64 vn, .string vs, .string s] :=
      ⟨_, rfl, ((Below.refl _ _).alloc (Nat.le_refl _) _), (blk_new_at w (w.heap.size) _ _ (by simp))⟩
    rw [← hW_]
    clear hW_
    refine (rtwo_ op true _ HT.out).mono ?_
    rintro e w1 ⟨rfl, rfl⟩
    have q1 := seven B1 (Below.refl _ _)
    go_wp2_with fail
    refine (rwants_ op _ _ HW.out).mono ?_
    rintro e w1 ⟨rfl, rfl⟩
    unfold two
    have qa : W.cell? (ad.add ia) = some (.int .i64 0) := (hbW.cell (by rw [block_of_add]; exact hlt)).trans ha2
    have qb : W.cell? (ad.add ib) = some (.int .i64 y) := (hbW.cell (by rw [block_of_add]; exact hlt)).trans hb2
    go_wp2_with fail
    refine (rtwo_ op true _ HT.out).mono ?_
    rintro e w1 ⟨rfl, rfl⟩
    go_wp2_with fail
    refine (rtwo_ op true _ HT.out).mono ?_
    rintro e w1 ⟨rfl, rfl⟩
    go_wp2
    go_ret2
    exact ⟨rfl, hbW⟩
  · have e : madeV op x 0 = (1, 0) := (made_0 op x 0 HO.out).trans (if_pos (by omega))
    rw [e]
    clear e
    have k1 : (x != 0) = true := by simpa using hx
    clear hx
    go_enter Try.func37, Try.ntmps37
    go_wp2_with fail
    obtain ⟨W, hW_, hbW, B1⟩ : ∃ W_, W_ = (w.alloc (.cells #[.int .i64 op, .int .i64 ia, .int .i64 ib, .int .i64 vk, .int .i64 vn, .string vs, .string s] 36)) ∧ Below w.heap.size w W_ ∧ Blk W_ (w.heap.size) 36 #[.int .i64 op, .int .i64 ia, .int .i64 ib, .int .i64 vk, .int .i64 vn, .string vs, .string s] :=
      ⟨_, rfl, ((Below.refl _ _).alloc (Nat.le_refl _) _), (blk_new_at w (w.heap.size) _ _ (by simp))⟩
    rw [← hW_]
    clear hW_
    refine (rtwo_ op true _ HT.out).mono ?_
    rintro e w1 ⟨rfl, rfl⟩
    have q1 := seven B1 (Below.refl _ _)
    go_wp2_with fail
    refine (rwants_ op _ _ HW.out).mono ?_
    rintro e w1 ⟨rfl, rfl⟩
    unfold two
    have qa : W.cell? (ad.add ia) = some (.int .i64 x) := (hbW.cell (by rw [block_of_add]; exact hlt)).trans ha2
    have qb : W.cell? (ad.add ib) = some (.int .i64 0) := (hbW.cell (by rw [block_of_add]; exact hlt)).trans hb2
    go_wp2_with fail
    refine (rtwo_ op true _ HT.out).mono ?_
    rintro e w1 ⟨rfl, rfl⟩
    go_wp2_with fail
    refine (rtwo_ op true _ HT.out).mono ?_
    rintro e w1 ⟨rfl, rfl⟩
    go_wp2
    go_ret2
    exact ⟨rfl, hbW⟩
  · have e : madeV op y y = (1, 0) := (made_0 op y y HO.out).trans (if_pos (by omega))
    rw [e]
    clear e
    have k1 : (y != 0) = true := by simpa using hx
    have k2 : (y != y) = false := by simp
    clear hx
    go_enter Try.func37, Try.ntmps37
    go_wp2_with fail
    obtain ⟨W, hW_, hbW, B1⟩ : ∃ W_, W_ = (w.alloc (.cells #[.int .i64 op, .int .i64 ia, .int .i64 ib, .int .i64 vk, .int .i64 vn, .string vs, .string s] 36)) ∧ Below w.heap.size w W_ ∧ Blk W_ (w.heap.size) 36 #[.int .i64 op, .int .i64 ia, .int .i64 ib, .int .i64 vk, .int .i64 vn, .string vs, .string s] :=
      ⟨_, rfl, ((Below.refl _ _).alloc (Nat.le_refl _) _), (blk_new_at w (w.heap.size) _ _ (by simp))⟩
    rw [← hW_]
    clear hW_
    refine (rtwo_ op true _ HT.out).mono ?_
    rintro e w1 ⟨rfl, rfl⟩
    have q1 := seven B1 (Below.refl _ _)
    go_wp2_with fail
    refine (rwants_ op _ _ HW.out).mono ?_
    rintro e w1 ⟨rfl, rfl⟩
    unfold two
    have qa : W.cell? (ad.add ia) = some (.int .i64 y) := (hbW.cell (by rw [block_of_add]; exact hlt)).trans ha2
    have qb : W.cell? (ad.add ib) = some (.int .i64 y) := (hbW.cell (by rw [block_of_add]; exact hlt)).trans hb2
    go_wp2_with fail
    refine (rtwo_ op true _ HT.out).mono ?_
    rintro e w1 ⟨rfl, rfl⟩
    go_wp2_with fail
    refine (rtwo_ op true _ HT.out).mono ?_
    rintro e w1 ⟨rfl, rfl⟩
    go_wp2
    go_ret2
    exact ⟨rfl, hbW⟩
  · have e : madeV op x y = (0, 3) := (made_0 op x y HO.out).trans (if_neg (by omega))
    rw [e]
    clear e
    have k1 : (x != 0) = true := by simpa using hx
    have k2 : (y != 0) = true := by simpa using hy
    have k3 : (x != y) = true := by simpa using hxy
    clear hx hy hxy
    go_enter Try.func37, Try.ntmps37
    go_wp2_with fail
    obtain ⟨W, hW_, hbW, B1⟩ : ∃ W_, W_ = (w.alloc (.cells #[.int .i64 op, .int .i64 ia, .int .i64 ib, .int .i64 vk, .int .i64 vn, .string vs, .string s] 36)) ∧ Below w.heap.size w W_ ∧ Blk W_ (w.heap.size) 36 #[.int .i64 op, .int .i64 ia, .int .i64 ib, .int .i64 vk, .int .i64 vn, .string vs, .string s] :=
      ⟨_, rfl, ((Below.refl _ _).alloc (Nat.le_refl _) _), (blk_new_at w (w.heap.size) _ _ (by simp))⟩
    rw [← hW_]
    clear hW_
    refine (rtwo_ op true _ HT.out).mono ?_
    rintro e w1 ⟨rfl, rfl⟩
    have q1 := seven B1 (Below.refl _ _)
    go_wp2_with fail
    refine (rwants_ op _ _ HW.out).mono ?_
    rintro e w1 ⟨rfl, rfl⟩
    unfold two
    have qa : W.cell? (ad.add ia) = some (.int .i64 x) := (hbW.cell (by rw [block_of_add]; exact hlt)).trans ha2
    have qb : W.cell? (ad.add ib) = some (.int .i64 y) := (hbW.cell (by rw [block_of_add]; exact hlt)).trans hb2
    go_wp2_with fail
    refine (rtwo_ op true _ HT.out).mono ?_
    rintro e w1 ⟨rfl, rfl⟩
    go_wp2_with fail
    refine (rtwo_ op true _ HT.out).mono ?_
    rintro e w1 ⟨rfl, rfl⟩
    go_wp2
    go_ret2
    exact ⟨rfl, hbW⟩
set_option maxRecDepth 1000000 in
set_option maxHeartbeats 4000000 in
theorem rkind_num (op vk vn : Int) (ia ib : Nat) (vs s : ByteArray) (ad : Addr) (m c : Nat) (C : Value) (x y : Int) (w : World) (hop : op = 14 ∨ op = 15 ∨ op = 16) (ham : ia < m) (hm : m < 1000) (hlt : ad.block < w.heap.size) (ha2 : w.cell? (ad.add ia) = some (.int .i64 x)) (hbm : ib < m) (hb2 : w.cell? (ad.add ib) = some (.int .i64 y)) :
    Calls Try.prog 37 #[.agg #[.int .i64 op, .int .i64 ia, .int .i64 ib, .int .i64 vk, .int .i64 vn, .string vs, .string s], .slice (some ad) m c, C] w fun e w' => e = .returned (two (madeV op x y)) ∧ Below w.heap.size w w' := by
  have h1 : decide (op < 1) = false := by simp; omega
  have h2 : decide (16 < op) = false := by simp; omega
  have h3 : decide (2 < op) = true := by simp; omega
  have h4 : (op == 1) = false := by simp; omega
  have h5 : (op == 2) = false := by simp; omega
  have h6 : decide (m ≤ ia) = false := by simp; omega
  have h66 : decide ((m : Int) ≤ (ia : Int)) = false := by simp; omega
  have ham2 : (ia : Int) < (m : Int) := by omega
  have h7 : decide (m ≤ ib) = false := by simp; omega
  have h77 : decide ((m : Int) ≤ (ib : Int)) = false := by simp; omega
  have hbm2 : (ib : Int) < (m : Int) := by omega
  have HT := Lib.hid (show decide (6 ≤ op ∧ op ≤ 16) = true by simp; omega)
  have HW := Lib.hid (show wantsV op = (2, 2) by unfold wantsV; rw [if_neg (by omega), if_pos (by omega)])
  have HO := Lib.hid hop
  clear hop
  rcases (show x = 0 ∨ x = 2 ∨ (x ≠ 0 ∧ x ≠ 2) by omega) with rfl | rfl | ⟨hx, hx2⟩
  · rcases (show y = 0 ∨ y = 2 ∨ (y ≠ 0 ∧ y ≠ 2) by omega) with rfl | rfl | ⟨hy, hy2⟩
    · have e : madeV op 0 0 = (2, 0) := (made_w op 0 0 2 2 (by have := HO.out; omega) HW.out (by decide)).trans (if_pos (by omega))
      rw [e]
      clear e
      go_enter Try.func37, Try.ntmps37
      go_wp2_with fail
      obtain ⟨W, hW_, hbW, B1⟩ : ∃ W_, W_ = (w.alloc (.cells #[.int .i64 op, .int .i64 ia, .int .i64 ib, .int .i64 vk, .int .i64 vn, .string vs, .string s] 36)) ∧ Below w.heap.size w W_ ∧ Blk W_ (w.heap.size) 36 #[.int .i64 op, .int .i64 ia, .int .i64 ib, .int .i64 vk, .int .i64 vn, .string vs, .string s] :=
        ⟨_, rfl, ((Below.refl _ _).alloc (Nat.le_refl _) _), (blk_new_at w (w.heap.size) _ _ (by simp))⟩
      rw [← hW_]
      clear hW_
      refine (rtwo_ op true _ HT.out).mono ?_
      rintro e w1 ⟨rfl, rfl⟩
      have q1 := seven B1 (Below.refl _ _)
      go_wp2_with fail
      refine (rwants_ op _ _ HW.out).mono ?_
      rintro e w1 ⟨rfl, rfl⟩
      unfold two
      have qa : W.cell? (ad.add ia) = some (.int .i64 0) := (hbW.cell (by rw [block_of_add]; exact hlt)).trans ha2
      have qb : W.cell? (ad.add ib) = some (.int .i64 0) := (hbW.cell (by rw [block_of_add]; exact hlt)).trans hb2
      go_wp2_with fail
      refine (rtwo_ op true _ HT.out).mono ?_
      rintro e w1 ⟨rfl, rfl⟩
      go_wp2_with fail
      refine (rtwo_ op true _ HT.out).mono ?_
      rintro e w1 ⟨rfl, rfl⟩
      go_wp2
      go_ret2
      exact ⟨rfl, hbW⟩
    · have e : madeV op 0 2 = (2, 0) := (made_w op 0 2 2 2 (by have := HO.out; omega) HW.out (by decide)).trans (if_pos (by omega))
      rw [e]
      clear e
      go_enter Try.func37, Try.ntmps37
      go_wp2_with fail
      obtain ⟨W, hW_, hbW, B1⟩ : ∃ W_, W_ = (w.alloc (.cells #[.int .i64 op, .int .i64 ia, .int .i64 ib, .int .i64 vk, .int .i64 vn, .string vs, .string s] 36)) ∧ Below w.heap.size w W_ ∧ Blk W_ (w.heap.size) 36 #[.int .i64 op, .int .i64 ia, .int .i64 ib, .int .i64 vk, .int .i64 vn, .string vs, .string s] :=
        ⟨_, rfl, ((Below.refl _ _).alloc (Nat.le_refl _) _), (blk_new_at w (w.heap.size) _ _ (by simp))⟩
      rw [← hW_]
      clear hW_
      refine (rtwo_ op true _ HT.out).mono ?_
      rintro e w1 ⟨rfl, rfl⟩
      have q1 := seven B1 (Below.refl _ _)
      go_wp2_with fail
      refine (rwants_ op _ _ HW.out).mono ?_
      rintro e w1 ⟨rfl, rfl⟩
      unfold two
      have qa : W.cell? (ad.add ia) = some (.int .i64 0) := (hbW.cell (by rw [block_of_add]; exact hlt)).trans ha2
      have qb : W.cell? (ad.add ib) = some (.int .i64 2) := (hbW.cell (by rw [block_of_add]; exact hlt)).trans hb2
      go_wp2_with fail
      refine (rtwo_ op true _ HT.out).mono ?_
      rintro e w1 ⟨rfl, rfl⟩
      go_wp2_with fail
      refine (rtwo_ op true _ HT.out).mono ?_
      rintro e w1 ⟨rfl, rfl⟩
      go_wp2
      go_ret2
      exact ⟨rfl, hbW⟩
    · have e : madeV op 0 y = (0, 3) := (made_w op 0 y 2 2 (by have := HO.out; omega) HW.out (by decide)).trans (if_neg (by omega))
      rw [e]
      clear e
      have k1 : (y != 0) = true := by simpa using hy
      have k2 : (y != 2) = true := by simpa using hy2
      clear hy hy2
      go_enter Try.func37, Try.ntmps37
      go_wp2_with fail
      obtain ⟨W, hW_, hbW, B1⟩ : ∃ W_, W_ = (w.alloc (.cells #[.int .i64 op, .int .i64 ia, .int .i64 ib, .int .i64 vk, .int .i64 vn, .string vs, .string s] 36)) ∧ Below w.heap.size w W_ ∧ Blk W_ (w.heap.size) 36 #[.int .i64 op, .int .i64 ia, .int .i64 ib, .int .i64 vk, .int .i64 vn, .string vs, .string s] :=
        ⟨_, rfl, ((Below.refl _ _).alloc (Nat.le_refl _) _), (blk_new_at w (w.heap.size) _ _ (by simp))⟩
      rw [← hW_]
      clear hW_
      refine (rtwo_ op true _ HT.out).mono ?_
      rintro e w1 ⟨rfl, rfl⟩
      have q1 := seven B1 (Below.refl _ _)
      go_wp2_with fail
      refine (rwants_ op _ _ HW.out).mono ?_
      rintro e w1 ⟨rfl, rfl⟩
      unfold two
      have qa : W.cell? (ad.add ia) = some (.int .i64 0) := (hbW.cell (by rw [block_of_add]; exact hlt)).trans ha2
      have qb : W.cell? (ad.add ib) = some (.int .i64 y) := (hbW.cell (by rw [block_of_add]; exact hlt)).trans hb2
      go_wp2_with fail
      refine (rtwo_ op true _ HT.out).mono ?_
      rintro e w1 ⟨rfl, rfl⟩
      go_wp2_with fail
      go_ret2
      exact ⟨rfl, hbW⟩
  · rcases (show y = 0 ∨ y = 2 ∨ (y ≠ 0 ∧ y ≠ 2) by omega) with rfl | rfl | ⟨hy, hy2⟩
    · have e : madeV op 2 0 = (2, 0) := (made_w op 2 0 2 2 (by have := HO.out; omega) HW.out (by decide)).trans (if_pos (by omega))
      rw [e]
      clear e
      go_enter Try.func37, Try.ntmps37
      go_wp2_with fail
      obtain ⟨W, hW_, hbW, B1⟩ : ∃ W_, W_ = (w.alloc (.cells #[.int .i64 op, .int .i64 ia, .int .i64 ib, .int .i64 vk, .int .i64 vn, .string vs, .string s] 36)) ∧ Below w.heap.size w W_ ∧ Blk W_ (w.heap.size) 36 #[.int .i64 op, .int .i64 ia, .int .i64 ib, .int .i64 vk, .int .i64 vn, .string vs, .string s] :=
        ⟨_, rfl, ((Below.refl _ _).alloc (Nat.le_refl _) _), (blk_new_at w (w.heap.size) _ _ (by simp))⟩
      rw [← hW_]
      clear hW_
      refine (rtwo_ op true _ HT.out).mono ?_
      rintro e w1 ⟨rfl, rfl⟩
      have q1 := seven B1 (Below.refl _ _)
      go_wp2_with fail
      refine (rwants_ op _ _ HW.out).mono ?_
      rintro e w1 ⟨rfl, rfl⟩
      unfold two
      have qa : W.cell? (ad.add ia) = some (.int .i64 2) := (hbW.cell (by rw [block_of_add]; exact hlt)).trans ha2
      have qb : W.cell? (ad.add ib) = some (.int .i64 0) := (hbW.cell (by rw [block_of_add]; exact hlt)).trans hb2
      go_wp2_with fail
      refine (rtwo_ op true _ HT.out).mono ?_
      rintro e w1 ⟨rfl, rfl⟩
      go_wp2_with fail
      refine (rtwo_ op true _ HT.out).mono ?_
      rintro e w1 ⟨rfl, rfl⟩
      go_wp2
      go_ret2
      exact ⟨rfl, hbW⟩
    · have e : madeV op 2 2 = (2, 0) := (made_w op 2 2 2 2 (by have := HO.out; omega) HW.out (by decide)).trans (if_pos (by omega))
      rw [e]
      clear e
      go_enter Try.func37, Try.ntmps37
      go_wp2_with fail
      obtain ⟨W, hW_, hbW, B1⟩ : ∃ W_, W_ = (w.alloc (.cells #[.int .i64 op, .int .i64 ia, .int .i64 ib, .int .i64 vk, .int .i64 vn, .string vs, .string s] 36)) ∧ Below w.heap.size w W_ ∧ Blk W_ (w.heap.size) 36 #[.int .i64 op, .int .i64 ia, .int .i64 ib, .int .i64 vk, .int .i64 vn, .string vs, .string s] :=
        ⟨_, rfl, ((Below.refl _ _).alloc (Nat.le_refl _) _), (blk_new_at w (w.heap.size) _ _ (by simp))⟩
      rw [← hW_]
      clear hW_
      refine (rtwo_ op true _ HT.out).mono ?_
      rintro e w1 ⟨rfl, rfl⟩
      have q1 := seven B1 (Below.refl _ _)
      go_wp2_with fail
      refine (rwants_ op _ _ HW.out).mono ?_
      rintro e w1 ⟨rfl, rfl⟩
      unfold two
      have qa : W.cell? (ad.add ia) = some (.int .i64 2) := (hbW.cell (by rw [block_of_add]; exact hlt)).trans ha2
      have qb : W.cell? (ad.add ib) = some (.int .i64 2) := (hbW.cell (by rw [block_of_add]; exact hlt)).trans hb2
      go_wp2_with fail
      refine (rtwo_ op true _ HT.out).mono ?_
      rintro e w1 ⟨rfl, rfl⟩
      go_wp2_with fail
      refine (rtwo_ op true _ HT.out).mono ?_
      rintro e w1 ⟨rfl, rfl⟩
      go_wp2
      go_ret2
      exact ⟨rfl, hbW⟩
    · have e : madeV op 2 y = (0, 3) := (made_w op 2 y 2 2 (by have := HO.out; omega) HW.out (by decide)).trans (if_neg (by omega))
      rw [e]
      clear e
      have k1 : (y != 0) = true := by simpa using hy
      have k2 : (y != 2) = true := by simpa using hy2
      clear hy hy2
      go_enter Try.func37, Try.ntmps37
      go_wp2_with fail
      obtain ⟨W, hW_, hbW, B1⟩ : ∃ W_, W_ = (w.alloc (.cells #[.int .i64 op, .int .i64 ia, .int .i64 ib, .int .i64 vk, .int .i64 vn, .string vs, .string s] 36)) ∧ Below w.heap.size w W_ ∧ Blk W_ (w.heap.size) 36 #[.int .i64 op, .int .i64 ia, .int .i64 ib, .int .i64 vk, .int .i64 vn, .string vs, .string s] :=
        ⟨_, rfl, ((Below.refl _ _).alloc (Nat.le_refl _) _), (blk_new_at w (w.heap.size) _ _ (by simp))⟩
      rw [← hW_]
      clear hW_
      refine (rtwo_ op true _ HT.out).mono ?_
      rintro e w1 ⟨rfl, rfl⟩
      have q1 := seven B1 (Below.refl _ _)
      go_wp2_with fail
      refine (rwants_ op _ _ HW.out).mono ?_
      rintro e w1 ⟨rfl, rfl⟩
      unfold two
      have qa : W.cell? (ad.add ia) = some (.int .i64 2) := (hbW.cell (by rw [block_of_add]; exact hlt)).trans ha2
      have qb : W.cell? (ad.add ib) = some (.int .i64 y) := (hbW.cell (by rw [block_of_add]; exact hlt)).trans hb2
      go_wp2_with fail
      refine (rtwo_ op true _ HT.out).mono ?_
      rintro e w1 ⟨rfl, rfl⟩
      go_wp2_with fail
      go_ret2
      exact ⟨rfl, hbW⟩
  · have e : madeV op x y = (0, 3) := (made_w op x y 2 2 (by have := HO.out; omega) HW.out (by decide)).trans (if_neg (by omega))
    rw [e]
    clear e
    have k1 : (x != 0) = true := by simpa using hx
    have k2 : (x != 2) = true := by simpa using hx2
    clear hx hx2
    go_enter Try.func37, Try.ntmps37
    go_wp2_with fail
    obtain ⟨W, hW_, hbW, B1⟩ : ∃ W_, W_ = (w.alloc (.cells #[.int .i64 op, .int .i64 ia, .int .i64 ib, .int .i64 vk, .int .i64 vn, .string vs, .string s] 36)) ∧ Below w.heap.size w W_ ∧ Blk W_ (w.heap.size) 36 #[.int .i64 op, .int .i64 ia, .int .i64 ib, .int .i64 vk, .int .i64 vn, .string vs, .string s] :=
      ⟨_, rfl, ((Below.refl _ _).alloc (Nat.le_refl _) _), (blk_new_at w (w.heap.size) _ _ (by simp))⟩
    rw [← hW_]
    clear hW_
    refine (rtwo_ op true _ HT.out).mono ?_
    rintro e w1 ⟨rfl, rfl⟩
    have q1 := seven B1 (Below.refl _ _)
    go_wp2_with fail
    refine (rwants_ op _ _ HW.out).mono ?_
    rintro e w1 ⟨rfl, rfl⟩
    unfold two
    have qa : W.cell? (ad.add ia) = some (.int .i64 x) := (hbW.cell (by rw [block_of_add]; exact hlt)).trans ha2
    have qb : W.cell? (ad.add ib) = some (.int .i64 y) := (hbW.cell (by rw [block_of_add]; exact hlt)).trans hb2
    go_wp2_with fail
    refine (rtwo_ op true _ HT.out).mono ?_
    rintro e w1 ⟨rfl, rfl⟩
    go_wp2_with fail
    go_ret2
    exact ⟨rfl, hbW⟩
end Go.Proofs.Ytfgmlgflfagdjaa.ev
