/- Contract: kind. -/
import Derived.Test.YtfgmlgflfagdjaaE5
namespace Go.Proofs.Ytfgmlgflfagdjaa.ev
open Go.ChangeShapes Go.WideShapes Go.ChangeAt Go.RowKit Go.Proofs.Ytfgmlgflfagdjaa.lib Go.Proofs.Ytfgmlgflfagdjaa.val
set_option linter.unusedVariables false

theorem kind_none (n : Nd) (at_ : Int) (L C : Value) (w : World) (hk : partsV n.op = -1) :
    Calls Try.prog 36 #[n.val, .int .i64 at_, L, C] w fun e w' => e = .returned (two (0, 1)) ∧ Below w.heap.size w w' := by
  obtain ⟨op, a, b, ⟨vk, vn, vs⟩, s⟩ := n
  replace hk : partsV op = -1 := hk
  unfold Nd.val Nd.arr
  go_enter Try.func36, Try.ntmps36
  go_wp2_with fail
  obtain ⟨W, hW_, hbW, B1⟩ : ∃ W_, W_ = (w.alloc (.cells #[.int .i64 op, .int .i64 a, .int .i64 b, .int .i64 vk, .int .i64 vn, .string vs, .string s] 36)) ∧ Below w.heap.size w W_ ∧ Blk W_ (w.heap.size) 36 #[.int .i64 op, .int .i64 a, .int .i64 b, .int .i64 vk, .int .i64 vn, .string vs, .string s] :=
    ⟨_, rfl, ((Below.refl _ _).alloc (Nat.le_refl _) _), (blk_new_at w (w.heap.size) _ _ (by simp))⟩
  rw [← hW_]
  clear hW_
  have q1 := seven B1 (Below.refl _ _)
  go_wp2_with fail
  clear q1
  refine (partsr op _ hk _).mono ?_
  rintro e w1 ⟨rfl, rfl⟩
  go_wp2
  go_ret2
  exact ⟨rfl, hbW⟩

theorem kind_val (n : Nd) (at_ : Int) (L C : Value) (w : World) (hop : n.op = 1) (hs : n.v.s.size ≤ maxLen) :
    Calls Try.prog 36 #[n.val, .int .i64 at_, L, C] w fun e w' => e = .returned (two (n.v.k, chk n.v.k n.v.n n.v.s)) ∧ Below w.heap.size w w' := by
  obtain ⟨op, a, b, ⟨vk, vn, vs⟩, s⟩ := n
  obtain rfl : op = 1 := hop
  replace hs : vs.size ≤ maxLen := hs
  unfold Nd.val Nd.arr
  go_enter Try.func36, Try.ntmps36
  go_wp2_with fail
  obtain ⟨W, hW_, hbW, B1⟩ : ∃ W_, W_ = (w.alloc (.cells #[.int .i64 1, .int .i64 a, .int .i64 b, .int .i64 vk, .int .i64 vn, .string vs, .string s] 36)) ∧ Below w.heap.size w W_ ∧ Blk W_ (w.heap.size) 36 #[.int .i64 1, .int .i64 a, .int .i64 b, .int .i64 vk, .int .i64 vn, .string vs, .string s] :=
    ⟨_, rfl, ((Below.refl _ _).alloc (Nat.le_refl _) _), (blk_new_at w (w.heap.size) _ _ (by simp))⟩
  rw [← hW_]
  clear hW_
  have q1 := seven B1 (Below.refl _ _)
  go_wp2_with fail
  clear q1
  refine (partsr 1 0 rfl _).mono ?_
  rintro e w1 ⟨rfl, rfl⟩
  have q1 := seven B1 (Below.refl _ _)
  go_wp2_with fail
  clear q1
  have D := fun w' (h : Below W.heap.size W.drew w') => seven B1 (Below.trans (Below.refl _ _).drew h)
  refine wp_region_one [(0, true), (1, true), (2, true), (3, true), (4, true), (5, false), (6, true), (7, true)] (by kernel_rfl) (by kernel_rfl) (by kernel_rfl) (by decide) ?_
  repeat ((with_reducible show wpPerm _ _ _ _ ((_, true) :: _) _ _); (first | (refine wpPerm_on (v := ?_) rfl rfl (wanted_free rfl) (fun w' hS => ?_) ?_; rotate_left; (focus (go_simp; (try with_reducible rfl); done)); try simp only [List.setIfInBounds_toArray, List.set_cons_zero, List.set_cons_succ]) | (refine wpPerm_on (v := ?_) rfl rfl (wanted_yes rfl rfl rfl) (fun w' hS => ?_) ?_; rotate_left; (focus (go_simp; (try with_reducible rfl); done)); try simp only [List.setIfInBounds_toArray, List.set_cons_zero, List.set_cons_succ]) | (refine wpPerm_off rfl rfl (wanted_no rfl rfl rfl) ?_; try simp only [List.setIfInBounds_toArray, List.set_cons_zero, List.set_cons_succ]) | (refine wpPerm_off rfl rfl (wanted_undef rfl rfl rfl) ?_; try simp only [List.setIfInBounds_toArray, List.set_cons_zero, List.set_cons_succ])))
  refine wpPerm_do rfl (wanted_free rfl) (fun K hK => ?_); go_simp
  refine (chkr ⟨vk, vn, vs⟩ _ hs).mono ?_
  rintro e w3 ⟨rfl, hb_⟩
  refine hK.out _ _ (Below.trans (Below.refl _ _) hb_) ?_
  clear hK K
  repeat ((with_reducible show wpPerm _ _ _ _ ((_, true) :: _) _ _); (first | (refine wpPerm_on (v := ?_) rfl rfl (wanted_free rfl) (fun w' hS => ?_) ?_; rotate_left; (focus (go_simp; (try with_reducible rfl); done)); try simp only [List.setIfInBounds_toArray, List.set_cons_zero, List.set_cons_succ]) | (refine wpPerm_on (v := ?_) rfl rfl (wanted_yes rfl rfl rfl) (fun w' hS => ?_) ?_; rotate_left; (focus (go_simp; (try with_reducible rfl); done)); try simp only [List.setIfInBounds_toArray, List.set_cons_zero, List.set_cons_succ]) | (refine wpPerm_off rfl rfl (wanted_no rfl rfl rfl) ?_; try simp only [List.setIfInBounds_toArray, List.set_cons_zero, List.set_cons_succ]) | (refine wpPerm_off rfl rfl (wanted_undef rfl rfl rfl) ?_; try simp only [List.setIfInBounds_toArray, List.set_cons_zero, List.set_cons_succ])))
  refine wpPerm_done ?_
  clear D
  go_wp2
  go_ret2
  exact ⟨rfl, Below.trans hbW (Below.mono (Below.trans (Below.refl _ _).drew hb_) hbW.size)⟩

theorem kind_two (n : Nd) (ia ib m c B : Nat) (ks : List Int) (A : Option Addr) (C : Value) (w : World) (hop : 6 ≤ n.op ∧ n.op ≤ 16) (ha : n.a = ia) (hb : n.b = ib) (ham : ia < m) (hbm : ib < m)
    (hm : m < 1000) (hr : Reads w B 1 A m (ks.map (Value.int .i64))) (hB : B ≤ w.heap.size) :
    Calls Try.prog 36 #[n.val, .int .i64 m, .slice A m c, C] w fun e w' => e = .returned (two (madeV n.op (ks.getD ia 0) (ks.getD ib 0))) ∧ Below w.heap.size w w' := by
  obtain ⟨op, a, b, ⟨vk, vn, vs⟩, s⟩ := n
  obtain rfl : a = ia := ha
  obtain rfl : b = ib := hb
  replace hop : 6 ≤ op ∧ op ≤ 16 := hop
  have hp : partsV op = 2 := by unfold partsV; rw [if_neg (by omega), if_neg (by omega), if_pos hop]
  unfold Nd.val Nd.arr
  go_enter Try.func36, Try.ntmps36
  go_wp2_with fail
  obtain ⟨W, hW_, hbW, B1⟩ : ∃ W_, W_ = (w.alloc (.cells #[.int .i64 op, .int .i64 ia, .int .i64 ib, .int .i64 vk, .int .i64 vn, .string vs, .string s] 36)) ∧ Below w.heap.size w W_ ∧ Blk W_ (w.heap.size) 36 #[.int .i64 op, .int .i64 ia, .int .i64 ib, .int .i64 vk, .int .i64 vn, .string vs, .string s] :=
    ⟨_, rfl, ((Below.refl _ _).alloc (Nat.le_refl _) _), (blk_new_at w (w.heap.size) _ _ (by simp))⟩
  rw [← hW_]
  clear hW_
  have q1 := seven B1 (Below.refl _ _)
  go_wp2_with fail
  clear q1
  refine (partsr op 2 hp _).mono ?_
  rintro e w1 ⟨rfl, rfl⟩
  have q1 := seven B1 (Below.refl _ _)
  have h1 : (op == 1) = false := by simp; omega
  have h2 : (op == 2) = false := by simp; omega
  go_wp2_with fail
  clear q1
  obtain ⟨ad, rfl, hlt⟩ := hr.some_ (by omega)
  have D := fun w' (h : Below W.heap.size W.drew w') => seven B1 (Below.trans (Below.refl _ _).drew h)
  have DA := fun w' (h : Below W.heap.size W.drew w') => hr.ints ham (Below.mono (bch0 hbW (Below.trans (Below.refl _ _).drew h)) hB)
  have DB := fun w' (h : Below W.heap.size W.drew w') => hr.ints hbm (Below.mono (bch0 hbW (Below.trans (Below.refl _ _).drew h)) hB)
  refine wp_region_one [(0, true), (1, true), (2, true), (3, true), (4, true), (5, true), (6, true), (7, true), (8, true), (9, true), (10, true), (11, true), (12, false), (13, true), (14, true), (15, true), (16, true)] (by kernel_rfl) (by kernel_rfl) (by kernel_rfl) (by decide) ?_
  repeat ((with_reducible show wpPerm _ _ _ _ ((_, true) :: _) _ _); (first | (refine wpPerm_on (v := ?_) rfl rfl (wanted_free rfl) (fun w' hS => ?_) ?_; rotate_left; (focus (go_simp; (try with_reducible rfl); done)); try simp only [List.setIfInBounds_toArray, List.set_cons_zero, List.set_cons_succ]) | (refine wpPerm_on (v := ?_) rfl rfl (wanted_yes rfl rfl rfl) (fun w' hS => ?_) ?_; rotate_left; (focus (go_simp; (try with_reducible rfl); done)); try simp only [List.setIfInBounds_toArray, List.set_cons_zero, List.set_cons_succ]) | (refine wpPerm_off rfl rfl (wanted_no rfl rfl rfl) ?_; try simp only [List.setIfInBounds_toArray, List.set_cons_zero, List.set_cons_succ]) | (refine wpPerm_off rfl rfl (wanted_undef rfl rfl rfl) ?_; try simp only [List.setIfInBounds_toArray, List.set_cons_zero, List.set_cons_succ])))
  refine wpPerm_do rfl (wanted_free rfl) (fun K hK => ?_); go_simp
  refine (made op _ _ _ (by omega)).mono ?_
  rintro e w3 ⟨rfl, rfl⟩
  refine hK.out _ _ (Below.refl _ _) ?_
  clear hK K
  unfold two
  repeat ((with_reducible show wpPerm _ _ _ _ ((_, true) :: _) _ _); (first | (refine wpPerm_on (v := ?_) rfl rfl (wanted_free rfl) (fun w' hS => ?_) ?_; rotate_left; (focus (go_simp; (try with_reducible rfl); done)); try simp only [List.setIfInBounds_toArray, List.set_cons_zero, List.set_cons_succ]) | (refine wpPerm_on (v := ?_) rfl rfl (wanted_yes rfl rfl rfl) (fun w' hS => ?_) ?_; rotate_left; (focus (go_simp; (try with_reducible rfl); done)); try simp only [List.setIfInBounds_toArray, List.set_cons_zero, List.set_cons_succ]) | (refine wpPerm_off rfl rfl (wanted_no rfl rfl rfl) ?_; try simp only [List.setIfInBounds_toArray, List.set_cons_zero, List.set_cons_succ]) | (refine wpPerm_off rfl rfl (wanted_undef rfl rfl rfl) ?_; try simp only [List.setIfInBounds_toArray, List.set_cons_zero, List.set_cons_succ])))
  refine wpPerm_done ?_
  clear D DA DB
  go_wp2
  go_ret2
  exact ⟨rfl, hbW.drew⟩

theorem kind_one (n : Nd) (ia m c B : Nat) (ks : List Int) (A : Option Addr) (C : Value) (w : World) (hop : 3 ≤ n.op ∧ n.op ≤ 5) (ha : n.a = ia) (ham : ia < m)
    (hm : m < 1000) (hr : Reads w B 1 A m (ks.map (Value.int .i64))) (hB : B ≤ w.heap.size) :
    Calls Try.prog 36 #[n.val, .int .i64 m, .slice A m c, C] w fun e w' => e = .returned (two (madeV n.op (ks.getD ia 0) (ks.getD ia 0))) ∧ Below w.heap.size w w' := by
  obtain ⟨op, a, b, ⟨vk, vn, vs⟩, s⟩ := n
  obtain rfl : a = ia := ha
  replace hop : 3 ≤ op ∧ op ≤ 5 := hop
  have hp : partsV op = 1 := by unfold partsV; rw [if_neg (by omega), if_pos (by omega)]
  unfold Nd.val Nd.arr
  go_enter Try.func36, Try.ntmps36
  go_wp2_with fail
  obtain ⟨W, hW_, hbW, B1⟩ : ∃ W_, W_ = (w.alloc (.cells #[.int .i64 op, .int .i64 ia, .int .i64 b, .int .i64 vk, .int .i64 vn, .string vs, .string s] 36)) ∧ Below w.heap.size w W_ ∧ Blk W_ (w.heap.size) 36 #[.int .i64 op, .int .i64 ia, .int .i64 b, .int .i64 vk, .int .i64 vn, .string vs, .string s] :=
    ⟨_, rfl, ((Below.refl _ _).alloc (Nat.le_refl _) _), (blk_new_at w (w.heap.size) _ _ (by simp))⟩
  rw [← hW_]
  clear hW_
  have q1 := seven B1 (Below.refl _ _)
  go_wp2_with fail
  clear q1
  refine (partsr op 1 hp _).mono ?_
  rintro e w1 ⟨rfl, rfl⟩
  have q1 := seven B1 (Below.refl _ _)
  have h1 : (op == 1) = false := by simp; omega
  have h2 : (op == 2) = false := by simp; omega
  go_wp2_with fail
  clear q1
  obtain ⟨ad, rfl, hlt⟩ := hr.some_ (by omega)
  have D := fun w' (h : Below W.heap.size W.drew w') => seven B1 (Below.trans (Below.refl _ _).drew h)
  have DA := fun w' (h : Below W.heap.size W.drew w') => hr.ints ham (Below.mono (bch0 hbW (Below.trans (Below.refl _ _).drew h)) hB)
  refine wp_region_one [(0, true), (1, true), (2, true), (3, true), (4, true), (5, true), (6, true), (7, true), (8, true), (9, true), (10, true), (11, true), (12, false), (13, true), (14, true), (15, true), (16, true)] (by kernel_rfl) (by kernel_rfl) (by kernel_rfl) (by decide) ?_
  repeat ((with_reducible show wpPerm _ _ _ _ ((_, true) :: _) _ _); (first | (refine wpPerm_on (v := ?_) rfl rfl (wanted_free rfl) (fun w' hS => ?_) ?_; rotate_left; (focus (go_simp; (try with_reducible rfl); done)); try simp only [List.setIfInBounds_toArray, List.set_cons_zero, List.set_cons_succ]) | (refine wpPerm_on (v := ?_) rfl rfl (wanted_yes rfl rfl rfl) (fun w' hS => ?_) ?_; rotate_left; (focus (go_simp; (try with_reducible rfl); done)); try simp only [List.setIfInBounds_toArray, List.set_cons_zero, List.set_cons_succ]) | (refine wpPerm_off rfl rfl (wanted_no rfl rfl rfl) ?_; try simp only [List.setIfInBounds_toArray, List.set_cons_zero, List.set_cons_succ]) | (refine wpPerm_off rfl rfl (wanted_undef rfl rfl rfl) ?_; try simp only [List.setIfInBounds_toArray, List.set_cons_zero, List.set_cons_succ])))
  refine wpPerm_do rfl (wanted_free rfl) (fun K hK => ?_); go_simp
  refine (made op _ _ _ (by omega)).mono ?_
  rintro e w3 ⟨rfl, rfl⟩
  refine hK.out _ _ (Below.refl _ _) ?_
  clear hK K
  unfold two
  repeat ((with_reducible show wpPerm _ _ _ _ ((_, true) :: _) _ _); (first | (refine wpPerm_on (v := ?_) rfl rfl (wanted_free rfl) (fun w' hS => ?_) ?_; rotate_left; (focus (go_simp; (try with_reducible rfl); done)); try simp only [List.setIfInBounds_toArray, List.set_cons_zero, List.set_cons_succ]) | (refine wpPerm_on (v := ?_) rfl rfl (wanted_yes rfl rfl rfl) (fun w' hS => ?_) ?_; rotate_left; (focus (go_simp; (try with_reducible rfl); done)); try simp only [List.setIfInBounds_toArray, List.set_cons_zero, List.set_cons_succ]) | (refine wpPerm_off rfl rfl (wanted_no rfl rfl rfl) ?_; try simp only [List.setIfInBounds_toArray, List.set_cons_zero, List.set_cons_succ]) | (refine wpPerm_off rfl rfl (wanted_undef rfl rfl rfl) ?_; try simp only [List.setIfInBounds_toArray, List.set_cons_zero, List.set_cons_succ])))
  refine wpPerm_done ?_
  clear D DA
  go_wp2
  go_ret2
  exact ⟨rfl, hbW.drew⟩

theorem kind_a1lo (n : Nd) (at_ : Int) (L C : Value) (w : World) (hop : 3 ≤ n.op ∧ n.op ≤ 5) (ha : n.a < 0) :
    Calls Try.prog 36 #[n.val, .int .i64 at_, L, C] w fun e w' => e = .returned (two (0, 1)) ∧ Below w.heap.size w w' := by
  obtain ⟨op, a, b, ⟨vk, vn, vs⟩, s⟩ := n
  replace hop : 3 ≤ op ∧ op ≤ 5 := hop
  replace ha : a < 0 := ha
  have ha1 : decide (a < 0) = true := by simpa using ha
  have hp : partsV op = 1 := by unfold partsV; rw [if_neg (by omega), if_pos (by omega)]
  unfold Nd.val Nd.arr
  go_enter Try.func36, Try.ntmps36
  go_wp2_with fail
  obtain ⟨W, hW_, hbW, B1⟩ : ∃ W_, W_ = (w.alloc (.cells #[.int .i64 op, .int .i64 a, .int .i64 b, .int .i64 vk, .int .i64 vn, .string vs, .string s] 36)) ∧ Below w.heap.size w W_ ∧ Blk W_ (w.heap.size) 36 #[.int .i64 op, .int .i64 a, .int .i64 b, .int .i64 vk, .int .i64 vn, .string vs, .string s] :=
    ⟨_, rfl, ((Below.refl _ _).alloc (Nat.le_refl _) _), (blk_new_at w (w.heap.size) _ _ (by simp))⟩
  rw [← hW_]
  clear hW_
  have q1 := seven B1 (Below.refl _ _)
  go_wp2_with fail
  clear q1
  refine (partsr op 1 hp _).mono ?_
  rintro e w1 ⟨rfl, rfl⟩
  have q1 := seven B1 (Below.refl _ _)
  go_wp2
  clear q1
  go_ret2
  exact ⟨rfl, hbW⟩

theorem kind_a1hi (n : Nd) (at_ : Int) (L C : Value) (w : World) (hop : 3 ≤ n.op ∧ n.op ≤ 5) (ha : 0 ≤ n.a) (ha2 : at_ ≤ n.a) :
    Calls Try.prog 36 #[n.val, .int .i64 at_, L, C] w fun e w' => e = .returned (two (0, 1)) ∧ Below w.heap.size w w' := by
  obtain ⟨op, a, b, ⟨vk, vn, vs⟩, s⟩ := n
  replace hop : 3 ≤ op ∧ op ≤ 5 := hop
  replace ha : 0 ≤ a := ha
  replace ha2 : at_ ≤ a := ha2
  have ha1 : decide (a < 0) = false := by simpa using ha
  have ha3 : decide (at_ ≤ a) = true := by simpa using ha2
  have hp : partsV op = 1 := by unfold partsV; rw [if_neg (by omega), if_pos (by omega)]
  unfold Nd.val Nd.arr
  go_enter Try.func36, Try.ntmps36
  go_wp2_with fail
  obtain ⟨W, hW_, hbW, B1⟩ : ∃ W_, W_ = (w.alloc (.cells #[.int .i64 op, .int .i64 a, .int .i64 b, .int .i64 vk, .int .i64 vn, .string vs, .string s] 36)) ∧ Below w.heap.size w W_ ∧ Blk W_ (w.heap.size) 36 #[.int .i64 op, .int .i64 a, .int .i64 b, .int .i64 vk, .int .i64 vn, .string vs, .string s] :=
    ⟨_, rfl, ((Below.refl _ _).alloc (Nat.le_refl _) _), (blk_new_at w (w.heap.size) _ _ (by simp))⟩
  rw [← hW_]
  clear hW_
  have q1 := seven B1 (Below.refl _ _)
  go_wp2_with fail
  clear q1
  refine (partsr op 1 hp _).mono ?_
  rintro e w1 ⟨rfl, rfl⟩
  have q1 := seven B1 (Below.refl _ _)
  go_wp2
  clear q1
  go_ret2
  exact ⟨rfl, hbW⟩

theorem kind_a2lo (n : Nd) (at_ : Int) (L C : Value) (w : World) (hop : 6 ≤ n.op ∧ n.op ≤ 16) (ha : n.a < 0) :
    Calls Try.prog 36 #[n.val, .int .i64 at_, L, C] w fun e w' => e = .returned (two (0, 1)) ∧ Below w.heap.size w w' := by
  obtain ⟨op, a, b, ⟨vk, vn, vs⟩, s⟩ := n
  replace hop : 6 ≤ op ∧ op ≤ 16 := hop
  replace ha : a < 0 := ha
  have ha1 : decide (a < 0) = true := by simpa using ha
  have hp : partsV op = 2 := by unfold partsV; rw [if_neg (by omega), if_neg (by omega), if_pos (by omega)]
  unfold Nd.val Nd.arr
  go_enter Try.func36, Try.ntmps36
  go_wp2_with fail
  obtain ⟨W, hW_, hbW, B1⟩ : ∃ W_, W_ = (w.alloc (.cells #[.int .i64 op, .int .i64 a, .int .i64 b, .int .i64 vk, .int .i64 vn, .string vs, .string s] 36)) ∧ Below w.heap.size w W_ ∧ Blk W_ (w.heap.size) 36 #[.int .i64 op, .int .i64 a, .int .i64 b, .int .i64 vk, .int .i64 vn, .string vs, .string s] :=
    ⟨_, rfl, ((Below.refl _ _).alloc (Nat.le_refl _) _), (blk_new_at w (w.heap.size) _ _ (by simp))⟩
  rw [← hW_]
  clear hW_
  have q1 := seven B1 (Below.refl _ _)
  go_wp2_with fail
  clear q1
  refine (partsr op 2 hp _).mono ?_
  rintro e w1 ⟨rfl, rfl⟩
  have q1 := seven B1 (Below.refl _ _)
  go_wp2
  clear q1
  go_ret2
  exact ⟨rfl, hbW⟩

theorem kind_a2hi (n : Nd) (at_ : Int) (L C : Value) (w : World) (hop : 6 ≤ n.op ∧ n.op ≤ 16) (ha : 0 ≤ n.a) (ha2 : at_ ≤ n.a) :
    Calls Try.prog 36 #[n.val, .int .i64 at_, L, C] w fun e w' => e = .returned (two (0, 1)) ∧ Below w.heap.size w w' := by
  obtain ⟨op, a, b, ⟨vk, vn, vs⟩, s⟩ := n
  replace hop : 6 ≤ op ∧ op ≤ 16 := hop
  replace ha : 0 ≤ a := ha
  replace ha2 : at_ ≤ a := ha2
  have ha1 : decide (a < 0) = false := by simpa using ha
  have ha3 : decide (at_ ≤ a) = true := by simpa using ha2
  have hp : partsV op = 2 := by unfold partsV; rw [if_neg (by omega), if_neg (by omega), if_pos (by omega)]
  unfold Nd.val Nd.arr
  go_enter Try.func36, Try.ntmps36
  go_wp2_with fail
  obtain ⟨W, hW_, hbW, B1⟩ : ∃ W_, W_ = (w.alloc (.cells #[.int .i64 op, .int .i64 a, .int .i64 b, .int .i64 vk, .int .i64 vn, .string vs, .string s] 36)) ∧ Below w.heap.size w W_ ∧ Blk W_ (w.heap.size) 36 #[.int .i64 op, .int .i64 a, .int .i64 b, .int .i64 vk, .int .i64 vn, .string vs, .string s] :=
    ⟨_, rfl, ((Below.refl _ _).alloc (Nat.le_refl _) _), (blk_new_at w (w.heap.size) _ _ (by simp))⟩
  rw [← hW_]
  clear hW_
  have q1 := seven B1 (Below.refl _ _)
  go_wp2_with fail
  clear q1
  refine (partsr op 2 hp _).mono ?_
  rintro e w1 ⟨rfl, rfl⟩
  have q1 := seven B1 (Below.refl _ _)
  go_wp2
  clear q1
  go_ret2
  exact ⟨rfl, hbW⟩

theorem kind_b2lo (n : Nd) (at_ : Int) (L C : Value) (w : World) (hop : 6 ≤ n.op ∧ n.op ≤ 16) (ha : 0 ≤ n.a) (ha2 : n.a < at_) (hb : n.b < 0) :
    Calls Try.prog 36 #[n.val, .int .i64 at_, L, C] w fun e w' => e = .returned (two (0, 1)) ∧ Below w.heap.size w w' := by
  obtain ⟨op, a, b, ⟨vk, vn, vs⟩, s⟩ := n
  replace hop : 6 ≤ op ∧ op ≤ 16 := hop
  replace ha : 0 ≤ a := ha
  replace ha2 : a < at_ := ha2
  replace hb : b < 0 := hb
  have ha1 : decide (a < 0) = false := by simpa using ha
  have ha3 : decide (at_ ≤ a) = false := by simpa using ha2
  have hb1 : decide (b < 0) = true := by simpa using hb
  have hp : partsV op = 2 := by unfold partsV; rw [if_neg (by omega), if_neg (by omega), if_pos (by omega)]
  unfold Nd.val Nd.arr
  go_enter Try.func36, Try.ntmps36
  go_wp2_with fail
  obtain ⟨W, hW_, hbW, B1⟩ : ∃ W_, W_ = (w.alloc (.cells #[.int .i64 op, .int .i64 a, .int .i64 b, .int .i64 vk, .int .i64 vn, .string vs, .string s] 36)) ∧ Below w.heap.size w W_ ∧ Blk W_ (w.heap.size) 36 #[.int .i64 op, .int .i64 a, .int .i64 b, .int .i64 vk, .int .i64 vn, .string vs, .string s] :=
    ⟨_, rfl, ((Below.refl _ _).alloc (Nat.le_refl _) _), (blk_new_at w (w.heap.size) _ _ (by simp))⟩
  rw [← hW_]
  clear hW_
  have q1 := seven B1 (Below.refl _ _)
  go_wp2_with fail
  clear q1
  refine (partsr op 2 hp _).mono ?_
  rintro e w1 ⟨rfl, rfl⟩
  have q1 := seven B1 (Below.refl _ _)
  go_wp2
  clear q1
  go_ret2
  exact ⟨rfl, hbW⟩

theorem kind_b2hi (n : Nd) (at_ : Int) (L C : Value) (w : World) (hop : 6 ≤ n.op ∧ n.op ≤ 16) (ha : 0 ≤ n.a) (ha2 : n.a < at_) (hb : 0 ≤ n.b) (hb2 : at_ ≤ n.b) :
    Calls Try.prog 36 #[n.val, .int .i64 at_, L, C] w fun e w' => e = .returned (two (0, 1)) ∧ Below w.heap.size w w' := by
  obtain ⟨op, a, b, ⟨vk, vn, vs⟩, s⟩ := n
  replace hop : 6 ≤ op ∧ op ≤ 16 := hop
  replace ha : 0 ≤ a := ha
  replace ha2 : a < at_ := ha2
  replace hb : 0 ≤ b := hb
  replace hb2 : at_ ≤ b := hb2
  have ha1 : decide (a < 0) = false := by simpa using ha
  have ha3 : decide (at_ ≤ a) = false := by simpa using ha2
  have hb1 : decide (b < 0) = false := by simpa using hb
  have hb3 : decide (at_ ≤ b) = true := by simpa using hb2
  have hp : partsV op = 2 := by unfold partsV; rw [if_neg (by omega), if_neg (by omega), if_pos (by omega)]
  unfold Nd.val Nd.arr
  go_enter Try.func36, Try.ntmps36
  go_wp2_with fail
  obtain ⟨W, hW_, hbW, B1⟩ : ∃ W_, W_ = (w.alloc (.cells #[.int .i64 op, .int .i64 a, .int .i64 b, .int .i64 vk, .int .i64 vn, .string vs, .string s] 36)) ∧ Below w.heap.size w W_ ∧ Blk W_ (w.heap.size) 36 #[.int .i64 op, .int .i64 a, .int .i64 b, .int .i64 vk, .int .i64 vn, .string vs, .string s] :=
    ⟨_, rfl, ((Below.refl _ _).alloc (Nat.le_refl _) _), (blk_new_at w (w.heap.size) _ _ (by simp))⟩
  rw [← hW_]
  clear hW_
  have q1 := seven B1 (Below.refl _ _)
  go_wp2_with fail
  clear q1
  refine (partsr op 2 hp _).mono ?_
  rintro e w1 ⟨rfl, rfl⟩
  have q1 := seven B1 (Below.refl _ _)
  go_wp2
  clear q1
  go_ret2
  exact ⟨rfl, hbW⟩
end Go.Proofs.Ytfgmlgflfagdjaa.ev
