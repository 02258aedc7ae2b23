/- The nine walks of EvalThree. (Printed by gen3w.py.) -/
import Derived.Test.YtfgmlgflfagdjaaE14
namespace Go.Proofs.Ytfgmlgflfagdjaa.ev
open Go.ChangeShapes Go.WideShapes Go.ChangeAt Go.RowKit Go.Proofs.Ytfgmlgflfagdjaa.lib Go.Proofs.Ytfgmlgflfagdjaa.val
set_option linter.unusedVariables false

theorem nine {w : World} {g : Nat} {t : TypeId} {x0 x1 x2 x3 x4 x5 x6 x7 x8 : Value} (h : Blk w g t #[x0, x1, x2, x3, x4, x5, x6, x7, x8]) {w' : World} (hb : Below w.heap.size w w') :
    w'.cell? ⟨g, 0, none⟩ = some x0 ∧ w'.cell? ⟨g, 1, none⟩ = some x1 ∧ w'.cell? ⟨g, 2, none⟩ = some x2 ∧ w'.cell? ⟨g, 3, none⟩ = some x3 ∧ w'.cell? ⟨g, 4, none⟩ = some x4 ∧ w'.cell? ⟨g, 5, none⟩ = some x5 ∧ w'.cell? ⟨g, 6, none⟩ = some x6 ∧ w'.cell? ⟨g, 7, none⟩ = some x7 ∧ w'.cell? ⟨g, 8, none⟩ = some x8 :=
  ⟨(h.ext hb).cell 0, (h.ext hb).cell 1, (h.ext hb).cell 2, (h.ext hb).cell 3, (h.ext hb).cell 4, (h.ext hb).cell 5, (h.ext hb).cell 6, (h.ext hb).cell 7, (h.ext hb).cell 8⟩
theorem last7 {w : World} {g : Nat} {t : TypeId} {cs : Array Value} {x0 x1 x2 x3 x4 x5 x6 : Value} (h : Blk w g t cs) (hc : cs[14]? = some x0 ∧ cs[15]? = some x1 ∧ cs[16]? = some x2 ∧ cs[17]? = some x3 ∧ cs[18]? = some x4 ∧ cs[19]? = some x5 ∧ cs[20]? = some x6) :
    (w.cell? ⟨g, 14, none⟩ = some x0 ∧ w.cell? ⟨g, 15, none⟩ = some x1 ∧ w.cell? ⟨g, 16, none⟩ = some x2 ∧ w.cell? ⟨g, 17, none⟩ = some x3 ∧ w.cell? ⟨g, 18, none⟩ = some x4 ∧ w.cell? ⟨g, 19, none⟩ = some x5 ∧ w.cell? ⟨g, 20, none⟩ = some x6) ∧
      (w.frozen? ⟨g, 14, none⟩ = false ∧ w.frozen? ⟨g, 15, none⟩ = false ∧ w.frozen? ⟨g, 16, none⟩ = false ∧ w.frozen? ⟨g, 17, none⟩ = false ∧ w.frozen? ⟨g, 18, none⟩ = false ∧ w.frozen? ⟨g, 19, none⟩ = false ∧ w.frozen? ⟨g, 20, none⟩ = false) :=
  ⟨⟨(h.cell 14).trans hc.1, (h.cell 15).trans hc.2.1, (h.cell 16).trans hc.2.2.1, (h.cell 17).trans hc.2.2.2.1, (h.cell 18).trans hc.2.2.2.2.1, (h.cell 19).trans hc.2.2.2.2.2.1, (h.cell 20).trans hc.2.2.2.2.2.2⟩,
    h.frozen 14, h.frozen 15, h.frozen 16, h.frozen 17, h.frozen 18, h.frozen 19, h.frozen 20⟩
theorem first7 {w : World} {g : Nat} {t : TypeId} {cs : Array Value} {x0 x1 x2 x3 x4 x5 x6 : Value} (h : Blk w g t cs) (hc : cs[0]? = some x0 ∧ cs[1]? = some x1 ∧ cs[2]? = some x2 ∧ cs[3]? = some x3 ∧ cs[4]? = some x4 ∧ cs[5]? = some x5 ∧ cs[6]? = some x6) :
    w.cell? ⟨g, 0, none⟩ = some x0 ∧ w.cell? ⟨g, 1, none⟩ = some x1 ∧ w.cell? ⟨g, 2, none⟩ = some x2 ∧ w.cell? ⟨g, 3, none⟩ = some x3 ∧ w.cell? ⟨g, 4, none⟩ = some x4 ∧ w.cell? ⟨g, 5, none⟩ = some x5 ∧ w.cell? ⟨g, 6, none⟩ = some x6 :=
  ⟨(h.cell 0).trans hc.1, (h.cell 1).trans hc.2.1, (h.cell 2).trans hc.2.2.1, (h.cell 3).trans hc.2.2.2.1, (h.cell 4).trans hc.2.2.2.2.1, (h.cell 5).trans hc.2.2.2.2.2.1, (h.cell 6).trans hc.2.2.2.2.2.2⟩
theorem set7 {w : World} {g : Nat} {t : TypeId} {cs : Array Value} (h : Blk w g t cs) (a0 a1 a2 a3 a4 a5 a6 : Value) :
    ∃ w', w' = ((((((w.setCell ⟨g, 14, none⟩ a0).setCell ⟨g, 15, none⟩ a1).setCell ⟨g, 16, none⟩ a2).setCell ⟨g, 17, none⟩ a3).setCell ⟨g, 18, none⟩ a4).setCell ⟨g, 19, none⟩ a5).setCell ⟨g, 20, none⟩ a6 ∧
      Blk w' g t (((((((cs.setIfInBounds 14 a0).setIfInBounds 15 a1).setIfInBounds 16 a2).setIfInBounds 17 a3).setIfInBounds 18 a4).setIfInBounds 19 a5).setIfInBounds 20 a6) ∧ (∀ B, B ≤ g → Below B w w') ∧ (∀ g' t' cs', g' ≠ g → Blk w g' t' cs' → Blk w' g' t' cs') :=
  ⟨_, rfl, ((((((h.set_ 14 a0).set_ 15 a1).set_ 16 a2).set_ 17 a3).set_ 18 a4).set_ 19 a5).set_ 20 a6, fun B hB => (((((((Below.refl _ _).setCell hB _).setCell hB _).setCell hB _).setCell hB _).setCell hB _).setCell hB _).setCell hB _, fun g' t' cs' hne hb => ((((((hb.far hne _).far hne _).far hne _).far hne _).far hne _).far hne _).far hne _⟩

set_option maxRecDepth 1000000 in
set_option maxHeartbeats 4000000 in
theorem three_00 (a b : Int) (w : World) (ha : ok64 a) (hb : ok64 b) (h3 : a % 3 = 0) (k3 : b % 3 = 0) :
    Calls Try.prog 5 #[.int .i64 a, .int .i64 b] w fun e w' => e = .returned (.bool true) ∧ Below w.heap.size w w' := by
  have H3 := Lib.hid h3
  have K3 := Lib.hid k3
  clear h3 k3
  have e0 := fun W => eqlS 1 0 ⟨#[]⟩ 1 0 ⟨#[]⟩ true (by decide) W
  have e1 := fun W => eqlS 1 1 ⟨#[]⟩ 1 1 ⟨#[]⟩ true (by decide) W
  have e2 := fun W => eqlS 0 0 ⟨#[]⟩ 0 0 ⟨#[]⟩ true (by decide) W
  have hq : IntKind.i64.wrap ((IntKind.i64.wrap 0).tdiv 2) = 0 := by decide
  go_enter Try.func5, Try.ntmps5
  go_wp2_with fail
  refine (known _).mono ?_
  rintro e w1 ⟨rfl, hb1⟩
  go_wp2_with fail
  refine (withinr _ _ _ H3.out _ (by decide) (by decide) ha).mono ?_
  rintro e w2 ⟨rfl, rfl⟩
  go_wp2_with fail
  refine (withinr _ _ _ K3.out _ (by decide) (by decide) hb).mono ?_
  rintro e w2 ⟨rfl, rfl⟩
  go_wp2_with fail
  obtain ⟨W, hW_, hbW, BT⟩ : ∃ W_, W_ = (w1.alloc (.cells #[.int .i64 1, .int .i64 0, .string ⟨#[]⟩, .int .i64 1, .int .i64 1, .string ⟨#[]⟩, .int .i64 0, .int .i64 0, .string ⟨#[]⟩] 30)) ∧ Below w1.heap.size w1 W_ ∧ Blk W_ (w1.heap.size) 30 #[.int .i64 1, .int .i64 0, .string ⟨#[]⟩, .int .i64 1, .int .i64 1, .string ⟨#[]⟩, .int .i64 0, .int .i64 0, .string ⟨#[]⟩] :=
    ⟨_, rfl, ((Below.refl _ _).alloc (Nat.le_refl _) _), (blk_new_at w1 (w1.heap.size) _ _ (by simp))⟩
  rw [← hW_]
  clear hW_
  have DT := fun w' (h : Below W.heap.size W w') => nine BT h
  have D := fun w' (h : Below W.heap.size W.drew w') => DT w' (Below.trans (Below.refl _ _).drew h)
  refine wp_region_one [(0, true), (1, true), (2, true), (3, true), (4, true), (5, true), (6, true), (7, true), (8, true), (9, true), (10, true), (11, false), (12, true)] (by kernel_rfl) (by kernel_rfl) (by kernel_rfl) (by decide) ?_
  repeat ((with_reducible show wpPerm _ _ _ _ ((_, true) :: _) _ _); (first | (refine wpPerm_on (v := ?_) rfl rfl (wanted_free rfl) (fun w' hS => ?_) ?_; rotate_left; (focus (go_simp; (try with_reducible rfl); done)); try simp only [Act.put, List.setIfInBounds_toArray, List.set_cons_zero, List.set_cons_succ]) | (refine wpPerm_on (v := ?_) rfl rfl (wanted_yes rfl rfl rfl) (fun w' hS => ?_) ?_; rotate_left; (focus (go_simp; (try with_reducible rfl); done)); try simp only [Act.put, List.setIfInBounds_toArray, List.set_cons_zero, List.set_cons_succ]) | (refine wpPerm_off rfl rfl (wanted_no rfl rfl rfl) ?_; try simp only [Act.put, List.setIfInBounds_toArray, List.set_cons_zero, List.set_cons_succ]) | (refine wpPerm_off rfl rfl (wanted_undef rfl rfl rfl) ?_; try simp only [Act.put, List.setIfInBounds_toArray, List.set_cons_zero, List.set_cons_succ])))
  refine wpPerm_do rfl (wanted_free rfl) (fun K hK => ?_); go_simp
  refine hK.out _ _ (show Below W.heap.size W.drew (W.drew.alloc _) from (Below.refl W.heap.size W.drew).alloc (Nat.le_refl _) _) ?_
  clear hK K
  repeat ((with_reducible show wpPerm _ _ _ _ ((_, true) :: _) _ _); (first | (refine wpPerm_on (v := ?_) rfl rfl (wanted_free rfl) (fun w' hS => ?_) ?_; rotate_left; (focus (go_simp; (try with_reducible rfl); done)); try simp only [Act.put, List.setIfInBounds_toArray, List.set_cons_zero, List.set_cons_succ]) | (refine wpPerm_on (v := ?_) rfl rfl (wanted_yes rfl rfl rfl) (fun w' hS => ?_) ?_; rotate_left; (focus (go_simp; (try with_reducible rfl); done)); try simp only [Act.put, List.setIfInBounds_toArray, List.set_cons_zero, List.set_cons_succ]) | (refine wpPerm_off rfl rfl (wanted_no rfl rfl rfl) ?_; try simp only [Act.put, List.setIfInBounds_toArray, List.set_cons_zero, List.set_cons_succ]) | (refine wpPerm_off rfl rfl (wanted_undef rfl rfl rfl) ?_; try simp only [Act.put, List.setIfInBounds_toArray, List.set_cons_zero, List.set_cons_succ])))
  refine wpPerm_done ?_
  clear D
  go_wp2_with fail
  obtain ⟨W2, hW_, hb2, BE⟩ : ∃ W_, W_ = (W.alloc (.cells #[.int .i64 1, .int .i64 0, .int .i64 0, .int .i64 1, .int .i64 0, .string ⟨#[]⟩, .string ⟨#[]⟩, .int .i64 1, .int .i64 0, .int .i64 0, .int .i64 1, .int .i64 0, .string ⟨#[]⟩, .string ⟨#[]⟩, .int .i64 7, .int .i64 0, .int .i64 1, .int .i64 0, .int .i64 0, .string ⟨#[]⟩, .string ⟨#[]⟩] 36)) ∧ Below W.heap.size W W_ ∧ Blk W_ (W.heap.size) 36 #[.int .i64 1, .int .i64 0, .int .i64 0, .int .i64 1, .int .i64 0, .string ⟨#[]⟩, .string ⟨#[]⟩, .int .i64 1, .int .i64 0, .int .i64 0, .int .i64 1, .int .i64 0, .string ⟨#[]⟩, .string ⟨#[]⟩, .int .i64 7, .int .i64 0, .int .i64 1, .int .i64 0, .int .i64 0, .string ⟨#[]⟩, .string ⟨#[]⟩] :=
    ⟨_, rfl, ((Below.refl _ _).alloc (Nat.le_refl _) _), (blk_new_at W (W.heap.size) _ _ (by simp))⟩
  rw [← hW_]
  clear hW_
  refine (ValueB [nv ⟨1, 0, ByteArray.empty⟩, nv ⟨1, 0, ByteArray.empty⟩, nb 7 0 1] (.tuple #[.agg #[.int .i64 1, .int .i64 0, .string ⟨#[]⟩], .int .i64 0]) _ 3 3 _ _ W2.drew _ (by rfl) rfl BE rfl (by decide)).mono ?_
  rintro e w3 ⟨rfl, hb3⟩
  have hb3 : Below W2.heap.size W2 w3 := Below.trans (Below.refl _ _).drew hb3
  have hb4 := bch0 hb2 hb3
  have BE3 := BE.ext hb3
  have q := last7 (BE3.alloc (.cells #[.int .i64 1, .int .i64 0, .string ⟨#[]⟩] 30)) ⟨rfl, rfl, rfl, rfl, rfl, rfl, rfl⟩
  go_wp2_with fail
  clear q
  obtain ⟨W4, hW4, BO, hbO, hfar⟩ := set7 (BE3.alloc (.cells #[.int .i64 1, .int .i64 0, .string ⟨#[]⟩] 30)) (.int .i64 6) (.int .i64 0) (.int .i64 1) (.int .i64 0) (.int .i64 0) (.string ⟨#[]⟩) (.string ⟨#[]⟩)
  have BX := hfar _ _ _ (by have := BE3.lt; omega) (Blk.new w3 30 #[.int .i64 1, .int .i64 0, .string ⟨#[]⟩])
  rw [← hW4]
  have hb5 : Below W.heap.size W W4 := Below.trans (hb4.alloc hb4.size _) (hbO _ (Nat.le_refl _))
  refine (ValueB [nv ⟨1, 0, ByteArray.empty⟩, nv ⟨1, 0, ByteArray.empty⟩, nb 6 0 1] (.tuple #[.agg #[.int .i64 1, .int .i64 0, .string ⟨#[]⟩], .int .i64 0]) _ 3 3 _ _ W4 _ (by rfl) rfl BO rfl (by decide)).mono ?_
  rintro e w5 ⟨rfl, hb6⟩
  have hb7 := bch0 hb5 hb6
  have BO5 := BO.ext hb6
  have BX5 := BX.ext hb6
  have q := first7 (BO5.alloc (.cells #[.int .i64 1, .int .i64 0, .string ⟨#[]⟩] 30)) ⟨rfl, rfl, rfl, rfl, rfl, rfl, rfl⟩
  go_wp2_with fail
  clear q
  obtain ⟨W6, hW_, hb8, BY, BS⟩ : ∃ W_, W_ = ((w5.alloc (.cells #[.int .i64 1, .int .i64 0, .string ⟨#[]⟩] 30)).alloc (.cells #[.int .i64 1, .int .i64 0, .int .i64 0, .int .i64 1, .int .i64 0, .string ⟨#[]⟩, .string ⟨#[]⟩, .int .i64 3, .int .i64 0, .int .i64 0, .int .i64 0, .int .i64 0, .string ⟨#[]⟩, .string ⟨#[]⟩] 36)) ∧ Below w5.heap.size w5 W_ ∧ Blk W_ (w5.heap.size) 30 #[.int .i64 1, .int .i64 0, .string ⟨#[]⟩] ∧ Blk W_ (w5.heap.size + 1) 36 #[.int .i64 1, .int .i64 0, .int .i64 0, .int .i64 1, .int .i64 0, .string ⟨#[]⟩, .string ⟨#[]⟩, .int .i64 3, .int .i64 0, .int .i64 0, .int .i64 0, .int .i64 0, .string ⟨#[]⟩, .string ⟨#[]⟩] :=
    ⟨_, rfl, (((Below.refl _ _).alloc (Nat.le_refl _) _).alloc (by simp; try omega) _), ((blk_new_at w5 (w5.heap.size) _ _ (by simp)).alloc _), (blk_new_at (w5.alloc (.cells #[.int .i64 1, .int .i64 0, .string ⟨#[]⟩] 30)) (w5.heap.size + 1) _ _ (by simp))⟩
  rw [← hW_]
  clear hW_
  refine (ValueB [nv ⟨1, 0, ByteArray.empty⟩, nb 3 0 0] (.tuple #[.agg #[.int .i64 1, .int .i64 1, .string ⟨#[]⟩], .int .i64 0]) _ 2 2 _ _ W6 _ (by rfl) rfl BS rfl (by decide)).mono ?_
  rintro e w7 ⟨rfl, hb9⟩
  have hb10 := bch0 hb8 hb9
  have hb11 := bch0 hb7 hb10
  have BO7 := BO5.ext hb10
  have BX7 := BX5.ext hb10
  have BY7 := BY.ext hb9
  have q := first7 (BO7.alloc (.cells #[.int .i64 1, .int .i64 1, .string ⟨#[]⟩] 30)) ⟨rfl, rfl, rfl, rfl, rfl, rfl, rfl⟩
  go_wp2_with fail
  clear q
  obtain ⟨W8, hW_, hb12, BZ, BS8⟩ : ∃ W_, W_ = ((w7.alloc (.cells #[.int .i64 1, .int .i64 1, .string ⟨#[]⟩] 30)).alloc (.cells #[.int .i64 1, .int .i64 0, .int .i64 0, .int .i64 1, .int .i64 0, .string ⟨#[]⟩, .string ⟨#[]⟩, .int .i64 5, .int .i64 0, .int .i64 0, .int .i64 0, .int .i64 0, .string ⟨#[]⟩, .string ⟨#[]⟩] 36)) ∧ Below w7.heap.size w7 W_ ∧ Blk W_ (w7.heap.size) 30 #[.int .i64 1, .int .i64 1, .string ⟨#[]⟩] ∧ Blk W_ (w7.heap.size + 1) 36 #[.int .i64 1, .int .i64 0, .int .i64 0, .int .i64 1, .int .i64 0, .string ⟨#[]⟩, .string ⟨#[]⟩, .int .i64 5, .int .i64 0, .int .i64 0, .int .i64 0, .int .i64 0, .string ⟨#[]⟩, .string ⟨#[]⟩] :=
    ⟨_, rfl, (((Below.refl _ _).alloc (Nat.le_refl _) _).alloc (by simp; try omega) _), ((blk_new_at w7 (w7.heap.size) _ _ (by simp)).alloc _), (blk_new_at (w7.alloc (.cells #[.int .i64 1, .int .i64 1, .string ⟨#[]⟩] 30)) (w7.heap.size + 1) _ _ (by simp))⟩
  rw [← hW_]
  clear hW_
  refine (ValueB [nv ⟨1, 0, ByteArray.empty⟩, nb 5 0 0] (.tuple #[.agg #[.int .i64 1, .int .i64 0, .string ⟨#[]⟩], .int .i64 0]) _ 2 2 _ _ W8 _ (by rfl) rfl BS8 rfl (by decide)).mono ?_
  rintro e w9 ⟨rfl, hb13⟩
  have hb14 := bch0 hb12 hb13
  have hb15 := bch0 hb11 hb14
  have BX9 := BX7.ext hb14
  have BY9 := BY7.ext hb14
  have BZ9 := BZ.ext hb13
  go_wp2_with fail
  obtain ⟨W10, hW_, hb16, BW⟩ : ∃ W_, W_ = (w9.alloc (.cells #[.int .i64 1, .int .i64 0, .string ⟨#[]⟩] 30)) ∧ Below w9.heap.size w9 W_ ∧ Blk W_ (w9.heap.size) 30 #[.int .i64 1, .int .i64 0, .string ⟨#[]⟩] :=
    ⟨_, rfl, ((Below.refl _ _).alloc (Nat.le_refl _) _), (blk_new_at w9 (w9.heap.size) _ _ (by simp))⟩
  rw [← hW_]
  clear hW_
  have hb17 := bch0 hb15 hb16
  have D9 := fun w' (h : Below W10.heap.size W10.drew w') => DT w' (bch0 hb17 (Below.trans (Below.refl _ _).drew h))
  have DX := fun w' (h : Below W10.heap.size W10.drew w') => (BX9.ext hb16).three (Below.trans (Below.refl _ _).drew h)
  have DY := fun w' (h : Below W10.heap.size W10.drew w') => (BY9.ext hb16).three (Below.trans (Below.refl _ _).drew h)
  have DZ := fun w' (h : Below W10.heap.size W10.drew w') => (BZ9.ext hb16).three (Below.trans (Below.refl _ _).drew h)
  have DW := fun w' (h : Below W10.heap.size W10.drew w') => BW.three (Below.trans (Below.refl _ _).drew h)
  refine wp_region_one [(0, true), (1, true), (2, true), (3, true), (4, true), (5, true), (6, true), (7, true), (8, true), (9, true), (10, true), (11, true), (12, true), (13, true), (14, true), (15, true), (16, true), (17, true), (18, true), (19, true), (20, true), (21, true), (22, true), (23, true), (24, true), (25, true), (26, true), (27, true), (28, true), (29, true), (30, true), (31, true), (32, true), (33, true), (34, true), (35, true), (36, true), (37, true), (38, true), (39, true), (40, true), (41, true), (42, true), (43, true), (44, true), (45, true), (46, true), (47, true), (48, true)] (by kernel_rfl) (by kernel_rfl) (by kernel_rfl) (by decide) ?_
  repeat ((with_reducible show wpPerm _ _ _ _ ((_, true) :: _) _ _); (first | (refine wpPerm_on (v := ?_) rfl rfl (wanted_free rfl) (fun w' hS => ?_) ?_; rotate_left; (focus (go_simp; (try with_reducible rfl); done)); try simp only [Act.put, List.setIfInBounds_toArray, List.set_cons_zero, List.set_cons_succ]) | (refine wpPerm_on (v := ?_) rfl rfl (wanted_yes rfl rfl rfl) (fun w' hS => ?_) ?_; rotate_left; (focus (go_simp; (try with_reducible rfl); done)); try simp only [Act.put, List.setIfInBounds_toArray, List.set_cons_zero, List.set_cons_succ]) | (refine wpPerm_off rfl rfl (wanted_no rfl rfl rfl) ?_; try simp only [Act.put, List.setIfInBounds_toArray, List.set_cons_zero, List.set_cons_succ]) | (refine wpPerm_off rfl rfl (wanted_undef rfl rfl rfl) ?_; try simp only [Act.put, List.setIfInBounds_toArray, List.set_cons_zero, List.set_cons_succ])))
  refine wpPerm_done ?_
  clear D9 DX DY DZ DW DT
  go_wp2
  go_ret
  exact ⟨rfl, Below.trans hb1 (Below.mono (bch0 hbW hb17).drew hb1.size)⟩

set_option maxRecDepth 1000000 in
set_option maxHeartbeats 4000000 in
theorem three_01 (a b : Int) (w : World) (ha : ok64 a) (hb : ok64 b) (h3 : a % 3 = 0) (k3 : b % 3 = 1) :
    Calls Try.prog 5 #[.int .i64 a, .int .i64 b] w fun e w' => e = .returned (.bool true) ∧ Below w.heap.size w w' := by
  have H3 := Lib.hid h3
  have K3 := Lib.hid k3
  clear h3 k3
  have e0 := fun W => eqlS 1 0 ⟨#[]⟩ 1 0 ⟨#[]⟩ true (by decide) W
  have e1 := fun W => eqlS 1 1 ⟨#[]⟩ 1 1 ⟨#[]⟩ true (by decide) W
  have e2 := fun W => eqlS 0 0 ⟨#[]⟩ 0 0 ⟨#[]⟩ true (by decide) W
  have hq : IntKind.i64.wrap ((IntKind.i64.wrap 0).tdiv 2) = 0 := by decide
  go_enter Try.func5, Try.ntmps5
  go_wp2_with fail
  refine (known _).mono ?_
  rintro e w1 ⟨rfl, hb1⟩
  go_wp2_with fail
  refine (withinr _ _ _ H3.out _ (by decide) (by decide) ha).mono ?_
  rintro e w2 ⟨rfl, rfl⟩
  go_wp2_with fail
  refine (withinr _ _ _ K3.out _ (by decide) (by decide) hb).mono ?_
  rintro e w2 ⟨rfl, rfl⟩
  go_wp2_with fail
  obtain ⟨W, hW_, hbW, BT⟩ : ∃ W_, W_ = (w1.alloc (.cells #[.int .i64 1, .int .i64 0, .string ⟨#[]⟩, .int .i64 1, .int .i64 1, .string ⟨#[]⟩, .int .i64 0, .int .i64 0, .string ⟨#[]⟩] 30)) ∧ Below w1.heap.size w1 W_ ∧ Blk W_ (w1.heap.size) 30 #[.int .i64 1, .int .i64 0, .string ⟨#[]⟩, .int .i64 1, .int .i64 1, .string ⟨#[]⟩, .int .i64 0, .int .i64 0, .string ⟨#[]⟩] :=
    ⟨_, rfl, ((Below.refl _ _).alloc (Nat.le_refl _) _), (blk_new_at w1 (w1.heap.size) _ _ (by simp))⟩
  rw [← hW_]
  clear hW_
  have DT := fun w' (h : Below W.heap.size W w') => nine BT h
  have D := fun w' (h : Below W.heap.size W.drew w') => DT w' (Below.trans (Below.refl _ _).drew h)
  refine wp_region_one [(0, true), (1, true), (2, true), (3, true), (4, true), (5, true), (6, true), (7, true), (8, true), (9, true), (10, true), (11, false), (12, true)] (by kernel_rfl) (by kernel_rfl) (by kernel_rfl) (by decide) ?_
  repeat ((with_reducible show wpPerm _ _ _ _ ((_, true) :: _) _ _); (first | (refine wpPerm_on (v := ?_) rfl rfl (wanted_free rfl) (fun w' hS => ?_) ?_; rotate_left; (focus (go_simp; (try with_reducible rfl); done)); try simp only [Act.put, List.setIfInBounds_toArray, List.set_cons_zero, List.set_cons_succ]) | (refine wpPerm_on (v := ?_) rfl rfl (wanted_yes rfl rfl rfl) (fun w' hS => ?_) ?_; rotate_left; (focus (go_simp; (try with_reducible rfl); done)); try simp only [Act.put, List.setIfInBounds_toArray, List.set_cons_zero, List.set_cons_succ]) | (refine wpPerm_off rfl rfl (wanted_no rfl rfl rfl) ?_; try simp only [Act.put, List.setIfInBounds_toArray, List.set_cons_zero, List.set_cons_succ]) | (refine wpPerm_off rfl rfl (wanted_undef rfl rfl rfl) ?_; try simp only [Act.put, List.setIfInBounds_toArray, List.set_cons_zero, List.set_cons_succ])))
  refine wpPerm_do rfl (wanted_free rfl) (fun K hK => ?_); go_simp
  refine hK.out _ _ (show Below W.heap.size W.drew (W.drew.alloc _) from (Below.refl W.heap.size W.drew).alloc (Nat.le_refl _) _) ?_
  clear hK K
  repeat ((with_reducible show wpPerm _ _ _ _ ((_, true) :: _) _ _); (first | (refine wpPerm_on (v := ?_) rfl rfl (wanted_free rfl) (fun w' hS => ?_) ?_; rotate_left; (focus (go_simp; (try with_reducible rfl); done)); try simp only [Act.put, List.setIfInBounds_toArray, List.set_cons_zero, List.set_cons_succ]) | (refine wpPerm_on (v := ?_) rfl rfl (wanted_yes rfl rfl rfl) (fun w' hS => ?_) ?_; rotate_left; (focus (go_simp; (try with_reducible rfl); done)); try simp only [Act.put, List.setIfInBounds_toArray, List.set_cons_zero, List.set_cons_succ]) | (refine wpPerm_off rfl rfl (wanted_no rfl rfl rfl) ?_; try simp only [Act.put, List.setIfInBounds_toArray, List.set_cons_zero, List.set_cons_succ]) | (refine wpPerm_off rfl rfl (wanted_undef rfl rfl rfl) ?_; try simp only [Act.put, List.setIfInBounds_toArray, List.set_cons_zero, List.set_cons_succ])))
  refine wpPerm_done ?_
  clear D
  go_wp2_with fail
  obtain ⟨W2, hW_, hb2, BE⟩ : ∃ W_, W_ = (W.alloc (.cells #[.int .i64 1, .int .i64 0, .int .i64 0, .int .i64 1, .int .i64 0, .string ⟨#[]⟩, .string ⟨#[]⟩, .int .i64 1, .int .i64 0, .int .i64 0, .int .i64 1, .int .i64 1, .string ⟨#[]⟩, .string ⟨#[]⟩, .int .i64 7, .int .i64 0, .int .i64 1, .int .i64 0, .int .i64 0, .string ⟨#[]⟩, .string ⟨#[]⟩] 36)) ∧ Below W.heap.size W W_ ∧ Blk W_ (W.heap.size) 36 #[.int .i64 1, .int .i64 0, .int .i64 0, .int .i64 1, .int .i64 0, .string ⟨#[]⟩, .string ⟨#[]⟩, .int .i64 1, .int .i64 0, .int .i64 0, .int .i64 1, .int .i64 1, .string ⟨#[]⟩, .string ⟨#[]⟩, .int .i64 7, .int .i64 0, .int .i64 1, .int .i64 0, .int .i64 0, .string ⟨#[]⟩, .string ⟨#[]⟩] :=
    ⟨_, rfl, ((Below.refl _ _).alloc (Nat.le_refl _) _), (blk_new_at W (W.heap.size) _ _ (by simp))⟩
  rw [← hW_]
  clear hW_
  refine (ValueB [nv ⟨1, 0, ByteArray.empty⟩, nv ⟨1, 1, ByteArray.empty⟩, nb 7 0 1] (.tuple #[.agg #[.int .i64 1, .int .i64 0, .string ⟨#[]⟩], .int .i64 0]) _ 3 3 _ _ W2.drew _ (by rfl) rfl BE rfl (by decide)).mono ?_
  rintro e w3 ⟨rfl, hb3⟩
  have hb3 : Below W2.heap.size W2 w3 := Below.trans (Below.refl _ _).drew hb3
  have hb4 := bch0 hb2 hb3
  have BE3 := BE.ext hb3
  have q := last7 (BE3.alloc (.cells #[.int .i64 1, .int .i64 0, .string ⟨#[]⟩] 30)) ⟨rfl, rfl, rfl, rfl, rfl, rfl, rfl⟩
  go_wp2_with fail
  clear q
  obtain ⟨W4, hW4, BO, hbO, hfar⟩ := set7 (BE3.alloc (.cells #[.int .i64 1, .int .i64 0, .string ⟨#[]⟩] 30)) (.int .i64 6) (.int .i64 0) (.int .i64 1) (.int .i64 0) (.int .i64 0) (.string ⟨#[]⟩) (.string ⟨#[]⟩)
  have BX := hfar _ _ _ (by have := BE3.lt; omega) (Blk.new w3 30 #[.int .i64 1, .int .i64 0, .string ⟨#[]⟩])
  rw [← hW4]
  have hb5 : Below W.heap.size W W4 := Below.trans (hb4.alloc hb4.size _) (hbO _ (Nat.le_refl _))
  refine (ValueB [nv ⟨1, 0, ByteArray.empty⟩, nv ⟨1, 1, ByteArray.empty⟩, nb 6 0 1] (.tuple #[.agg #[.int .i64 1, .int .i64 1, .string ⟨#[]⟩], .int .i64 0]) _ 3 3 _ _ W4 _ (by rfl) rfl BO rfl (by decide)).mono ?_
  rintro e w5 ⟨rfl, hb6⟩
  have hb7 := bch0 hb5 hb6
  have BO5 := BO.ext hb6
  have BX5 := BX.ext hb6
  have q := first7 (BO5.alloc (.cells #[.int .i64 1, .int .i64 1, .string ⟨#[]⟩] 30)) ⟨rfl, rfl, rfl, rfl, rfl, rfl, rfl⟩
  go_wp2_with fail
  clear q
  obtain ⟨W6, hW_, hb8, BY, BS⟩ : ∃ W_, W_ = ((w5.alloc (.cells #[.int .i64 1, .int .i64 1, .string ⟨#[]⟩] 30)).alloc (.cells #[.int .i64 1, .int .i64 0, .int .i64 0, .int .i64 1, .int .i64 0, .string ⟨#[]⟩, .string ⟨#[]⟩, .int .i64 3, .int .i64 0, .int .i64 0, .int .i64 0, .int .i64 0, .string ⟨#[]⟩, .string ⟨#[]⟩] 36)) ∧ Below w5.heap.size w5 W_ ∧ Blk W_ (w5.heap.size) 30 #[.int .i64 1, .int .i64 1, .string ⟨#[]⟩] ∧ Blk W_ (w5.heap.size + 1) 36 #[.int .i64 1, .int .i64 0, .int .i64 0, .int .i64 1, .int .i64 0, .string ⟨#[]⟩, .string ⟨#[]⟩, .int .i64 3, .int .i64 0, .int .i64 0, .int .i64 0, .int .i64 0, .string ⟨#[]⟩, .string ⟨#[]⟩] :=
    ⟨_, rfl, (((Below.refl _ _).alloc (Nat.le_refl _) _).alloc (by simp; try omega) _), ((blk_new_at w5 (w5.heap.size) _ _ (by simp)).alloc _), (blk_new_at (w5.alloc (.cells #[.int .i64 1, .int .i64 1, .string ⟨#[]⟩] 30)) (w5.heap.size + 1) _ _ (by simp))⟩
  rw [← hW_]
  clear hW_
  refine (ValueB [nv ⟨1, 0, ByteArray.empty⟩, nb 3 0 0] (.tuple #[.agg #[.int .i64 1, .int .i64 1, .string ⟨#[]⟩], .int .i64 0]) _ 2 2 _ _ W6 _ (by rfl) rfl BS rfl (by decide)).mono ?_
  rintro e w7 ⟨rfl, hb9⟩
  have hb10 := bch0 hb8 hb9
  have hb11 := bch0 hb7 hb10
  have BO7 := BO5.ext hb10
  have BX7 := BX5.ext hb10
  have BY7 := BY.ext hb9
  have q := first7 (BO7.alloc (.cells #[.int .i64 1, .int .i64 1, .string ⟨#[]⟩] 30)) ⟨rfl, rfl, rfl, rfl, rfl, rfl, rfl⟩
  go_wp2_with fail
  clear q
  obtain ⟨W8, hW_, hb12, BZ, BS8⟩ : ∃ W_, W_ = ((w7.alloc (.cells #[.int .i64 1, .int .i64 1, .string ⟨#[]⟩] 30)).alloc (.cells #[.int .i64 1, .int .i64 0, .int .i64 0, .int .i64 1, .int .i64 0, .string ⟨#[]⟩, .string ⟨#[]⟩, .int .i64 5, .int .i64 0, .int .i64 0, .int .i64 0, .int .i64 0, .string ⟨#[]⟩, .string ⟨#[]⟩] 36)) ∧ Below w7.heap.size w7 W_ ∧ Blk W_ (w7.heap.size) 30 #[.int .i64 1, .int .i64 1, .string ⟨#[]⟩] ∧ Blk W_ (w7.heap.size + 1) 36 #[.int .i64 1, .int .i64 0, .int .i64 0, .int .i64 1, .int .i64 0, .string ⟨#[]⟩, .string ⟨#[]⟩, .int .i64 5, .int .i64 0, .int .i64 0, .int .i64 0, .int .i64 0, .string ⟨#[]⟩, .string ⟨#[]⟩] :=
    ⟨_, rfl, (((Below.refl _ _).alloc (Nat.le_refl _) _).alloc (by simp; try omega) _), ((blk_new_at w7 (w7.heap.size) _ _ (by simp)).alloc _), (blk_new_at (w7.alloc (.cells #[.int .i64 1, .int .i64 1, .string ⟨#[]⟩] 30)) (w7.heap.size + 1) _ _ (by simp))⟩
  rw [← hW_]
  clear hW_
  refine (ValueB [nv ⟨1, 0, ByteArray.empty⟩, nb 5 0 0] (.tuple #[.agg #[.int .i64 1, .int .i64 0, .string ⟨#[]⟩], .int .i64 0]) _ 2 2 _ _ W8 _ (by rfl) rfl BS8 rfl (by decide)).mono ?_
  rintro e w9 ⟨rfl, hb13⟩
  have hb14 := bch0 hb12 hb13
  have hb15 := bch0 hb11 hb14
  have BX9 := BX7.ext hb14
  have BY9 := BY7.ext hb14
  have BZ9 := BZ.ext hb13
  go_wp2_with fail
  obtain ⟨W10, hW_, hb16, BW⟩ : ∃ W_, W_ = (w9.alloc (.cells #[.int .i64 1, .int .i64 0, .string ⟨#[]⟩] 30)) ∧ Below w9.heap.size w9 W_ ∧ Blk W_ (w9.heap.size) 30 #[.int .i64 1, .int .i64 0, .string ⟨#[]⟩] :=
    ⟨_, rfl, ((Below.refl _ _).alloc (Nat.le_refl _) _), (blk_new_at w9 (w9.heap.size) _ _ (by simp))⟩
  rw [← hW_]
  clear hW_
  have hb17 := bch0 hb15 hb16
  have D9 := fun w' (h : Below W10.heap.size W10.drew w') => DT w' (bch0 hb17 (Below.trans (Below.refl _ _).drew h))
  have DX := fun w' (h : Below W10.heap.size W10.drew w') => (BX9.ext hb16).three (Below.trans (Below.refl _ _).drew h)
  have DY := fun w' (h : Below W10.heap.size W10.drew w') => (BY9.ext hb16).three (Below.trans (Below.refl _ _).drew h)
  have DZ := fun w' (h : Below W10.heap.size W10.drew w') => (BZ9.ext hb16).three (Below.trans (Below.refl _ _).drew h)
  have DW := fun w' (h : Below W10.heap.size W10.drew w') => BW.three (Below.trans (Below.refl _ _).drew h)
  refine wp_region_one [(0, true), (1, true), (2, true), (3, true), (4, true), (5, true), (6, true), (7, true), (8, true), (9, true), (10, true), (11, true), (12, true), (13, true), (14, true), (15, true), (16, true), (17, true), (18, true), (19, true), (20, true), (21, true), (22, true), (23, true), (24, true), (25, true), (26, true), (27, true), (28, true), (29, true), (30, true), (31, true), (32, true), (33, true), (34, true), (35, true), (36, true), (37, true), (38, true), (39, true), (40, true), (41, true), (42, true), (43, true), (44, true), (45, true), (46, true), (47, true), (48, true)] (by kernel_rfl) (by kernel_rfl) (by kernel_rfl) (by decide) ?_
  repeat ((with_reducible show wpPerm _ _ _ _ ((_, true) :: _) _ _); (first | (refine wpPerm_on (v := ?_) rfl rfl (wanted_free rfl) (fun w' hS => ?_) ?_; rotate_left; (focus (go_simp; (try with_reducible rfl); done)); try simp only [Act.put, List.setIfInBounds_toArray, List.set_cons_zero, List.set_cons_succ]) | (refine wpPerm_on (v := ?_) rfl rfl (wanted_yes rfl rfl rfl) (fun w' hS => ?_) ?_; rotate_left; (focus (go_simp; (try with_reducible rfl); done)); try simp only [Act.put, List.setIfInBounds_toArray, List.set_cons_zero, List.set_cons_succ]) | (refine wpPerm_off rfl rfl (wanted_no rfl rfl rfl) ?_; try simp only [Act.put, List.setIfInBounds_toArray, List.set_cons_zero, List.set_cons_succ]) | (refine wpPerm_off rfl rfl (wanted_undef rfl rfl rfl) ?_; try simp only [Act.put, List.setIfInBounds_toArray, List.set_cons_zero, List.set_cons_succ])))
  refine wpPerm_done ?_
  clear D9 DX DY DZ DW DT
  go_wp2
  go_ret
  exact ⟨rfl, Below.trans hb1 (Below.mono (bch0 hbW hb17).drew hb1.size)⟩

set_option maxRecDepth 1000000 in
set_option maxHeartbeats 4000000 in
theorem three_02 (a b : Int) (w : World) (ha : ok64 a) (hb : ok64 b) (h3 : a % 3 = 0) (k3 : b % 3 = 2) :
    Calls Try.prog 5 #[.int .i64 a, .int .i64 b] w fun e w' => e = .returned (.bool true) ∧ Below w.heap.size w w' := by
  have H3 := Lib.hid h3
  have K3 := Lib.hid k3
  clear h3 k3
  have e0 := fun W => eqlS 1 0 ⟨#[]⟩ 1 0 ⟨#[]⟩ true (by decide) W
  have e1 := fun W => eqlS 1 1 ⟨#[]⟩ 1 1 ⟨#[]⟩ true (by decide) W
  have e2 := fun W => eqlS 0 0 ⟨#[]⟩ 0 0 ⟨#[]⟩ true (by decide) W
  have hq : IntKind.i64.wrap ((IntKind.i64.wrap 0).tdiv 2) = 0 := by decide
  go_enter Try.func5, Try.ntmps5
  go_wp2_with fail
  refine (known _).mono ?_
  rintro e w1 ⟨rfl, hb1⟩
  go_wp2_with fail
  refine (withinr _ _ _ H3.out _ (by decide) (by decide) ha).mono ?_
  rintro e w2 ⟨rfl, rfl⟩
  go_wp2_with fail
  refine (withinr _ _ _ K3.out _ (by decide) (by decide) hb).mono ?_
  rintro e w2 ⟨rfl, rfl⟩
  go_wp2_with fail
  obtain ⟨W, hW_, hbW, BT⟩ : ∃ W_, W_ = (w1.alloc (.cells #[.int .i64 1, .int .i64 0, .string ⟨#[]⟩, .int .i64 1, .int .i64 1, .string ⟨#[]⟩, .int .i64 0, .int .i64 0, .string ⟨#[]⟩] 30)) ∧ Below w1.heap.size w1 W_ ∧ Blk W_ (w1.heap.size) 30 #[.int .i64 1, .int .i64 0, .string ⟨#[]⟩, .int .i64 1, .int .i64 1, .string ⟨#[]⟩, .int .i64 0, .int .i64 0, .string ⟨#[]⟩] :=
    ⟨_, rfl, ((Below.refl _ _).alloc (Nat.le_refl _) _), (blk_new_at w1 (w1.heap.size) _ _ (by simp))⟩
  rw [← hW_]
  clear hW_
  have DT := fun w' (h : Below W.heap.size W w') => nine BT h
  have D := fun w' (h : Below W.heap.size W.drew w') => DT w' (Below.trans (Below.refl _ _).drew h)
  refine wp_region_one [(0, true), (1, true), (2, true), (3, true), (4, true), (5, true), (6, true), (7, true), (8, true), (9, true), (10, true), (11, false), (12, true)] (by kernel_rfl) (by kernel_rfl) (by kernel_rfl) (by decide) ?_
  repeat ((with_reducible show wpPerm _ _ _ _ ((_, true) :: _) _ _); (first | (refine wpPerm_on (v := ?_) rfl rfl (wanted_free rfl) (fun w' hS => ?_) ?_; rotate_left; (focus (go_simp; (try with_reducible rfl); done)); try simp only [Act.put, List.setIfInBounds_toArray, List.set_cons_zero, List.set_cons_succ]) | (refine wpPerm_on (v := ?_) rfl rfl (wanted_yes rfl rfl rfl) (fun w' hS => ?_) ?_; rotate_left; (focus (go_simp; (try with_reducible rfl); done)); try simp only [Act.put, List.setIfInBounds_toArray, List.set_cons_zero, List.set_cons_succ]) | (refine wpPerm_off rfl rfl (wanted_no rfl rfl rfl) ?_; try simp only [Act.put, List.setIfInBounds_toArray, List.set_cons_zero, List.set_cons_succ]) | (refine wpPerm_off rfl rfl (wanted_undef rfl rfl rfl) ?_; try simp only [Act.put, List.setIfInBounds_toArray, List.set_cons_zero, List.set_cons_succ])))
  refine wpPerm_do rfl (wanted_free rfl) (fun K hK => ?_); go_simp
  refine hK.out _ _ (show Below W.heap.size W.drew (W.drew.alloc _) from (Below.refl W.heap.size W.drew).alloc (Nat.le_refl _) _) ?_
  clear hK K
  repeat ((with_reducible show wpPerm _ _ _ _ ((_, true) :: _) _ _); (first | (refine wpPerm_on (v := ?_) rfl rfl (wanted_free rfl) (fun w' hS => ?_) ?_; rotate_left; (focus (go_simp; (try with_reducible rfl); done)); try simp only [Act.put, List.setIfInBounds_toArray, List.set_cons_zero, List.set_cons_succ]) | (refine wpPerm_on (v := ?_) rfl rfl (wanted_yes rfl rfl rfl) (fun w' hS => ?_) ?_; rotate_left; (focus (go_simp; (try with_reducible rfl); done)); try simp only [Act.put, List.setIfInBounds_toArray, List.set_cons_zero, List.set_cons_succ]) | (refine wpPerm_off rfl rfl (wanted_no rfl rfl rfl) ?_; try simp only [Act.put, List.setIfInBounds_toArray, List.set_cons_zero, List.set_cons_succ]) | (refine wpPerm_off rfl rfl (wanted_undef rfl rfl rfl) ?_; try simp only [Act.put, List.setIfInBounds_toArray, List.set_cons_zero, List.set_cons_succ])))
  refine wpPerm_done ?_
  clear D
  go_wp2_with fail
  obtain ⟨W2, hW_, hb2, BE⟩ : ∃ W_, W_ = (W.alloc (.cells #[.int .i64 1, .int .i64 0, .int .i64 0, .int .i64 1, .int .i64 0, .string ⟨#[]⟩, .string ⟨#[]⟩, .int .i64 1, .int .i64 0, .int .i64 0, .int .i64 0, .int .i64 0, .string ⟨#[]⟩, .string ⟨#[]⟩, .int .i64 7, .int .i64 0, .int .i64 1, .int .i64 0, .int .i64 0, .string ⟨#[]⟩, .string ⟨#[]⟩] 36)) ∧ Below W.heap.size W W_ ∧ Blk W_ (W.heap.size) 36 #[.int .i64 1, .int .i64 0, .int .i64 0, .int .i64 1, .int .i64 0, .string ⟨#[]⟩, .string ⟨#[]⟩, .int .i64 1, .int .i64 0, .int .i64 0, .int .i64 0, .int .i64 0, .string ⟨#[]⟩, .string ⟨#[]⟩, .int .i64 7, .int .i64 0, .int .i64 1, .int .i64 0, .int .i64 0, .string ⟨#[]⟩, .string ⟨#[]⟩] :=
    ⟨_, rfl, ((Below.refl _ _).alloc (Nat.le_refl _) _), (blk_new_at W (W.heap.size) _ _ (by simp))⟩
  rw [← hW_]
  clear hW_
  refine (ValueB [nv ⟨1, 0, ByteArray.empty⟩, nv ⟨0, 0, ByteArray.empty⟩, nb 7 0 1] (.tuple #[.agg #[.int .i64 1, .int .i64 0, .string ⟨#[]⟩], .int .i64 0]) _ 3 3 _ _ W2.drew _ (by rfl) rfl BE rfl (by decide)).mono ?_
  rintro e w3 ⟨rfl, hb3⟩
  have hb3 : Below W2.heap.size W2 w3 := Below.trans (Below.refl _ _).drew hb3
  have hb4 := bch0 hb2 hb3
  have BE3 := BE.ext hb3
  have q := last7 (BE3.alloc (.cells #[.int .i64 1, .int .i64 0, .string ⟨#[]⟩] 30)) ⟨rfl, rfl, rfl, rfl, rfl, rfl, rfl⟩
  go_wp2_with fail
  clear q
  obtain ⟨W4, hW4, BO, hbO, hfar⟩ := set7 (BE3.alloc (.cells #[.int .i64 1, .int .i64 0, .string ⟨#[]⟩] 30)) (.int .i64 6) (.int .i64 0) (.int .i64 1) (.int .i64 0) (.int .i64 0) (.string ⟨#[]⟩) (.string ⟨#[]⟩)
  have BX := hfar _ _ _ (by have := BE3.lt; omega) (Blk.new w3 30 #[.int .i64 1, .int .i64 0, .string ⟨#[]⟩])
  rw [← hW4]
  have hb5 : Below W.heap.size W W4 := Below.trans (hb4.alloc hb4.size _) (hbO _ (Nat.le_refl _))
  refine (ValueB [nv ⟨1, 0, ByteArray.empty⟩, nv ⟨0, 0, ByteArray.empty⟩, nb 6 0 1] (.tuple #[.agg #[.int .i64 0, .int .i64 0, .string ⟨#[]⟩], .int .i64 0]) _ 3 3 _ _ W4 _ (by rfl) rfl BO rfl (by decide)).mono ?_
  rintro e w5 ⟨rfl, hb6⟩
  have hb7 := bch0 hb5 hb6
  have BO5 := BO.ext hb6
  have BX5 := BX.ext hb6
  have q := first7 (BO5.alloc (.cells #[.int .i64 0, .int .i64 0, .string ⟨#[]⟩] 30)) ⟨rfl, rfl, rfl, rfl, rfl, rfl, rfl⟩
  go_wp2_with fail
  clear q
  obtain ⟨W6, hW_, hb8, BY, BS⟩ : ∃ W_, W_ = ((w5.alloc (.cells #[.int .i64 0, .int .i64 0, .string ⟨#[]⟩] 30)).alloc (.cells #[.int .i64 1, .int .i64 0, .int .i64 0, .int .i64 1, .int .i64 0, .string ⟨#[]⟩, .string ⟨#[]⟩, .int .i64 3, .int .i64 0, .int .i64 0, .int .i64 0, .int .i64 0, .string ⟨#[]⟩, .string ⟨#[]⟩] 36)) ∧ Below w5.heap.size w5 W_ ∧ Blk W_ (w5.heap.size) 30 #[.int .i64 0, .int .i64 0, .string ⟨#[]⟩] ∧ Blk W_ (w5.heap.size + 1) 36 #[.int .i64 1, .int .i64 0, .int .i64 0, .int .i64 1, .int .i64 0, .string ⟨#[]⟩, .string ⟨#[]⟩, .int .i64 3, .int .i64 0, .int .i64 0, .int .i64 0, .int .i64 0, .string ⟨#[]⟩, .string ⟨#[]⟩] :=
    ⟨_, rfl, (((Below.refl _ _).alloc (Nat.le_refl _) _).alloc (by simp; try omega) _), ((blk_new_at w5 (w5.heap.size) _ _ (by simp)).alloc _), (blk_new_at (w5.alloc (.cells #[.int .i64 0, .int .i64 0, .string ⟨#[]⟩] 30)) (w5.heap.size + 1) _ _ (by simp))⟩
  rw [← hW_]
  clear hW_
  refine (ValueB [nv ⟨1, 0, ByteArray.empty⟩, nb 3 0 0] (.tuple #[.agg #[.int .i64 1, .int .i64 1, .string ⟨#[]⟩], .int .i64 0]) _ 2 2 _ _ W6 _ (by rfl) rfl BS rfl (by decide)).mono ?_
  rintro e w7 ⟨rfl, hb9⟩
  have hb10 := bch0 hb8 hb9
  have hb11 := bch0 hb7 hb10
  have BO7 := BO5.ext hb10
  have BX7 := BX5.ext hb10
  have BY7 := BY.ext hb9
  have q := first7 (BO7.alloc (.cells #[.int .i64 1, .int .i64 1, .string ⟨#[]⟩] 30)) ⟨rfl, rfl, rfl, rfl, rfl, rfl, rfl⟩
  go_wp2_with fail
  clear q
  obtain ⟨W8, hW_, hb12, BZ, BS8⟩ : ∃ W_, W_ = ((w7.alloc (.cells #[.int .i64 1, .int .i64 1, .string ⟨#[]⟩] 30)).alloc (.cells #[.int .i64 1, .int .i64 0, .int .i64 0, .int .i64 1, .int .i64 0, .string ⟨#[]⟩, .string ⟨#[]⟩, .int .i64 5, .int .i64 0, .int .i64 0, .int .i64 0, .int .i64 0, .string ⟨#[]⟩, .string ⟨#[]⟩] 36)) ∧ Below w7.heap.size w7 W_ ∧ Blk W_ (w7.heap.size) 30 #[.int .i64 1, .int .i64 1, .string ⟨#[]⟩] ∧ Blk W_ (w7.heap.size + 1) 36 #[.int .i64 1, .int .i64 0, .int .i64 0, .int .i64 1, .int .i64 0, .string ⟨#[]⟩, .string ⟨#[]⟩, .int .i64 5, .int .i64 0, .int .i64 0, .int .i64 0, .int .i64 0, .string ⟨#[]⟩, .string ⟨#[]⟩] :=
    ⟨_, rfl, (((Below.refl _ _).alloc (Nat.le_refl _) _).alloc (by simp; try omega) _), ((blk_new_at w7 (w7.heap.size) _ _ (by simp)).alloc _), (blk_new_at (w7.alloc (.cells #[.int .i64 1, .int .i64 1, .string ⟨#[]⟩] 30)) (w7.heap.size + 1) _ _ (by simp))⟩
  rw [← hW_]
  clear hW_
  refine (ValueB [nv ⟨1, 0, ByteArray.empty⟩, nb 5 0 0] (.tuple #[.agg #[.int .i64 1, .int .i64 0, .string ⟨#[]⟩], .int .i64 0]) _ 2 2 _ _ W8 _ (by rfl) rfl BS8 rfl (by decide)).mono ?_
  rintro e w9 ⟨rfl, hb13⟩
  have hb14 := bch0 hb12 hb13
  have hb15 := bch0 hb11 hb14
  have BX9 := BX7.ext hb14
  have BY9 := BY7.ext hb14
  have BZ9 := BZ.ext hb13
  go_wp2_with fail
  obtain ⟨W10, hW_, hb16, BW⟩ : ∃ W_, W_ = (w9.alloc (.cells #[.int .i64 1, .int .i64 0, .string ⟨#[]⟩] 30)) ∧ Below w9.heap.size w9 W_ ∧ Blk W_ (w9.heap.size) 30 #[.int .i64 1, .int .i64 0, .string ⟨#[]⟩] :=
    ⟨_, rfl, ((Below.refl _ _).alloc (Nat.le_refl _) _), (blk_new_at w9 (w9.heap.size) _ _ (by simp))⟩
  rw [← hW_]
  clear hW_
  have hb17 := bch0 hb15 hb16
  have D9 := fun w' (h : Below W10.heap.size W10.drew w') => DT w' (bch0 hb17 (Below.trans (Below.refl _ _).drew h))
  have DX := fun w' (h : Below W10.heap.size W10.drew w') => (BX9.ext hb16).three (Below.trans (Below.refl _ _).drew h)
  have DY := fun w' (h : Below W10.heap.size W10.drew w') => (BY9.ext hb16).three (Below.trans (Below.refl _ _).drew h)
  have DZ := fun w' (h : Below W10.heap.size W10.drew w') => (BZ9.ext hb16).three (Below.trans (Below.refl _ _).drew h)
  have DW := fun w' (h : Below W10.heap.size W10.drew w') => BW.three (Below.trans (Below.refl _ _).drew h)
  refine wp_region_one [(0, true), (1, true), (2, true), (3, true), (4, true), (5, true), (6, true), (7, true), (8, true), (9, true), (10, true), (11, true), (12, true), (13, true), (14, true), (15, true), (16, true), (17, true), (18, true), (19, true), (20, true), (21, true), (22, true), (23, true), (24, true), (25, true), (26, true), (27, true), (28, true), (29, true), (30, true), (31, true), (32, true), (33, true), (34, true), (35, true), (36, true), (37, true), (38, true), (39, true), (40, true), (41, true), (42, true), (43, true), (44, true), (45, true), (46, true), (47, true), (48, true)] (by kernel_rfl) (by kernel_rfl) (by kernel_rfl) (by decide) ?_
  repeat ((with_reducible show wpPerm _ _ _ _ ((_, true) :: _) _ _); (first | (refine wpPerm_on (v := ?_) rfl rfl (wanted_free rfl) (fun w' hS => ?_) ?_; rotate_left; (focus (go_simp; (try with_reducible rfl); done)); try simp only [Act.put, List.setIfInBounds_toArray, List.set_cons_zero, List.set_cons_succ]) | (refine wpPerm_on (v := ?_) rfl rfl (wanted_yes rfl rfl rfl) (fun w' hS => ?_) ?_; rotate_left; (focus (go_simp; (try with_reducible rfl); done)); try simp only [Act.put, List.setIfInBounds_toArray, List.set_cons_zero, List.set_cons_succ]) | (refine wpPerm_off rfl rfl (wanted_no rfl rfl rfl) ?_; try simp only [Act.put, List.setIfInBounds_toArray, List.set_cons_zero, List.set_cons_succ]) | (refine wpPerm_off rfl rfl (wanted_undef rfl rfl rfl) ?_; try simp only [Act.put, List.setIfInBounds_toArray, List.set_cons_zero, List.set_cons_succ])))
  refine wpPerm_done ?_
  clear D9 DX DY DZ DW DT
  go_wp2
  go_ret
  exact ⟨rfl, Below.trans hb1 (Below.mono (bch0 hbW hb17).drew hb1.size)⟩

set_option maxRecDepth 1000000 in
set_option maxHeartbeats 4000000 in
theorem three_10 (a b : Int) (w : World) (ha : ok64 a) (hb : ok64 b) (h3 : a % 3 = 1) (k3 : b % 3 = 0) :
    Calls Try.prog 5 #[.int .i64 a, .int .i64 b] w fun e w' => e = .returned (.bool true) ∧ Below w.heap.size w w' := by
  have H3 := Lib.hid h3
  have K3 := Lib.hid k3
  clear h3 k3
  have e0 := fun W => eqlS 1 0 ⟨#[]⟩ 1 0 ⟨#[]⟩ true (by decide) W
  have e1 := fun W => eqlS 1 1 ⟨#[]⟩ 1 1 ⟨#[]⟩ true (by decide) W
  have e2 := fun W => eqlS 0 0 ⟨#[]⟩ 0 0 ⟨#[]⟩ true (by decide) W
  have hq : IntKind.i64.wrap ((IntKind.i64.wrap 1).tdiv 2) = 0 := by decide
  go_enter Try.func5, Try.ntmps5
  go_wp2_with fail
  refine (known _).mono ?_
  rintro e w1 ⟨rfl, hb1⟩
  go_wp2_with fail
  refine (withinr _ _ _ H3.out _ (by decide) (by decide) ha).mono ?_
  rintro e w2 ⟨rfl, rfl⟩
  go_wp2_with fail
  refine (withinr _ _ _ K3.out _ (by decide) (by decide) hb).mono ?_
  rintro e w2 ⟨rfl, rfl⟩
  go_wp2_with fail
  obtain ⟨W, hW_, hbW, BT⟩ : ∃ W_, W_ = (w1.alloc (.cells #[.int .i64 1, .int .i64 0, .string ⟨#[]⟩, .int .i64 1, .int .i64 1, .string ⟨#[]⟩, .int .i64 0, .int .i64 0, .string ⟨#[]⟩] 30)) ∧ Below w1.heap.size w1 W_ ∧ Blk W_ (w1.heap.size) 30 #[.int .i64 1, .int .i64 0, .string ⟨#[]⟩, .int .i64 1, .int .i64 1, .string ⟨#[]⟩, .int .i64 0, .int .i64 0, .string ⟨#[]⟩] :=
    ⟨_, rfl, ((Below.refl _ _).alloc (Nat.le_refl _) _), (blk_new_at w1 (w1.heap.size) _ _ (by simp))⟩
  rw [← hW_]
  clear hW_
  have DT := fun w' (h : Below W.heap.size W w') => nine BT h
  have D := fun w' (h : Below W.heap.size W.drew w') => DT w' (Below.trans (Below.refl _ _).drew h)
  refine wp_region_one [(0, true), (1, true), (2, true), (3, true), (4, true), (5, true), (6, true), (7, true), (8, true), (9, true), (10, true), (11, false), (12, true)] (by kernel_rfl) (by kernel_rfl) (by kernel_rfl) (by decide) ?_
  repeat ((with_reducible show wpPerm _ _ _ _ ((_, true) :: _) _ _); (first | (refine wpPerm_on (v := ?_) rfl rfl (wanted_free rfl) (fun w' hS => ?_) ?_; rotate_left; (focus (go_simp; (try with_reducible rfl); done)); try simp only [Act.put, List.setIfInBounds_toArray, List.set_cons_zero, List.set_cons_succ]) | (refine wpPerm_on (v := ?_) rfl rfl (wanted_yes rfl rfl rfl) (fun w' hS => ?_) ?_; rotate_left; (focus (go_simp; (try with_reducible rfl); done)); try simp only [Act.put, List.setIfInBounds_toArray, List.set_cons_zero, List.set_cons_succ]) | (refine wpPerm_off rfl rfl (wanted_no rfl rfl rfl) ?_; try simp only [Act.put, List.setIfInBounds_toArray, List.set_cons_zero, List.set_cons_succ]) | (refine wpPerm_off rfl rfl (wanted_undef rfl rfl rfl) ?_; try simp only [Act.put, List.setIfInBounds_toArray, List.set_cons_zero, List.set_cons_succ])))
  refine wpPerm_do rfl (wanted_free rfl) (fun K hK => ?_); go_simp
  refine hK.out _ _ (show Below W.heap.size W.drew (W.drew.alloc _) from (Below.refl W.heap.size W.drew).alloc (Nat.le_refl _) _) ?_
  clear hK K
  repeat ((with_reducible show wpPerm _ _ _ _ ((_, true) :: _) _ _); (first | (refine wpPerm_on (v := ?_) rfl rfl (wanted_free rfl) (fun w' hS => ?_) ?_; rotate_left; (focus (go_simp; (try with_reducible rfl); done)); try simp only [Act.put, List.setIfInBounds_toArray, List.set_cons_zero, List.set_cons_succ]) | (refine wpPerm_on (v := ?_) rfl rfl (wanted_yes rfl rfl rfl) (fun w' hS => ?_) ?_; rotate_left; (focus (go_simp; (try with_reducible rfl); done)); try simp only [Act.put, List.setIfInBounds_toArray, List.set_cons_zero, List.set_cons_succ]) | (refine wpPerm_off rfl rfl (wanted_no rfl rfl rfl) ?_; try simp only [Act.put, List.setIfInBounds_toArray, List.set_cons_zero, List.set_cons_succ]) | (refine wpPerm_off rfl rfl (wanted_undef rfl rfl rfl) ?_; try simp only [Act.put, List.setIfInBounds_toArray, List.set_cons_zero, List.set_cons_succ])))
  refine wpPerm_done ?_
  clear D
  go_wp2_with fail
  obtain ⟨W2, hW_, hb2, BE⟩ : ∃ W_, W_ = (W.alloc (.cells #[.int .i64 1, .int .i64 0, .int .i64 0, .int .i64 1, .int .i64 1, .string ⟨#[]⟩, .string ⟨#[]⟩, .int .i64 1, .int .i64 0, .int .i64 0, .int .i64 1, .int .i64 0, .string ⟨#[]⟩, .string ⟨#[]⟩, .int .i64 7, .int .i64 0, .int .i64 1, .int .i64 0, .int .i64 0, .string ⟨#[]⟩, .string ⟨#[]⟩] 36)) ∧ Below W.heap.size W W_ ∧ Blk W_ (W.heap.size) 36 #[.int .i64 1, .int .i64 0, .int .i64 0, .int .i64 1, .int .i64 1, .string ⟨#[]⟩, .string ⟨#[]⟩, .int .i64 1, .int .i64 0, .int .i64 0, .int .i64 1, .int .i64 0, .string ⟨#[]⟩, .string ⟨#[]⟩, .int .i64 7, .int .i64 0, .int .i64 1, .int .i64 0, .int .i64 0, .string ⟨#[]⟩, .string ⟨#[]⟩] :=
    ⟨_, rfl, ((Below.refl _ _).alloc (Nat.le_refl _) _), (blk_new_at W (W.heap.size) _ _ (by simp))⟩
  rw [← hW_]
  clear hW_
  refine (ValueB [nv ⟨1, 1, ByteArray.empty⟩, nv ⟨1, 0, ByteArray.empty⟩, nb 7 0 1] (.tuple #[.agg #[.int .i64 1, .int .i64 0, .string ⟨#[]⟩], .int .i64 0]) _ 3 3 _ _ W2.drew _ (by rfl) rfl BE rfl (by decide)).mono ?_
  rintro e w3 ⟨rfl, hb3⟩
  have hb3 : Below W2.heap.size W2 w3 := Below.trans (Below.refl _ _).drew hb3
  have hb4 := bch0 hb2 hb3
  have BE3 := BE.ext hb3
  have q := last7 (BE3.alloc (.cells #[.int .i64 1, .int .i64 0, .string ⟨#[]⟩] 30)) ⟨rfl, rfl, rfl, rfl, rfl, rfl, rfl⟩
  go_wp2_with fail
  clear q
  obtain ⟨W4, hW4, BO, hbO, hfar⟩ := set7 (BE3.alloc (.cells #[.int .i64 1, .int .i64 0, .string ⟨#[]⟩] 30)) (.int .i64 6) (.int .i64 0) (.int .i64 1) (.int .i64 0) (.int .i64 0) (.string ⟨#[]⟩) (.string ⟨#[]⟩)
  have BX := hfar _ _ _ (by have := BE3.lt; omega) (Blk.new w3 30 #[.int .i64 1, .int .i64 0, .string ⟨#[]⟩])
  rw [← hW4]
  have hb5 : Below W.heap.size W W4 := Below.trans (hb4.alloc hb4.size _) (hbO _ (Nat.le_refl _))
  refine (ValueB [nv ⟨1, 1, ByteArray.empty⟩, nv ⟨1, 0, ByteArray.empty⟩, nb 6 0 1] (.tuple #[.agg #[.int .i64 1, .int .i64 1, .string ⟨#[]⟩], .int .i64 0]) _ 3 3 _ _ W4 _ (by rfl) rfl BO rfl (by decide)).mono ?_
  rintro e w5 ⟨rfl, hb6⟩
  have hb7 := bch0 hb5 hb6
  have BO5 := BO.ext hb6
  have BX5 := BX.ext hb6
  have q := first7 (BO5.alloc (.cells #[.int .i64 1, .int .i64 1, .string ⟨#[]⟩] 30)) ⟨rfl, rfl, rfl, rfl, rfl, rfl, rfl⟩
  go_wp2_with fail
  clear q
  obtain ⟨W6, hW_, hb8, BY, BS⟩ : ∃ W_, W_ = ((w5.alloc (.cells #[.int .i64 1, .int .i64 1, .string ⟨#[]⟩] 30)).alloc (.cells #[.int .i64 1, .int .i64 0, .int .i64 0, .int .i64 1, .int .i64 1, .string ⟨#[]⟩, .string ⟨#[]⟩, .int .i64 3, .int .i64 0, .int .i64 0, .int .i64 0, .int .i64 0, .string ⟨#[]⟩, .string ⟨#[]⟩] 36)) ∧ Below w5.heap.size w5 W_ ∧ Blk W_ (w5.heap.size) 30 #[.int .i64 1, .int .i64 1, .string ⟨#[]⟩] ∧ Blk W_ (w5.heap.size + 1) 36 #[.int .i64 1, .int .i64 0, .int .i64 0, .int .i64 1, .int .i64 1, .string ⟨#[]⟩, .string ⟨#[]⟩, .int .i64 3, .int .i64 0, .int .i64 0, .int .i64 0, .int .i64 0, .string ⟨#[]⟩, .string ⟨#[]⟩] :=
    ⟨_, rfl, (((Below.refl _ _).alloc (Nat.le_refl _) _).alloc (by simp; try omega) _), ((blk_new_at w5 (w5.heap.size) _ _ (by simp)).alloc _), (blk_new_at (w5.alloc (.cells #[.int .i64 1, .int .i64 1, .string ⟨#[]⟩] 30)) (w5.heap.size + 1) _ _ (by simp))⟩
  rw [← hW_]
  clear hW_
  refine (ValueB [nv ⟨1, 1, ByteArray.empty⟩, nb 3 0 0] (.tuple #[.agg #[.int .i64 1, .int .i64 0, .string ⟨#[]⟩], .int .i64 0]) _ 2 2 _ _ W6 _ (by rfl) rfl BS rfl (by decide)).mono ?_
  rintro e w7 ⟨rfl, hb9⟩
  have hb10 := bch0 hb8 hb9
  have hb11 := bch0 hb7 hb10
  have BO7 := BO5.ext hb10
  have BX7 := BX5.ext hb10
  have BY7 := BY.ext hb9
  have q := first7 (BO7.alloc (.cells #[.int .i64 1, .int .i64 0, .string ⟨#[]⟩] 30)) ⟨rfl, rfl, rfl, rfl, rfl, rfl, rfl⟩
  go_wp2_with fail
  clear q
  obtain ⟨W8, hW_, hb12, BZ, BS8⟩ : ∃ W_, W_ = ((w7.alloc (.cells #[.int .i64 1, .int .i64 0, .string ⟨#[]⟩] 30)).alloc (.cells #[.int .i64 1, .int .i64 0, .int .i64 0, .int .i64 1, .int .i64 1, .string ⟨#[]⟩, .string ⟨#[]⟩, .int .i64 5, .int .i64 0, .int .i64 0, .int .i64 0, .int .i64 0, .string ⟨#[]⟩, .string ⟨#[]⟩] 36)) ∧ Below w7.heap.size w7 W_ ∧ Blk W_ (w7.heap.size) 30 #[.int .i64 1, .int .i64 0, .string ⟨#[]⟩] ∧ Blk W_ (w7.heap.size + 1) 36 #[.int .i64 1, .int .i64 0, .int .i64 0, .int .i64 1, .int .i64 1, .string ⟨#[]⟩, .string ⟨#[]⟩, .int .i64 5, .int .i64 0, .int .i64 0, .int .i64 0, .int .i64 0, .string ⟨#[]⟩, .string ⟨#[]⟩] :=
    ⟨_, rfl, (((Below.refl _ _).alloc (Nat.le_refl _) _).alloc (by simp; try omega) _), ((blk_new_at w7 (w7.heap.size) _ _ (by simp)).alloc _), (blk_new_at (w7.alloc (.cells #[.int .i64 1, .int .i64 0, .string ⟨#[]⟩] 30)) (w7.heap.size + 1) _ _ (by simp))⟩
  rw [← hW_]
  clear hW_
  refine (ValueB [nv ⟨1, 1, ByteArray.empty⟩, nb 5 0 0] (.tuple #[.agg #[.int .i64 1, .int .i64 0, .string ⟨#[]⟩], .int .i64 0]) _ 2 2 _ _ W8 _ (by rfl) rfl BS8 rfl (by decide)).mono ?_
  rintro e w9 ⟨rfl, hb13⟩
  have hb14 := bch0 hb12 hb13
  have hb15 := bch0 hb11 hb14
  have BX9 := BX7.ext hb14
  have BY9 := BY7.ext hb14
  have BZ9 := BZ.ext hb13
  go_wp2_with fail
  obtain ⟨W10, hW_, hb16, BW⟩ : ∃ W_, W_ = (w9.alloc (.cells #[.int .i64 1, .int .i64 0, .string ⟨#[]⟩] 30)) ∧ Below w9.heap.size w9 W_ ∧ Blk W_ (w9.heap.size) 30 #[.int .i64 1, .int .i64 0, .string ⟨#[]⟩] :=
    ⟨_, rfl, ((Below.refl _ _).alloc (Nat.le_refl _) _), (blk_new_at w9 (w9.heap.size) _ _ (by simp))⟩
  rw [← hW_]
  clear hW_
  have hb17 := bch0 hb15 hb16
  have D9 := fun w' (h : Below W10.heap.size W10.drew w') => DT w' (bch0 hb17 (Below.trans (Below.refl _ _).drew h))
  have DX := fun w' (h : Below W10.heap.size W10.drew w') => (BX9.ext hb16).three (Below.trans (Below.refl _ _).drew h)
  have DY := fun w' (h : Below W10.heap.size W10.drew w') => (BY9.ext hb16).three (Below.trans (Below.refl _ _).drew h)
  have DZ := fun w' (h : Below W10.heap.size W10.drew w') => (BZ9.ext hb16).three (Below.trans (Below.refl _ _).drew h)
  have DW := fun w' (h : Below W10.heap.size W10.drew w') => BW.three (Below.trans (Below.refl _ _).drew h)
  refine wp_region_one [(0, true), (1, true), (2, true), (3, true), (4, true), (5, true), (6, true), (7, true), (8, true), (9, true), (10, true), (11, true), (12, true), (13, true), (14, true), (15, true), (16, true), (17, true), (18, true), (19, true), (20, true), (21, true), (22, true), (23, true), (24, true), (25, true), (26, true), (27, true), (28, true), (29, true), (30, true), (31, true), (32, true), (33, true), (34, true), (35, true), (36, true), (37, true), (38, true), (39, true), (40, true), (41, true), (42, true), (43, true), (44, true), (45, true), (46, true), (47, true), (48, true)] (by kernel_rfl) (by kernel_rfl) (by kernel_rfl) (by decide) ?_
  repeat ((with_reducible show wpPerm _ _ _ _ ((_, true) :: _) _ _); (first | (refine wpPerm_on (v := ?_) rfl rfl (wanted_free rfl) (fun w' hS => ?_) ?_; rotate_left; (focus (go_simp; (try with_reducible rfl); done)); try simp only [Act.put, List.setIfInBounds_toArray, List.set_cons_zero, List.set_cons_succ]) | (refine wpPerm_on (v := ?_) rfl rfl (wanted_yes rfl rfl rfl) (fun w' hS => ?_) ?_; rotate_left; (focus (go_simp; (try with_reducible rfl); done)); try simp only [Act.put, List.setIfInBounds_toArray, List.set_cons_zero, List.set_cons_succ]) | (refine wpPerm_off rfl rfl (wanted_no rfl rfl rfl) ?_; try simp only [Act.put, List.setIfInBounds_toArray, List.set_cons_zero, List.set_cons_succ]) | (refine wpPerm_off rfl rfl (wanted_undef rfl rfl rfl) ?_; try simp only [Act.put, List.setIfInBounds_toArray, List.set_cons_zero, List.set_cons_succ])))
  refine wpPerm_done ?_
  clear D9 DX DY DZ DW DT
  go_wp2
  go_ret
  exact ⟨rfl, Below.trans hb1 (Below.mono (bch0 hbW hb17).drew hb1.size)⟩

set_option maxRecDepth 1000000 in
set_option maxHeartbeats 4000000 in
theorem three_11 (a b : Int) (w : World) (ha : ok64 a) (hb : ok64 b) (h3 : a % 3 = 1) (k3 : b % 3 = 1) :
    Calls Try.prog 5 #[.int .i64 a, .int .i64 b] w fun e w' => e = .returned (.bool true) ∧ Below w.heap.size w w' := by
  have H3 := Lib.hid h3
  have K3 := Lib.hid k3
  clear h3 k3
  have e0 := fun W => eqlS 1 0 ⟨#[]⟩ 1 0 ⟨#[]⟩ true (by decide) W
  have e1 := fun W => eqlS 1 1 ⟨#[]⟩ 1 1 ⟨#[]⟩ true (by decide) W
  have e2 := fun W => eqlS 0 0 ⟨#[]⟩ 0 0 ⟨#[]⟩ true (by decide) W
  have hq : IntKind.i64.wrap ((IntKind.i64.wrap 1).tdiv 2) = 0 := by decide
  go_enter Try.func5, Try.ntmps5
  go_wp2_with fail
  refine (known _).mono ?_
  rintro e w1 ⟨rfl, hb1⟩
  go_wp2_with fail
  refine (withinr _ _ _ H3.out _ (by decide) (by decide) ha).mono ?_
  rintro e w2 ⟨rfl, rfl⟩
  go_wp2_with fail
  refine (withinr _ _ _ K3.out _ (by decide) (by decide) hb).mono ?_
  rintro e w2 ⟨rfl, rfl⟩
  go_wp2_with fail
  obtain ⟨W, hW_, hbW, BT⟩ : ∃ W_, W_ = (w1.alloc (.cells #[.int .i64 1, .int .i64 0, .string ⟨#[]⟩, .int .i64 1, .int .i64 1, .string ⟨#[]⟩, .int .i64 0, .int .i64 0, .string ⟨#[]⟩] 30)) ∧ Below w1.heap.size w1 W_ ∧ Blk W_ (w1.heap.size) 30 #[.int .i64 1, .int .i64 0, .string ⟨#[]⟩, .int .i64 1, .int .i64 1, .string ⟨#[]⟩, .int .i64 0, .int .i64 0, .string ⟨#[]⟩] :=
    ⟨_, rfl, ((Below.refl _ _).alloc (Nat.le_refl _) _), (blk_new_at w1 (w1.heap.size) _ _ (by simp))⟩
  rw [← hW_]
  clear hW_
  have DT := fun w' (h : Below W.heap.size W w') => nine BT h
  have D := fun w' (h : Below W.heap.size W.drew w') => DT w' (Below.trans (Below.refl _ _).drew h)
  refine wp_region_one [(0, true), (1, true), (2, true), (3, true), (4, true), (5, true), (6, true), (7, true), (8, true), (9, true), (10, true), (11, false), (12, true)] (by kernel_rfl) (by kernel_rfl) (by kernel_rfl) (by decide) ?_
  repeat ((with_reducible show wpPerm _ _ _ _ ((_, true) :: _) _ _); (first | (refine wpPerm_on (v := ?_) rfl rfl (wanted_free rfl) (fun w' hS => ?_) ?_; rotate_left; (focus (go_simp; (try with_reducible rfl); done)); try simp only [Act.put, List.setIfInBounds_toArray, List.set_cons_zero, List.set_cons_succ]) | (refine wpPerm_on (v := ?_) rfl rfl (wanted_yes rfl rfl rfl) (fun w' hS => ?_) ?_; rotate_left; (focus (go_simp; (try with_reducible rfl); done)); try simp only [Act.put, List.setIfInBounds_toArray, List.set_cons_zero, List.set_cons_succ]) | (refine wpPerm_off rfl rfl (wanted_no rfl rfl rfl) ?_; try simp only [Act.put, List.setIfInBounds_toArray, List.set_cons_zero, List.set_cons_succ]) | (refine wpPerm_off rfl rfl (wanted_undef rfl rfl rfl) ?_; try simp only [Act.put, List.setIfInBounds_toArray, List.set_cons_zero, List.set_cons_succ])))
  refine wpPerm_do rfl (wanted_free rfl) (fun K hK => ?_); go_simp
  refine hK.out _ _ (show Below W.heap.size W.drew (W.drew.alloc _) from (Below.refl W.heap.size W.drew).alloc (Nat.le_refl _) _) ?_
  clear hK K
  repeat ((with_reducible show wpPerm _ _ _ _ ((_, true) :: _) _ _); (first | (refine wpPerm_on (v := ?_) rfl rfl (wanted_free rfl) (fun w' hS => ?_) ?_; rotate_left; (focus (go_simp; (try with_reducible rfl); done)); try simp only [Act.put, List.setIfInBounds_toArray, List.set_cons_zero, List.set_cons_succ]) | (refine wpPerm_on (v := ?_) rfl rfl (wanted_yes rfl rfl rfl) (fun w' hS => ?_) ?_; rotate_left; (focus (go_simp; (try with_reducible rfl); done)); try simp only [Act.put, List.setIfInBounds_toArray, List.set_cons_zero, List.set_cons_succ]) | (refine wpPerm_off rfl rfl (wanted_no rfl rfl rfl) ?_; try simp only [Act.put, List.setIfInBounds_toArray, List.set_cons_zero, List.set_cons_succ]) | (refine wpPerm_off rfl rfl (wanted_undef rfl rfl rfl) ?_; try simp only [Act.put, List.setIfInBounds_toArray, List.set_cons_zero, List.set_cons_succ])))
  refine wpPerm_done ?_
  clear D
  go_wp2_with fail
  obtain ⟨W2, hW_, hb2, BE⟩ : ∃ W_, W_ = (W.alloc (.cells #[.int .i64 1, .int .i64 0, .int .i64 0, .int .i64 1, .int .i64 1, .string ⟨#[]⟩, .string ⟨#[]⟩, .int .i64 1, .int .i64 0, .int .i64 0, .int .i64 1, .int .i64 1, .string ⟨#[]⟩, .string ⟨#[]⟩, .int .i64 7, .int .i64 0, .int .i64 1, .int .i64 0, .int .i64 0, .string ⟨#[]⟩, .string ⟨#[]⟩] 36)) ∧ Below W.heap.size W W_ ∧ Blk W_ (W.heap.size) 36 #[.int .i64 1, .int .i64 0, .int .i64 0, .int .i64 1, .int .i64 1, .string ⟨#[]⟩, .string ⟨#[]⟩, .int .i64 1, .int .i64 0, .int .i64 0, .int .i64 1, .int .i64 1, .string ⟨#[]⟩, .string ⟨#[]⟩, .int .i64 7, .int .i64 0, .int .i64 1, .int .i64 0, .int .i64 0, .string ⟨#[]⟩, .string ⟨#[]⟩] :=
    ⟨_, rfl, ((Below.refl _ _).alloc (Nat.le_refl _) _), (blk_new_at W (W.heap.size) _ _ (by simp))⟩
  rw [← hW_]
  clear hW_
  refine (ValueB [nv ⟨1, 1, ByteArray.empty⟩, nv ⟨1, 1, ByteArray.empty⟩, nb 7 0 1] (.tuple #[.agg #[.int .i64 1, .int .i64 1, .string ⟨#[]⟩], .int .i64 0]) _ 3 3 _ _ W2.drew _ (by rfl) rfl BE rfl (by decide)).mono ?_
  rintro e w3 ⟨rfl, hb3⟩
  have hb3 : Below W2.heap.size W2 w3 := Below.trans (Below.refl _ _).drew hb3
  have hb4 := bch0 hb2 hb3
  have BE3 := BE.ext hb3
  have q := last7 (BE3.alloc (.cells #[.int .i64 1, .int .i64 1, .string ⟨#[]⟩] 30)) ⟨rfl, rfl, rfl, rfl, rfl, rfl, rfl⟩
  go_wp2_with fail
  clear q
  obtain ⟨W4, hW4, BO, hbO, hfar⟩ := set7 (BE3.alloc (.cells #[.int .i64 1, .int .i64 1, .string ⟨#[]⟩] 30)) (.int .i64 6) (.int .i64 0) (.int .i64 1) (.int .i64 0) (.int .i64 0) (.string ⟨#[]⟩) (.string ⟨#[]⟩)
  have BX := hfar _ _ _ (by have := BE3.lt; omega) (Blk.new w3 30 #[.int .i64 1, .int .i64 1, .string ⟨#[]⟩])
  rw [← hW4]
  have hb5 : Below W.heap.size W W4 := Below.trans (hb4.alloc hb4.size _) (hbO _ (Nat.le_refl _))
  refine (ValueB [nv ⟨1, 1, ByteArray.empty⟩, nv ⟨1, 1, ByteArray.empty⟩, nb 6 0 1] (.tuple #[.agg #[.int .i64 1, .int .i64 1, .string ⟨#[]⟩], .int .i64 0]) _ 3 3 _ _ W4 _ (by rfl) rfl BO rfl (by decide)).mono ?_
  rintro e w5 ⟨rfl, hb6⟩
  have hb7 := bch0 hb5 hb6
  have BO5 := BO.ext hb6
  have BX5 := BX.ext hb6
  have q := first7 (BO5.alloc (.cells #[.int .i64 1, .int .i64 1, .string ⟨#[]⟩] 30)) ⟨rfl, rfl, rfl, rfl, rfl, rfl, rfl⟩
  go_wp2_with fail
  clear q
  obtain ⟨W6, hW_, hb8, BY, BS⟩ : ∃ W_, W_ = ((w5.alloc (.cells #[.int .i64 1, .int .i64 1, .string ⟨#[]⟩] 30)).alloc (.cells #[.int .i64 1, .int .i64 0, .int .i64 0, .int .i64 1, .int .i64 1, .string ⟨#[]⟩, .string ⟨#[]⟩, .int .i64 3, .int .i64 0, .int .i64 0, .int .i64 0, .int .i64 0, .string ⟨#[]⟩, .string ⟨#[]⟩] 36)) ∧ Below w5.heap.size w5 W_ ∧ Blk W_ (w5.heap.size) 30 #[.int .i64 1, .int .i64 1, .string ⟨#[]⟩] ∧ Blk W_ (w5.heap.size + 1) 36 #[.int .i64 1, .int .i64 0, .int .i64 0, .int .i64 1, .int .i64 1, .string ⟨#[]⟩, .string ⟨#[]⟩, .int .i64 3, .int .i64 0, .int .i64 0, .int .i64 0, .int .i64 0, .string ⟨#[]⟩, .string ⟨#[]⟩] :=
    ⟨_, rfl, (((Below.refl _ _).alloc (Nat.le_refl _) _).alloc (by simp; try omega) _), ((blk_new_at w5 (w5.heap.size) _ _ (by simp)).alloc _), (blk_new_at (w5.alloc (.cells #[.int .i64 1, .int .i64 1, .string ⟨#[]⟩] 30)) (w5.heap.size + 1) _ _ (by simp))⟩
  rw [← hW_]
  clear hW_
  refine (ValueB [nv ⟨1, 1, ByteArray.empty⟩, nb 3 0 0] (.tuple #[.agg #[.int .i64 1, .int .i64 0, .string ⟨#[]⟩], .int .i64 0]) _ 2 2 _ _ W6 _ (by rfl) rfl BS rfl (by decide)).mono ?_
  rintro e w7 ⟨rfl, hb9⟩
  have hb10 := bch0 hb8 hb9
  have hb11 := bch0 hb7 hb10
  have BO7 := BO5.ext hb10
  have BX7 := BX5.ext hb10
  have BY7 := BY.ext hb9
  have q := first7 (BO7.alloc (.cells #[.int .i64 1, .int .i64 0, .string ⟨#[]⟩] 30)) ⟨rfl, rfl, rfl, rfl, rfl, rfl, rfl⟩
  go_wp2_with fail
  clear q
  obtain ⟨W8, hW_, hb12, BZ, BS8⟩ : ∃ W_, W_ = ((w7.alloc (.cells #[.int .i64 1, .int .i64 0, .string ⟨#[]⟩] 30)).alloc (.cells #[.int .i64 1, .int .i64 0, .int .i64 0, .int .i64 1, .int .i64 1, .string ⟨#[]⟩, .string ⟨#[]⟩, .int .i64 5, .int .i64 0, .int .i64 0, .int .i64 0, .int .i64 0, .string ⟨#[]⟩, .string ⟨#[]⟩] 36)) ∧ Below w7.heap.size w7 W_ ∧ Blk W_ (w7.heap.size) 30 #[.int .i64 1, .int .i64 0, .string ⟨#[]⟩] ∧ Blk W_ (w7.heap.size + 1) 36 #[.int .i64 1, .int .i64 0, .int .i64 0, .int .i64 1, .int .i64 1, .string ⟨#[]⟩, .string ⟨#[]⟩, .int .i64 5, .int .i64 0, .int .i64 0, .int .i64 0, .int .i64 0, .string ⟨#[]⟩, .string ⟨#[]⟩] :=
    ⟨_, rfl, (((Below.refl _ _).alloc (Nat.le_refl _) _).alloc (by simp; try omega) _), ((blk_new_at w7 (w7.heap.size) _ _ (by simp)).alloc _), (blk_new_at (w7.alloc (.cells #[.int .i64 1, .int .i64 0, .string ⟨#[]⟩] 30)) (w7.heap.size + 1) _ _ (by simp))⟩
  rw [← hW_]
  clear hW_
  refine (ValueB [nv ⟨1, 1, ByteArray.empty⟩, nb 5 0 0] (.tuple #[.agg #[.int .i64 1, .int .i64 0, .string ⟨#[]⟩], .int .i64 0]) _ 2 2 _ _ W8 _ (by rfl) rfl BS8 rfl (by decide)).mono ?_
  rintro e w9 ⟨rfl, hb13⟩
  have hb14 := bch0 hb12 hb13
  have hb15 := bch0 hb11 hb14
  have BX9 := BX7.ext hb14
  have BY9 := BY7.ext hb14
  have BZ9 := BZ.ext hb13
  go_wp2_with fail
  obtain ⟨W10, hW_, hb16, BW⟩ : ∃ W_, W_ = (w9.alloc (.cells #[.int .i64 1, .int .i64 0, .string ⟨#[]⟩] 30)) ∧ Below w9.heap.size w9 W_ ∧ Blk W_ (w9.heap.size) 30 #[.int .i64 1, .int .i64 0, .string ⟨#[]⟩] :=
    ⟨_, rfl, ((Below.refl _ _).alloc (Nat.le_refl _) _), (blk_new_at w9 (w9.heap.size) _ _ (by simp))⟩
  rw [← hW_]
  clear hW_
  have hb17 := bch0 hb15 hb16
  have D9 := fun w' (h : Below W10.heap.size W10.drew w') => DT w' (bch0 hb17 (Below.trans (Below.refl _ _).drew h))
  have DX := fun w' (h : Below W10.heap.size W10.drew w') => (BX9.ext hb16).three (Below.trans (Below.refl _ _).drew h)
  have DY := fun w' (h : Below W10.heap.size W10.drew w') => (BY9.ext hb16).three (Below.trans (Below.refl _ _).drew h)
  have DZ := fun w' (h : Below W10.heap.size W10.drew w') => (BZ9.ext hb16).three (Below.trans (Below.refl _ _).drew h)
  have DW := fun w' (h : Below W10.heap.size W10.drew w') => BW.three (Below.trans (Below.refl _ _).drew h)
  refine wp_region_one [(0, true), (1, true), (2, true), (3, true), (4, true), (5, true), (6, true), (7, true), (8, true), (9, true), (10, true), (11, true), (12, true), (13, true), (14, true), (15, true), (16, true), (17, true), (18, true), (19, true), (20, true), (21, true), (22, true), (23, true), (24, true), (25, true), (26, true), (27, true), (28, true), (29, true), (30, true), (31, true), (32, true), (33, true), (34, true), (35, true), (36, true), (37, true), (38, true), (39, true), (40, true), (41, true), (42, true), (43, true), (44, true), (45, true), (46, true), (47, true), (48, true)] (by kernel_rfl) (by kernel_rfl) (by kernel_rfl) (by decide) ?_
  repeat ((with_reducible show wpPerm _ _ _ _ ((_, true) :: _) _ _); (first | (refine wpPerm_on (v := ?_) rfl rfl (wanted_free rfl) (fun w' hS => ?_) ?_; rotate_left; (focus (go_simp; (try with_reducible rfl); done)); try simp only [Act.put, List.setIfInBounds_toArray, List.set_cons_zero, List.set_cons_succ]) | (refine wpPerm_on (v := ?_) rfl rfl (wanted_yes rfl rfl rfl) (fun w' hS => ?_) ?_; rotate_left; (focus (go_simp; (try with_reducible rfl); done)); try simp only [Act.put, List.setIfInBounds_toArray, List.set_cons_zero, List.set_cons_succ]) | (refine wpPerm_off rfl rfl (wanted_no rfl rfl rfl) ?_; try simp only [Act.put, List.setIfInBounds_toArray, List.set_cons_zero, List.set_cons_succ]) | (refine wpPerm_off rfl rfl (wanted_undef rfl rfl rfl) ?_; try simp only [Act.put, List.setIfInBounds_toArray, List.set_cons_zero, List.set_cons_succ])))
  refine wpPerm_done ?_
  clear D9 DX DY DZ DW DT
  go_wp2
  go_ret
  exact ⟨rfl, Below.trans hb1 (Below.mono (bch0 hbW hb17).drew hb1.size)⟩

set_option maxRecDepth 1000000 in
set_option maxHeartbeats 4000000 in
theorem three_12 (a b : Int) (w : World) (ha : ok64 a) (hb : ok64 b) (h3 : a % 3 = 1) (k3 : b % 3 = 2) :
    Calls Try.prog 5 #[.int .i64 a, .int .i64 b] w fun e w' => e = .returned (.bool true) ∧ Below w.heap.size w w' := by
  have H3 := Lib.hid h3
  have K3 := Lib.hid k3
  clear h3 k3
  have e0 := fun W => eqlS 1 0 ⟨#[]⟩ 1 0 ⟨#[]⟩ true (by decide) W
  have e1 := fun W => eqlS 1 1 ⟨#[]⟩ 1 1 ⟨#[]⟩ true (by decide) W
  have e2 := fun W => eqlS 0 0 ⟨#[]⟩ 0 0 ⟨#[]⟩ true (by decide) W
  have hq : IntKind.i64.wrap ((IntKind.i64.wrap 1).tdiv 2) = 0 := by decide
  go_enter Try.func5, Try.ntmps5
  go_wp2_with fail
  refine (known _).mono ?_
  rintro e w1 ⟨rfl, hb1⟩
  go_wp2_with fail
  refine (withinr _ _ _ H3.out _ (by decide) (by decide) ha).mono ?_
  rintro e w2 ⟨rfl, rfl⟩
  go_wp2_with fail
  refine (withinr _ _ _ K3.out _ (by decide) (by decide) hb).mono ?_
  rintro e w2 ⟨rfl, rfl⟩
  go_wp2_with fail
  obtain ⟨W, hW_, hbW, BT⟩ : ∃ W_, W_ = (w1.alloc (.cells #[.int .i64 1, .int .i64 0, .string ⟨#[]⟩, .int .i64 1, .int .i64 1, .string ⟨#[]⟩, .int .i64 0, .int .i64 0, .string ⟨#[]⟩] 30)) ∧ Below w1.heap.size w1 W_ ∧ Blk W_ (w1.heap.size) 30 #[.int .i64 1, .int .i64 0, .string ⟨#[]⟩, .int .i64 1, .int .i64 1, .string ⟨#[]⟩, .int .i64 0, .int .i64 0, .string ⟨#[]⟩] :=
    ⟨_, rfl, ((Below.refl _ _).alloc (Nat.le_refl _) _), (blk_new_at w1 (w1.heap.size) _ _ (by simp))⟩
  rw [← hW_]
  clear hW_
  have DT := fun w' (h : Below W.heap.size W w') => nine BT h
  have D := fun w' (h : Below W.heap.size W.drew w') => DT w' (Below.trans (Below.refl _ _).drew h)
  refine wp_region_one [(0, true), (1, true), (2, true), (3, true), (4, true), (5, true), (6, true), (7, true), (8, true), (9, true), (10, true), (11, false), (12, true)] (by kernel_rfl) (by kernel_rfl) (by kernel_rfl) (by decide) ?_
  repeat ((with_reducible show wpPerm _ _ _ _ ((_, true) :: _) _ _); (first | (refine wpPerm_on (v := ?_) rfl rfl (wanted_free rfl) (fun w' hS => ?_) ?_; rotate_left; (focus (go_simp; (try with_reducible rfl); done)); try simp only [Act.put, List.setIfInBounds_toArray, List.set_cons_zero, List.set_cons_succ]) | (refine wpPerm_on (v := ?_) rfl rfl (wanted_yes rfl rfl rfl) (fun w' hS => ?_) ?_; rotate_left; (focus (go_simp; (try with_reducible rfl); done)); try simp only [Act.put, List.setIfInBounds_toArray, List.set_cons_zero, List.set_cons_succ]) | (refine wpPerm_off rfl rfl (wanted_no rfl rfl rfl) ?_; try simp only [Act.put, List.setIfInBounds_toArray, List.set_cons_zero, List.set_cons_succ]) | (refine wpPerm_off rfl rfl (wanted_undef rfl rfl rfl) ?_; try simp only [Act.put, List.setIfInBounds_toArray, List.set_cons_zero, List.set_cons_succ])))
  refine wpPerm_do rfl (wanted_free rfl) (fun K hK => ?_); go_simp
  refine hK.out _ _ (show Below W.heap.size W.drew (W.drew.alloc _) from (Below.refl W.heap.size W.drew).alloc (Nat.le_refl _) _) ?_
  clear hK K
  repeat ((with_reducible show wpPerm _ _ _ _ ((_, true) :: _) _ _); (first | (refine wpPerm_on (v := ?_) rfl rfl (wanted_free rfl) (fun w' hS => ?_) ?_; rotate_left; (focus (go_simp; (try with_reducible rfl); done)); try simp only [Act.put, List.setIfInBounds_toArray, List.set_cons_zero, List.set_cons_succ]) | (refine wpPerm_on (v := ?_) rfl rfl (wanted_yes rfl rfl rfl) (fun w' hS => ?_) ?_; rotate_left; (focus (go_simp; (try with_reducible rfl); done)); try simp only [Act.put, List.setIfInBounds_toArray, List.set_cons_zero, List.set_cons_succ]) | (refine wpPerm_off rfl rfl (wanted_no rfl rfl rfl) ?_; try simp only [Act.put, List.setIfInBounds_toArray, List.set_cons_zero, List.set_cons_succ]) | (refine wpPerm_off rfl rfl (wanted_undef rfl rfl rfl) ?_; try simp only [Act.put, List.setIfInBounds_toArray, List.set_cons_zero, List.set_cons_succ])))
  refine wpPerm_done ?_
  clear D
  go_wp2_with fail
  obtain ⟨W2, hW_, hb2, BE⟩ : ∃ W_, W_ = (W.alloc (.cells #[.int .i64 1, .int .i64 0, .int .i64 0, .int .i64 1, .int .i64 1, .string ⟨#[]⟩, .string ⟨#[]⟩, .int .i64 1, .int .i64 0, .int .i64 0, .int .i64 0, .int .i64 0, .string ⟨#[]⟩, .string ⟨#[]⟩, .int .i64 7, .int .i64 0, .int .i64 1, .int .i64 0, .int .i64 0, .string ⟨#[]⟩, .string ⟨#[]⟩] 36)) ∧ Below W.heap.size W W_ ∧ Blk W_ (W.heap.size) 36 #[.int .i64 1, .int .i64 0, .int .i64 0, .int .i64 1, .int .i64 1, .string ⟨#[]⟩, .string ⟨#[]⟩, .int .i64 1, .int .i64 0, .int .i64 0, .int .i64 0, .int .i64 0, .string ⟨#[]⟩, .string ⟨#[]⟩, .int .i64 7, .int .i64 0, .int .i64 1, .int .i64 0, .int .i64 0, .string ⟨#[]⟩, .string ⟨#[]⟩] :=
    ⟨_, rfl, ((Below.refl _ _).alloc (Nat.le_refl _) _), (blk_new_at W (W.heap.size) _ _ (by simp))⟩
  rw [← hW_]
  clear hW_
  refine (ValueB [nv ⟨1, 1, ByteArray.empty⟩, nv ⟨0, 0, ByteArray.empty⟩, nb 7 0 1] (.tuple #[.agg #[.int .i64 0, .int .i64 0, .string ⟨#[]⟩], .int .i64 0]) _ 3 3 _ _ W2.drew _ (by rfl) rfl BE rfl (by decide)).mono ?_
  rintro e w3 ⟨rfl, hb3⟩
  have hb3 : Below W2.heap.size W2 w3 := Below.trans (Below.refl _ _).drew hb3
  have hb4 := bch0 hb2 hb3
  have BE3 := BE.ext hb3
  have q := last7 (BE3.alloc (.cells #[.int .i64 0, .int .i64 0, .string ⟨#[]⟩] 30)) ⟨rfl, rfl, rfl, rfl, rfl, rfl, rfl⟩
  go_wp2_with fail
  clear q
  obtain ⟨W4, hW4, BO, hbO, hfar⟩ := set7 (BE3.alloc (.cells #[.int .i64 0, .int .i64 0, .string ⟨#[]⟩] 30)) (.int .i64 6) (.int .i64 0) (.int .i64 1) (.int .i64 0) (.int .i64 0) (.string ⟨#[]⟩) (.string ⟨#[]⟩)
  have BX := hfar _ _ _ (by have := BE3.lt; omega) (Blk.new w3 30 #[.int .i64 0, .int .i64 0, .string ⟨#[]⟩])
  rw [← hW4]
  have hb5 : Below W.heap.size W W4 := Below.trans (hb4.alloc hb4.size _) (hbO _ (Nat.le_refl _))
  refine (ValueB [nv ⟨1, 1, ByteArray.empty⟩, nv ⟨0, 0, ByteArray.empty⟩, nb 6 0 1] (.tuple #[.agg #[.int .i64 1, .int .i64 1, .string ⟨#[]⟩], .int .i64 0]) _ 3 3 _ _ W4 _ (by rfl) rfl BO rfl (by decide)).mono ?_
  rintro e w5 ⟨rfl, hb6⟩
  have hb7 := bch0 hb5 hb6
  have BO5 := BO.ext hb6
  have BX5 := BX.ext hb6
  have q := first7 (BO5.alloc (.cells #[.int .i64 1, .int .i64 1, .string ⟨#[]⟩] 30)) ⟨rfl, rfl, rfl, rfl, rfl, rfl, rfl⟩
  go_wp2_with fail
  clear q
  obtain ⟨W6, hW_, hb8, BY, BS⟩ : ∃ W_, W_ = ((w5.alloc (.cells #[.int .i64 1, .int .i64 1, .string ⟨#[]⟩] 30)).alloc (.cells #[.int .i64 1, .int .i64 0, .int .i64 0, .int .i64 1, .int .i64 1, .string ⟨#[]⟩, .string ⟨#[]⟩, .int .i64 3, .int .i64 0, .int .i64 0, .int .i64 0, .int .i64 0, .string ⟨#[]⟩, .string ⟨#[]⟩] 36)) ∧ Below w5.heap.size w5 W_ ∧ Blk W_ (w5.heap.size) 30 #[.int .i64 1, .int .i64 1, .string ⟨#[]⟩] ∧ Blk W_ (w5.heap.size + 1) 36 #[.int .i64 1, .int .i64 0, .int .i64 0, .int .i64 1, .int .i64 1, .string ⟨#[]⟩, .string ⟨#[]⟩, .int .i64 3, .int .i64 0, .int .i64 0, .int .i64 0, .int .i64 0, .string ⟨#[]⟩, .string ⟨#[]⟩] :=
    ⟨_, rfl, (((Below.refl _ _).alloc (Nat.le_refl _) _).alloc (by simp; try omega) _), ((blk_new_at w5 (w5.heap.size) _ _ (by simp)).alloc _), (blk_new_at (w5.alloc (.cells #[.int .i64 1, .int .i64 1, .string ⟨#[]⟩] 30)) (w5.heap.size + 1) _ _ (by simp))⟩
  rw [← hW_]
  clear hW_
  refine (ValueB [nv ⟨1, 1, ByteArray.empty⟩, nb 3 0 0] (.tuple #[.agg #[.int .i64 1, .int .i64 0, .string ⟨#[]⟩], .int .i64 0]) _ 2 2 _ _ W6 _ (by rfl) rfl BS rfl (by decide)).mono ?_
  rintro e w7 ⟨rfl, hb9⟩
  have hb10 := bch0 hb8 hb9
  have hb11 := bch0 hb7 hb10
  have BO7 := BO5.ext hb10
  have BX7 := BX5.ext hb10
  have BY7 := BY.ext hb9
  have q := first7 (BO7.alloc (.cells #[.int .i64 1, .int .i64 0, .string ⟨#[]⟩] 30)) ⟨rfl, rfl, rfl, rfl, rfl, rfl, rfl⟩
  go_wp2_with fail
  clear q
  obtain ⟨W8, hW_, hb12, BZ, BS8⟩ : ∃ W_, W_ = ((w7.alloc (.cells #[.int .i64 1, .int .i64 0, .string ⟨#[]⟩] 30)).alloc (.cells #[.int .i64 1, .int .i64 0, .int .i64 0, .int .i64 1, .int .i64 1, .string ⟨#[]⟩, .string ⟨#[]⟩, .int .i64 5, .int .i64 0, .int .i64 0, .int .i64 0, .int .i64 0, .string ⟨#[]⟩, .string ⟨#[]⟩] 36)) ∧ Below w7.heap.size w7 W_ ∧ Blk W_ (w7.heap.size) 30 #[.int .i64 1, .int .i64 0, .string ⟨#[]⟩] ∧ Blk W_ (w7.heap.size + 1) 36 #[.int .i64 1, .int .i64 0, .int .i64 0, .int .i64 1, .int .i64 1, .string ⟨#[]⟩, .string ⟨#[]⟩, .int .i64 5, .int .i64 0, .int .i64 0, .int .i64 0, .int .i64 0, .string ⟨#[]⟩, .string ⟨#[]⟩] :=
    ⟨_, rfl, (((Below.refl _ _).alloc (Nat.le_refl _) _).alloc (by simp; try omega) _), ((blk_new_at w7 (w7.heap.size) _ _ (by simp)).alloc _), (blk_new_at (w7.alloc (.cells #[.int .i64 1, .int .i64 0, .string ⟨#[]⟩] 30)) (w7.heap.size + 1) _ _ (by simp))⟩
  rw [← hW_]
  clear hW_
  refine (ValueB [nv ⟨1, 1, ByteArray.empty⟩, nb 5 0 0] (.tuple #[.agg #[.int .i64 1, .int .i64 0, .string ⟨#[]⟩], .int .i64 0]) _ 2 2 _ _ W8 _ (by rfl) rfl BS8 rfl (by decide)).mono ?_
  rintro e w9 ⟨rfl, hb13⟩
  have hb14 := bch0 hb12 hb13
  have hb15 := bch0 hb11 hb14
  have BX9 := BX7.ext hb14
  have BY9 := BY7.ext hb14
  have BZ9 := BZ.ext hb13
  go_wp2_with fail
  obtain ⟨W10, hW_, hb16, BW⟩ : ∃ W_, W_ = (w9.alloc (.cells #[.int .i64 1, .int .i64 0, .string ⟨#[]⟩] 30)) ∧ Below w9.heap.size w9 W_ ∧ Blk W_ (w9.heap.size) 30 #[.int .i64 1, .int .i64 0, .string ⟨#[]⟩] :=
    ⟨_, rfl, ((Below.refl _ _).alloc (Nat.le_refl _) _), (blk_new_at w9 (w9.heap.size) _ _ (by simp))⟩
  rw [← hW_]
  clear hW_
  have hb17 := bch0 hb15 hb16
  have D9 := fun w' (h : Below W10.heap.size W10.drew w') => DT w' (bch0 hb17 (Below.trans (Below.refl _ _).drew h))
  have DX := fun w' (h : Below W10.heap.size W10.drew w') => (BX9.ext hb16).three (Below.trans (Below.refl _ _).drew h)
  have DY := fun w' (h : Below W10.heap.size W10.drew w') => (BY9.ext hb16).three (Below.trans (Below.refl _ _).drew h)
  have DZ := fun w' (h : Below W10.heap.size W10.drew w') => (BZ9.ext hb16).three (Below.trans (Below.refl _ _).drew h)
  have DW := fun w' (h : Below W10.heap.size W10.drew w') => BW.three (Below.trans (Below.refl _ _).drew h)
  refine wp_region_one [(0, true), (1, true), (2, true), (3, true), (4, true), (5, true), (6, true), (7, true), (8, true), (9, true), (10, true), (11, true), (12, true), (13, true), (14, true), (15, true), (16, true), (17, true), (18, true), (19, true), (20, true), (21, true), (22, true), (23, true), (24, true), (25, true), (26, true), (27, true), (28, true), (29, true), (30, true), (31, true), (32, true), (33, true), (34, true), (35, true), (36, true), (37, true), (38, true), (39, true), (40, true), (41, true), (42, true), (43, true), (44, true), (45, true), (46, true), (47, true), (48, true)] (by kernel_rfl) (by kernel_rfl) (by kernel_rfl) (by decide) ?_
  repeat ((with_reducible show wpPerm _ _ _ _ ((_, true) :: _) _ _); (first | (refine wpPerm_on (v := ?_) rfl rfl (wanted_free rfl) (fun w' hS => ?_) ?_; rotate_left; (focus (go_simp; (try with_reducible rfl); done)); try simp only [Act.put, List.setIfInBounds_toArray, List.set_cons_zero, List.set_cons_succ]) | (refine wpPerm_on (v := ?_) rfl rfl (wanted_yes rfl rfl rfl) (fun w' hS => ?_) ?_; rotate_left; (focus (go_simp; (try with_reducible rfl); done)); try simp only [Act.put, List.setIfInBounds_toArray, List.set_cons_zero, List.set_cons_succ]) | (refine wpPerm_off rfl rfl (wanted_no rfl rfl rfl) ?_; try simp only [Act.put, List.setIfInBounds_toArray, List.set_cons_zero, List.set_cons_succ]) | (refine wpPerm_off rfl rfl (wanted_undef rfl rfl rfl) ?_; try simp only [Act.put, List.setIfInBounds_toArray, List.set_cons_zero, List.set_cons_succ])))
  refine wpPerm_done ?_
  clear D9 DX DY DZ DW DT
  go_wp2
  go_ret
  exact ⟨rfl, Below.trans hb1 (Below.mono (bch0 hbW hb17).drew hb1.size)⟩

set_option maxRecDepth 1000000 in
set_option maxHeartbeats 4000000 in
theorem three_20 (a b : Int) (w : World) (ha : ok64 a) (hb : ok64 b) (h3 : a % 3 = 2) (k3 : b % 3 = 0) :
    Calls Try.prog 5 #[.int .i64 a, .int .i64 b] w fun e w' => e = .returned (.bool true) ∧ Below w.heap.size w w' := by
  have H3 := Lib.hid h3
  have K3 := Lib.hid k3
  clear h3 k3
  have e0 := fun W => eqlS 1 0 ⟨#[]⟩ 1 0 ⟨#[]⟩ true (by decide) W
  have e1 := fun W => eqlS 1 1 ⟨#[]⟩ 1 1 ⟨#[]⟩ true (by decide) W
  have e2 := fun W => eqlS 0 0 ⟨#[]⟩ 0 0 ⟨#[]⟩ true (by decide) W
  have hq : IntKind.i64.wrap ((IntKind.i64.wrap 2).tdiv 2) = 1 := by decide
  go_enter Try.func5, Try.ntmps5
  go_wp2_with fail
  refine (known _).mono ?_
  rintro e w1 ⟨rfl, hb1⟩
  go_wp2_with fail
  refine (withinr _ _ _ H3.out _ (by decide) (by decide) ha).mono ?_
  rintro e w2 ⟨rfl, rfl⟩
  go_wp2_with fail
  refine (withinr _ _ _ K3.out _ (by decide) (by decide) hb).mono ?_
  rintro e w2 ⟨rfl, rfl⟩
  go_wp2_with fail
  obtain ⟨W, hW_, hbW, BT⟩ : ∃ W_, W_ = (w1.alloc (.cells #[.int .i64 1, .int .i64 0, .string ⟨#[]⟩, .int .i64 1, .int .i64 1, .string ⟨#[]⟩, .int .i64 0, .int .i64 0, .string ⟨#[]⟩] 30)) ∧ Below w1.heap.size w1 W_ ∧ Blk W_ (w1.heap.size) 30 #[.int .i64 1, .int .i64 0, .string ⟨#[]⟩, .int .i64 1, .int .i64 1, .string ⟨#[]⟩, .int .i64 0, .int .i64 0, .string ⟨#[]⟩] :=
    ⟨_, rfl, ((Below.refl _ _).alloc (Nat.le_refl _) _), (blk_new_at w1 (w1.heap.size) _ _ (by simp))⟩
  rw [← hW_]
  clear hW_
  have DT := fun w' (h : Below W.heap.size W w') => nine BT h
  have D := fun w' (h : Below W.heap.size W.drew w') => DT w' (Below.trans (Below.refl _ _).drew h)
  refine wp_region_one [(0, true), (1, true), (2, true), (3, true), (4, true), (5, true), (6, true), (7, true), (8, true), (9, true), (10, true), (11, false), (12, true)] (by kernel_rfl) (by kernel_rfl) (by kernel_rfl) (by decide) ?_
  repeat ((with_reducible show wpPerm _ _ _ _ ((_, true) :: _) _ _); (first | (refine wpPerm_on (v := ?_) rfl rfl (wanted_free rfl) (fun w' hS => ?_) ?_; rotate_left; (focus (go_simp; (try with_reducible rfl); done)); try simp only [Act.put, List.setIfInBounds_toArray, List.set_cons_zero, List.set_cons_succ]) | (refine wpPerm_on (v := ?_) rfl rfl (wanted_yes rfl rfl rfl) (fun w' hS => ?_) ?_; rotate_left; (focus (go_simp; (try with_reducible rfl); done)); try simp only [Act.put, List.setIfInBounds_toArray, List.set_cons_zero, List.set_cons_succ]) | (refine wpPerm_off rfl rfl (wanted_no rfl rfl rfl) ?_; try simp only [Act.put, List.setIfInBounds_toArray, List.set_cons_zero, List.set_cons_succ]) | (refine wpPerm_off rfl rfl (wanted_undef rfl rfl rfl) ?_; try simp only [Act.put, List.setIfInBounds_toArray, List.set_cons_zero, List.set_cons_succ])))
  refine wpPerm_do rfl (wanted_free rfl) (fun K hK => ?_); go_simp
  refine hK.out _ _ (show Below W.heap.size W.drew (W.drew.alloc _) from (Below.refl W.heap.size W.drew).alloc (Nat.le_refl _) _) ?_
  clear hK K
  repeat ((with_reducible show wpPerm _ _ _ _ ((_, true) :: _) _ _); (first | (refine wpPerm_on (v := ?_) rfl rfl (wanted_free rfl) (fun w' hS => ?_) ?_; rotate_left; (focus (go_simp; (try with_reducible rfl); done)); try simp only [Act.put, List.setIfInBounds_toArray, List.set_cons_zero, List.set_cons_succ]) | (refine wpPerm_on (v := ?_) rfl rfl (wanted_yes rfl rfl rfl) (fun w' hS => ?_) ?_; rotate_left; (focus (go_simp; (try with_reducible rfl); done)); try simp only [Act.put, List.setIfInBounds_toArray, List.set_cons_zero, List.set_cons_succ]) | (refine wpPerm_off rfl rfl (wanted_no rfl rfl rfl) ?_; try simp only [Act.put, List.setIfInBounds_toArray, List.set_cons_zero, List.set_cons_succ]) | (refine wpPerm_off rfl rfl (wanted_undef rfl rfl rfl) ?_; try simp only [Act.put, List.setIfInBounds_toArray, List.set_cons_zero, List.set_cons_succ])))
  refine wpPerm_done ?_
  clear D
  go_wp2_with fail
  obtain ⟨W2, hW_, hb2, BE⟩ : ∃ W_, W_ = (W.alloc (.cells #[.int .i64 1, .int .i64 0, .int .i64 0, .int .i64 0, .int .i64 0, .string ⟨#[]⟩, .string ⟨#[]⟩, .int .i64 1, .int .i64 0, .int .i64 0, .int .i64 1, .int .i64 0, .string ⟨#[]⟩, .string ⟨#[]⟩, .int .i64 7, .int .i64 0, .int .i64 1, .int .i64 0, .int .i64 0, .string ⟨#[]⟩, .string ⟨#[]⟩] 36)) ∧ Below W.heap.size W W_ ∧ Blk W_ (W.heap.size) 36 #[.int .i64 1, .int .i64 0, .int .i64 0, .int .i64 0, .int .i64 0, .string ⟨#[]⟩, .string ⟨#[]⟩, .int .i64 1, .int .i64 0, .int .i64 0, .int .i64 1, .int .i64 0, .string ⟨#[]⟩, .string ⟨#[]⟩, .int .i64 7, .int .i64 0, .int .i64 1, .int .i64 0, .int .i64 0, .string ⟨#[]⟩, .string ⟨#[]⟩] :=
    ⟨_, rfl, ((Below.refl _ _).alloc (Nat.le_refl _) _), (blk_new_at W (W.heap.size) _ _ (by simp))⟩
  rw [← hW_]
  clear hW_
  refine (ValueB [nv ⟨0, 0, ByteArray.empty⟩, nv ⟨1, 0, ByteArray.empty⟩, nb 7 0 1] (.tuple #[.agg #[.int .i64 1, .int .i64 0, .string ⟨#[]⟩], .int .i64 0]) _ 3 3 _ _ W2.drew _ (by rfl) rfl BE rfl (by decide)).mono ?_
  rintro e w3 ⟨rfl, hb3⟩
  have hb3 : Below W2.heap.size W2 w3 := Below.trans (Below.refl _ _).drew hb3
  have hb4 := bch0 hb2 hb3
  have BE3 := BE.ext hb3
  have q := last7 (BE3.alloc (.cells #[.int .i64 1, .int .i64 0, .string ⟨#[]⟩] 30)) ⟨rfl, rfl, rfl, rfl, rfl, rfl, rfl⟩
  go_wp2_with fail
  clear q
  obtain ⟨W4, hW4, BO, hbO, hfar⟩ := set7 (BE3.alloc (.cells #[.int .i64 1, .int .i64 0, .string ⟨#[]⟩] 30)) (.int .i64 6) (.int .i64 0) (.int .i64 1) (.int .i64 0) (.int .i64 0) (.string ⟨#[]⟩) (.string ⟨#[]⟩)
  have BX := hfar _ _ _ (by have := BE3.lt; omega) (Blk.new w3 30 #[.int .i64 1, .int .i64 0, .string ⟨#[]⟩])
  rw [← hW4]
  have hb5 : Below W.heap.size W W4 := Below.trans (hb4.alloc hb4.size _) (hbO _ (Nat.le_refl _))
  refine (ValueB [nv ⟨0, 0, ByteArray.empty⟩, nv ⟨1, 0, ByteArray.empty⟩, nb 6 0 1] (.tuple #[.agg #[.int .i64 0, .int .i64 0, .string ⟨#[]⟩], .int .i64 0]) _ 3 3 _ _ W4 _ (by rfl) rfl BO rfl (by decide)).mono ?_
  rintro e w5 ⟨rfl, hb6⟩
  have hb7 := bch0 hb5 hb6
  have BO5 := BO.ext hb6
  have BX5 := BX.ext hb6
  have q := first7 (BO5.alloc (.cells #[.int .i64 0, .int .i64 0, .string ⟨#[]⟩] 30)) ⟨rfl, rfl, rfl, rfl, rfl, rfl, rfl⟩
  go_wp2_with fail
  clear q
  obtain ⟨W6, hW_, hb8, BY, BS⟩ : ∃ W_, W_ = ((w5.alloc (.cells #[.int .i64 0, .int .i64 0, .string ⟨#[]⟩] 30)).alloc (.cells #[.int .i64 1, .int .i64 0, .int .i64 0, .int .i64 0, .int .i64 0, .string ⟨#[]⟩, .string ⟨#[]⟩, .int .i64 3, .int .i64 0, .int .i64 0, .int .i64 0, .int .i64 0, .string ⟨#[]⟩, .string ⟨#[]⟩] 36)) ∧ Below w5.heap.size w5 W_ ∧ Blk W_ (w5.heap.size) 30 #[.int .i64 0, .int .i64 0, .string ⟨#[]⟩] ∧ Blk W_ (w5.heap.size + 1) 36 #[.int .i64 1, .int .i64 0, .int .i64 0, .int .i64 0, .int .i64 0, .string ⟨#[]⟩, .string ⟨#[]⟩, .int .i64 3, .int .i64 0, .int .i64 0, .int .i64 0, .int .i64 0, .string ⟨#[]⟩, .string ⟨#[]⟩] :=
    ⟨_, rfl, (((Below.refl _ _).alloc (Nat.le_refl _) _).alloc (by simp; try omega) _), ((blk_new_at w5 (w5.heap.size) _ _ (by simp)).alloc _), (blk_new_at (w5.alloc (.cells #[.int .i64 0, .int .i64 0, .string ⟨#[]⟩] 30)) (w5.heap.size + 1) _ _ (by simp))⟩
  rw [← hW_]
  clear hW_
  refine (ValueB [nv ⟨0, 0, ByteArray.empty⟩, nb 3 0 0] (.tuple #[.agg #[.int .i64 0, .int .i64 0, .string ⟨#[]⟩], .int .i64 0]) _ 2 2 _ _ W6 _ (by rfl) rfl BS rfl (by decide)).mono ?_
  rintro e w7 ⟨rfl, hb9⟩
  have hb10 := bch0 hb8 hb9
  have hb11 := bch0 hb7 hb10
  have BO7 := BO5.ext hb10
  have BX7 := BX5.ext hb10
  have BY7 := BY.ext hb9
  have q := first7 (BO7.alloc (.cells #[.int .i64 0, .int .i64 0, .string ⟨#[]⟩] 30)) ⟨rfl, rfl, rfl, rfl, rfl, rfl, rfl⟩
  go_wp2_with fail
  clear q
  obtain ⟨W8, hW_, hb12, BZ, BS8⟩ : ∃ W_, W_ = ((w7.alloc (.cells #[.int .i64 0, .int .i64 0, .string ⟨#[]⟩] 30)).alloc (.cells #[.int .i64 1, .int .i64 0, .int .i64 0, .int .i64 0, .int .i64 0, .string ⟨#[]⟩, .string ⟨#[]⟩, .int .i64 5, .int .i64 0, .int .i64 0, .int .i64 0, .int .i64 0, .string ⟨#[]⟩, .string ⟨#[]⟩] 36)) ∧ Below w7.heap.size w7 W_ ∧ Blk W_ (w7.heap.size) 30 #[.int .i64 0, .int .i64 0, .string ⟨#[]⟩] ∧ Blk W_ (w7.heap.size + 1) 36 #[.int .i64 1, .int .i64 0, .int .i64 0, .int .i64 0, .int .i64 0, .string ⟨#[]⟩, .string ⟨#[]⟩, .int .i64 5, .int .i64 0, .int .i64 0, .int .i64 0, .int .i64 0, .string ⟨#[]⟩, .string ⟨#[]⟩] :=
    ⟨_, rfl, (((Below.refl _ _).alloc (Nat.le_refl _) _).alloc (by simp; try omega) _), ((blk_new_at w7 (w7.heap.size) _ _ (by simp)).alloc _), (blk_new_at (w7.alloc (.cells #[.int .i64 0, .int .i64 0, .string ⟨#[]⟩] 30)) (w7.heap.size + 1) _ _ (by simp))⟩
  rw [← hW_]
  clear hW_
  refine (ValueB [nv ⟨0, 0, ByteArray.empty⟩, nb 5 0 0] (.tuple #[.agg #[.int .i64 1, .int .i64 1, .string ⟨#[]⟩], .int .i64 0]) _ 2 2 _ _ W8 _ (by rfl) rfl BS8 rfl (by decide)).mono ?_
  rintro e w9 ⟨rfl, hb13⟩
  have hb14 := bch0 hb12 hb13
  have hb15 := bch0 hb11 hb14
  have BX9 := BX7.ext hb14
  have BY9 := BY7.ext hb14
  have BZ9 := BZ.ext hb13
  go_wp2_with fail
  obtain ⟨W10, hW_, hb16, BW⟩ : ∃ W_, W_ = (w9.alloc (.cells #[.int .i64 1, .int .i64 1, .string ⟨#[]⟩] 30)) ∧ Below w9.heap.size w9 W_ ∧ Blk W_ (w9.heap.size) 30 #[.int .i64 1, .int .i64 1, .string ⟨#[]⟩] :=
    ⟨_, rfl, ((Below.refl _ _).alloc (Nat.le_refl _) _), (blk_new_at w9 (w9.heap.size) _ _ (by simp))⟩
  rw [← hW_]
  clear hW_
  have hb17 := bch0 hb15 hb16
  have D9 := fun w' (h : Below W10.heap.size W10.drew w') => DT w' (bch0 hb17 (Below.trans (Below.refl _ _).drew h))
  have DX := fun w' (h : Below W10.heap.size W10.drew w') => (BX9.ext hb16).three (Below.trans (Below.refl _ _).drew h)
  have DY := fun w' (h : Below W10.heap.size W10.drew w') => (BY9.ext hb16).three (Below.trans (Below.refl _ _).drew h)
  have DZ := fun w' (h : Below W10.heap.size W10.drew w') => (BZ9.ext hb16).three (Below.trans (Below.refl _ _).drew h)
  have DW := fun w' (h : Below W10.heap.size W10.drew w') => BW.three (Below.trans (Below.refl _ _).drew h)
  refine wp_region_one [(0, true), (1, true), (2, true), (3, true), (4, true), (5, true), (6, true), (7, true), (8, true), (9, true), (10, true), (11, true), (12, true), (13, true), (14, true), (15, true), (16, true), (17, true), (18, true), (19, true), (20, true), (21, true), (22, true), (23, true), (24, true), (25, true), (26, true), (27, true), (28, true), (29, true), (30, true), (31, true), (32, true), (33, true), (34, true), (35, true), (36, true), (37, true), (38, true), (39, true), (40, true), (41, true), (42, true), (43, true), (44, true), (45, true), (46, true), (47, true), (48, true)] (by kernel_rfl) (by kernel_rfl) (by kernel_rfl) (by decide) ?_
  repeat ((with_reducible show wpPerm _ _ _ _ ((_, true) :: _) _ _); (first | (refine wpPerm_on (v := ?_) rfl rfl (wanted_free rfl) (fun w' hS => ?_) ?_; rotate_left; (focus (go_simp; (try with_reducible rfl); done)); try simp only [Act.put, List.setIfInBounds_toArray, List.set_cons_zero, List.set_cons_succ]) | (refine wpPerm_on (v := ?_) rfl rfl (wanted_yes rfl rfl rfl) (fun w' hS => ?_) ?_; rotate_left; (focus (go_simp; (try with_reducible rfl); done)); try simp only [Act.put, List.setIfInBounds_toArray, List.set_cons_zero, List.set_cons_succ]) | (refine wpPerm_off rfl rfl (wanted_no rfl rfl rfl) ?_; try simp only [Act.put, List.setIfInBounds_toArray, List.set_cons_zero, List.set_cons_succ]) | (refine wpPerm_off rfl rfl (wanted_undef rfl rfl rfl) ?_; try simp only [Act.put, List.setIfInBounds_toArray, List.set_cons_zero, List.set_cons_succ])))
  refine wpPerm_done ?_
  clear D9 DX DY DZ DW DT
  go_wp2
  go_ret
  exact ⟨rfl, Below.trans hb1 (Below.mono (bch0 hbW hb17).drew hb1.size)⟩

set_option maxRecDepth 1000000 in
set_option maxHeartbeats 4000000 in
theorem three_21 (a b : Int) (w : World) (ha : ok64 a) (hb : ok64 b) (h3 : a % 3 = 2) (k3 : b % 3 = 1) :
    Calls Try.prog 5 #[.int .i64 a, .int .i64 b] w fun e w' => e = .returned (.bool true) ∧ Below w.heap.size w w' := by
  have H3 := Lib.hid h3
  have K3 := Lib.hid k3
  clear h3 k3
  have e0 := fun W => eqlS 1 0 ⟨#[]⟩ 1 0 ⟨#[]⟩ true (by decide) W
  have e1 := fun W => eqlS 1 1 ⟨#[]⟩ 1 1 ⟨#[]⟩ true (by decide) W
  have e2 := fun W => eqlS 0 0 ⟨#[]⟩ 0 0 ⟨#[]⟩ true (by decide) W
  have hq : IntKind.i64.wrap ((IntKind.i64.wrap 2).tdiv 2) = 1 := by decide
  go_enter Try.func5, Try.ntmps5
  go_wp2_with fail
  refine (known _).mono ?_
  rintro e w1 ⟨rfl, hb1⟩
  go_wp2_with fail
  refine (withinr _ _ _ H3.out _ (by decide) (by decide) ha).mono ?_
  rintro e w2 ⟨rfl, rfl⟩
  go_wp2_with fail
  refine (withinr _ _ _ K3.out _ (by decide) (by decide) hb).mono ?_
  rintro e w2 ⟨rfl, rfl⟩
  go_wp2_with fail
  obtain ⟨W, hW_, hbW, BT⟩ : ∃ W_, W_ = (w1.alloc (.cells #[.int .i64 1, .int .i64 0, .string ⟨#[]⟩, .int .i64 1, .int .i64 1, .string ⟨#[]⟩, .int .i64 0, .int .i64 0, .string ⟨#[]⟩] 30)) ∧ Below w1.heap.size w1 W_ ∧ Blk W_ (w1.heap.size) 30 #[.int .i64 1, .int .i64 0, .string ⟨#[]⟩, .int .i64 1, .int .i64 1, .string ⟨#[]⟩, .int .i64 0, .int .i64 0, .string ⟨#[]⟩] :=
    ⟨_, rfl, ((Below.refl _ _).alloc (Nat.le_refl _) _), (blk_new_at w1 (w1.heap.size) _ _ (by simp))⟩
  rw [← hW_]
  clear hW_
  have DT := fun w' (h : Below W.heap.size W w') => nine BT h
  have D := fun w' (h : Below W.heap.size W.drew w') => DT w' (Below.trans (Below.refl _ _).drew h)
  refine wp_region_one [(0, true), (1, true), (2, true), (3, true), (4, true), (5, true), (6, true), (7, true), (8, true), (9, true), (10, true), (11, false), (12, true)] (by kernel_rfl) (by kernel_rfl) (by kernel_rfl) (by decide) ?_
  repeat ((with_reducible show wpPerm _ _ _ _ ((_, true) :: _) _ _); (first | (refine wpPerm_on (v := ?_) rfl rfl (wanted_free rfl) (fun w' hS => ?_) ?_; rotate_left; (focus (go_simp; (try with_reducible rfl); done)); try simp only [Act.put, List.setIfInBounds_toArray, List.set_cons_zero, List.set_cons_succ]) | (refine wpPerm_on (v := ?_) rfl rfl (wanted_yes rfl rfl rfl) (fun w' hS => ?_) ?_; rotate_left; (focus (go_simp; (try with_reducible rfl); done)); try simp only [Act.put, List.setIfInBounds_toArray, List.set_cons_zero, List.set_cons_succ]) | (refine wpPerm_off rfl rfl (wanted_no rfl rfl rfl) ?_; try simp only [Act.put, List.setIfInBounds_toArray, List.set_cons_zero, List.set_cons_succ]) | (refine wpPerm_off rfl rfl (wanted_undef rfl rfl rfl) ?_; try simp only [Act.put, List.setIfInBounds_toArray, List.set_cons_zero, List.set_cons_succ])))
  refine wpPerm_do rfl (wanted_free rfl) (fun K hK => ?_); go_simp
  refine hK.out _ _ (show Below W.heap.size W.drew (W.drew.alloc _) from (Below.refl W.heap.size W.drew).alloc (Nat.le_refl _) _) ?_
  clear hK K
  repeat ((with_reducible show wpPerm _ _ _ _ ((_, true) :: _) _ _); (first | (refine wpPerm_on (v := ?_) rfl rfl (wanted_free rfl) (fun w' hS => ?_) ?_; rotate_left; (focus (go_simp; (try with_reducible rfl); done)); try simp only [Act.put, List.setIfInBounds_toArray, List.set_cons_zero, List.set_cons_succ]) | (refine wpPerm_on (v := ?_) rfl rfl (wanted_yes rfl rfl rfl) (fun w' hS => ?_) ?_; rotate_left; (focus (go_simp; (try with_reducible rfl); done)); try simp only [Act.put, List.setIfInBounds_toArray, List.set_cons_zero, List.set_cons_succ]) | (refine wpPerm_off rfl rfl (wanted_no rfl rfl rfl) ?_; try simp only [Act.put, List.setIfInBounds_toArray, List.set_cons_zero, List.set_cons_succ]) | (refine wpPerm_off rfl rfl (wanted_undef rfl rfl rfl) ?_; try simp only [Act.put, List.setIfInBounds_toArray, List.set_cons_zero, List.set_cons_succ])))
  refine wpPerm_done ?_
  clear D
  go_wp2_with fail
  obtain ⟨W2, hW_, hb2, BE⟩ : ∃ W_, W_ = (W.alloc (.cells #[.int .i64 1, .int .i64 0, .int .i64 0, .int .i64 0, .int .i64 0, .string ⟨#[]⟩, .string ⟨#[]⟩, .int .i64 1, .int .i64 0, .int .i64 0, .int .i64 1, .int .i64 1, .string ⟨#[]⟩, .string ⟨#[]⟩, .int .i64 7, .int .i64 0, .int .i64 1, .int .i64 0, .int .i64 0, .string ⟨#[]⟩, .string ⟨#[]⟩] 36)) ∧ Below W.heap.size W W_ ∧ Blk W_ (W.heap.size) 36 #[.int .i64 1, .int .i64 0, .int .i64 0, .int .i64 0, .int .i64 0, .string ⟨#[]⟩, .string ⟨#[]⟩, .int .i64 1, .int .i64 0, .int .i64 0, .int .i64 1, .int .i64 1, .string ⟨#[]⟩, .string ⟨#[]⟩, .int .i64 7, .int .i64 0, .int .i64 1, .int .i64 0, .int .i64 0, .string ⟨#[]⟩, .string ⟨#[]⟩] :=
    ⟨_, rfl, ((Below.refl _ _).alloc (Nat.le_refl _) _), (blk_new_at W (W.heap.size) _ _ (by simp))⟩
  rw [← hW_]
  clear hW_
  refine (ValueB [nv ⟨0, 0, ByteArray.empty⟩, nv ⟨1, 1, ByteArray.empty⟩, nb 7 0 1] (.tuple #[.agg #[.int .i64 0, .int .i64 0, .string ⟨#[]⟩], .int .i64 0]) _ 3 3 _ _ W2.drew _ (by rfl) rfl BE rfl (by decide)).mono ?_
  rintro e w3 ⟨rfl, hb3⟩
  have hb3 : Below W2.heap.size W2 w3 := Below.trans (Below.refl _ _).drew hb3
  have hb4 := bch0 hb2 hb3
  have BE3 := BE.ext hb3
  have q := last7 (BE3.alloc (.cells #[.int .i64 0, .int .i64 0, .string ⟨#[]⟩] 30)) ⟨rfl, rfl, rfl, rfl, rfl, rfl, rfl⟩
  go_wp2_with fail
  clear q
  obtain ⟨W4, hW4, BO, hbO, hfar⟩ := set7 (BE3.alloc (.cells #[.int .i64 0, .int .i64 0, .string ⟨#[]⟩] 30)) (.int .i64 6) (.int .i64 0) (.int .i64 1) (.int .i64 0) (.int .i64 0) (.string ⟨#[]⟩) (.string ⟨#[]⟩)
  have BX := hfar _ _ _ (by have := BE3.lt; omega) (Blk.new w3 30 #[.int .i64 0, .int .i64 0, .string ⟨#[]⟩])
  rw [← hW4]
  have hb5 : Below W.heap.size W W4 := Below.trans (hb4.alloc hb4.size _) (hbO _ (Nat.le_refl _))
  refine (ValueB [nv ⟨0, 0, ByteArray.empty⟩, nv ⟨1, 1, ByteArray.empty⟩, nb 6 0 1] (.tuple #[.agg #[.int .i64 1, .int .i64 1, .string ⟨#[]⟩], .int .i64 0]) _ 3 3 _ _ W4 _ (by rfl) rfl BO rfl (by decide)).mono ?_
  rintro e w5 ⟨rfl, hb6⟩
  have hb7 := bch0 hb5 hb6
  have BO5 := BO.ext hb6
  have BX5 := BX.ext hb6
  have q := first7 (BO5.alloc (.cells #[.int .i64 1, .int .i64 1, .string ⟨#[]⟩] 30)) ⟨rfl, rfl, rfl, rfl, rfl, rfl, rfl⟩
  go_wp2_with fail
  clear q
  obtain ⟨W6, hW_, hb8, BY, BS⟩ : ∃ W_, W_ = ((w5.alloc (.cells #[.int .i64 1, .int .i64 1, .string ⟨#[]⟩] 30)).alloc (.cells #[.int .i64 1, .int .i64 0, .int .i64 0, .int .i64 0, .int .i64 0, .string ⟨#[]⟩, .string ⟨#[]⟩, .int .i64 3, .int .i64 0, .int .i64 0, .int .i64 0, .int .i64 0, .string ⟨#[]⟩, .string ⟨#[]⟩] 36)) ∧ Below w5.heap.size w5 W_ ∧ Blk W_ (w5.heap.size) 30 #[.int .i64 1, .int .i64 1, .string ⟨#[]⟩] ∧ Blk W_ (w5.heap.size + 1) 36 #[.int .i64 1, .int .i64 0, .int .i64 0, .int .i64 0, .int .i64 0, .string ⟨#[]⟩, .string ⟨#[]⟩, .int .i64 3, .int .i64 0, .int .i64 0, .int .i64 0, .int .i64 0, .string ⟨#[]⟩, .string ⟨#[]⟩] :=
    ⟨_, rfl, (((Below.refl _ _).alloc (Nat.le_refl _) _).alloc (by simp; try omega) _), ((blk_new_at w5 (w5.heap.size) _ _ (by simp)).alloc _), (blk_new_at (w5.alloc (.cells #[.int .i64 1, .int .i64 1, .string ⟨#[]⟩] 30)) (w5.heap.size + 1) _ _ (by simp))⟩
  rw [← hW_]
  clear hW_
  refine (ValueB [nv ⟨0, 0, ByteArray.empty⟩, nb 3 0 0] (.tuple #[.agg #[.int .i64 0, .int .i64 0, .string ⟨#[]⟩], .int .i64 0]) _ 2 2 _ _ W6 _ (by rfl) rfl BS rfl (by decide)).mono ?_
  rintro e w7 ⟨rfl, hb9⟩
  have hb10 := bch0 hb8 hb9
  have hb11 := bch0 hb7 hb10
  have BO7 := BO5.ext hb10
  have BX7 := BX5.ext hb10
  have BY7 := BY.ext hb9
  have q := first7 (BO7.alloc (.cells #[.int .i64 0, .int .i64 0, .string ⟨#[]⟩] 30)) ⟨rfl, rfl, rfl, rfl, rfl, rfl, rfl⟩
  go_wp2_with fail
  clear q
  obtain ⟨W8, hW_, hb12, BZ, BS8⟩ : ∃ W_, W_ = ((w7.alloc (.cells #[.int .i64 0, .int .i64 0, .string ⟨#[]⟩] 30)).alloc (.cells #[.int .i64 1, .int .i64 0, .int .i64 0, .int .i64 0, .int .i64 0, .string ⟨#[]⟩, .string ⟨#[]⟩, .int .i64 5, .int .i64 0, .int .i64 0, .int .i64 0, .int .i64 0, .string ⟨#[]⟩, .string ⟨#[]⟩] 36)) ∧ Below w7.heap.size w7 W_ ∧ Blk W_ (w7.heap.size) 30 #[.int .i64 0, .int .i64 0, .string ⟨#[]⟩] ∧ Blk W_ (w7.heap.size + 1) 36 #[.int .i64 1, .int .i64 0, .int .i64 0, .int .i64 0, .int .i64 0, .string ⟨#[]⟩, .string ⟨#[]⟩, .int .i64 5, .int .i64 0, .int .i64 0, .int .i64 0, .int .i64 0, .string ⟨#[]⟩, .string ⟨#[]⟩] :=
    ⟨_, rfl, (((Below.refl _ _).alloc (Nat.le_refl _) _).alloc (by simp; try omega) _), ((blk_new_at w7 (w7.heap.size) _ _ (by simp)).alloc _), (blk_new_at (w7.alloc (.cells #[.int .i64 0, .int .i64 0, .string ⟨#[]⟩] 30)) (w7.heap.size + 1) _ _ (by simp))⟩
  rw [← hW_]
  clear hW_
  refine (ValueB [nv ⟨0, 0, ByteArray.empty⟩, nb 5 0 0] (.tuple #[.agg #[.int .i64 1, .int .i64 1, .string ⟨#[]⟩], .int .i64 0]) _ 2 2 _ _ W8 _ (by rfl) rfl BS8 rfl (by decide)).mono ?_
  rintro e w9 ⟨rfl, hb13⟩
  have hb14 := bch0 hb12 hb13
  have hb15 := bch0 hb11 hb14
  have BX9 := BX7.ext hb14
  have BY9 := BY7.ext hb14
  have BZ9 := BZ.ext hb13
  go_wp2_with fail
  obtain ⟨W10, hW_, hb16, BW⟩ : ∃ W_, W_ = (w9.alloc (.cells #[.int .i64 1, .int .i64 1, .string ⟨#[]⟩] 30)) ∧ Below w9.heap.size w9 W_ ∧ Blk W_ (w9.heap.size) 30 #[.int .i64 1, .int .i64 1, .string ⟨#[]⟩] :=
    ⟨_, rfl, ((Below.refl _ _).alloc (Nat.le_refl _) _), (blk_new_at w9 (w9.heap.size) _ _ (by simp))⟩
  rw [← hW_]
  clear hW_
  have hb17 := bch0 hb15 hb16
  have D9 := fun w' (h : Below W10.heap.size W10.drew w') => DT w' (bch0 hb17 (Below.trans (Below.refl _ _).drew h))
  have DX := fun w' (h : Below W10.heap.size W10.drew w') => (BX9.ext hb16).three (Below.trans (Below.refl _ _).drew h)
  have DY := fun w' (h : Below W10.heap.size W10.drew w') => (BY9.ext hb16).three (Below.trans (Below.refl _ _).drew h)
  have DZ := fun w' (h : Below W10.heap.size W10.drew w') => (BZ9.ext hb16).three (Below.trans (Below.refl _ _).drew h)
  have DW := fun w' (h : Below W10.heap.size W10.drew w') => BW.three (Below.trans (Below.refl _ _).drew h)
  refine wp_region_one [(0, true), (1, true), (2, true), (3, true), (4, true), (5, true), (6, true), (7, true), (8, true), (9, true), (10, true), (11, true), (12, true), (13, true), (14, true), (15, true), (16, true), (17, true), (18, true), (19, true), (20, true), (21, true), (22, true), (23, true), (24, true), (25, true), (26, true), (27, true), (28, true), (29, true), (30, true), (31, true), (32, true), (33, true), (34, true), (35, true), (36, true), (37, true), (38, true), (39, true), (40, true), (41, true), (42, true), (43, true), (44, true), (45, true), (46, true), (47, true), (48, true)] (by kernel_rfl) (by kernel_rfl) (by kernel_rfl) (by decide) ?_
  repeat ((with_reducible show wpPerm _ _ _ _ ((_, true) :: _) _ _); (first | (refine wpPerm_on (v := ?_) rfl rfl (wanted_free rfl) (fun w' hS => ?_) ?_; rotate_left; (focus (go_simp; (try with_reducible rfl); done)); try simp only [Act.put, List.setIfInBounds_toArray, List.set_cons_zero, List.set_cons_succ]) | (refine wpPerm_on (v := ?_) rfl rfl (wanted_yes rfl rfl rfl) (fun w' hS => ?_) ?_; rotate_left; (focus (go_simp; (try with_reducible rfl); done)); try simp only [Act.put, List.setIfInBounds_toArray, List.set_cons_zero, List.set_cons_succ]) | (refine wpPerm_off rfl rfl (wanted_no rfl rfl rfl) ?_; try simp only [Act.put, List.setIfInBounds_toArray, List.set_cons_zero, List.set_cons_succ]) | (refine wpPerm_off rfl rfl (wanted_undef rfl rfl rfl) ?_; try simp only [Act.put, List.setIfInBounds_toArray, List.set_cons_zero, List.set_cons_succ])))
  refine wpPerm_done ?_
  clear D9 DX DY DZ DW DT
  go_wp2
  go_ret
  exact ⟨rfl, Below.trans hb1 (Below.mono (bch0 hbW hb17).drew hb1.size)⟩

set_option maxRecDepth 1000000 in
set_option maxHeartbeats 4000000 in
theorem three_22 (a b : Int) (w : World) (ha : ok64 a) (hb : ok64 b) (h3 : a % 3 = 2) (k3 : b % 3 = 2) :
    Calls Try.prog 5 #[.int .i64 a, .int .i64 b] w fun e w' => e = .returned (.bool true) ∧ Below w.heap.size w w' := by
  have H3 := Lib.hid h3
  have K3 := Lib.hid k3
  clear h3 k3
  have e0 := fun W => eqlS 1 0 ⟨#[]⟩ 1 0 ⟨#[]⟩ true (by decide) W
  have e1 := fun W => eqlS 1 1 ⟨#[]⟩ 1 1 ⟨#[]⟩ true (by decide) W
  have e2 := fun W => eqlS 0 0 ⟨#[]⟩ 0 0 ⟨#[]⟩ true (by decide) W
  have hq : IntKind.i64.wrap ((IntKind.i64.wrap 2).tdiv 2) = 1 := by decide
  go_enter Try.func5, Try.ntmps5
  go_wp2_with fail
  refine (known _).mono ?_
  rintro e w1 ⟨rfl, hb1⟩
  go_wp2_with fail
  refine (withinr _ _ _ H3.out _ (by decide) (by decide) ha).mono ?_
  rintro e w2 ⟨rfl, rfl⟩
  go_wp2_with fail
  refine (withinr _ _ _ K3.out _ (by decide) (by decide) hb).mono ?_
  rintro e w2 ⟨rfl, rfl⟩
  go_wp2_with fail
  obtain ⟨W, hW_, hbW, BT⟩ : ∃ W_, W_ = (w1.alloc (.cells #[.int .i64 1, .int .i64 0, .string ⟨#[]⟩, .int .i64 1, .int .i64 1, .string ⟨#[]⟩, .int .i64 0, .int .i64 0, .string ⟨#[]⟩] 30)) ∧ Below w1.heap.size w1 W_ ∧ Blk W_ (w1.heap.size) 30 #[.int .i64 1, .int .i64 0, .string ⟨#[]⟩, .int .i64 1, .int .i64 1, .string ⟨#[]⟩, .int .i64 0, .int .i64 0, .string ⟨#[]⟩] :=
    ⟨_, rfl, ((Below.refl _ _).alloc (Nat.le_refl _) _), (blk_new_at w1 (w1.heap.size) _ _ (by simp))⟩
  rw [← hW_]
  clear hW_
  have DT := fun w' (h : Below W.heap.size W w') => nine BT h
  have D := fun w' (h : Below W.heap.size W.drew w') => DT w' (Below.trans (Below.refl _ _).drew h)
  refine wp_region_one [(0, true), (1, true), (2, true), (3, true), (4, true), (5, true), (6, true), (7, true), (8, true), (9, true), (10, true), (11, false), (12, true)] (by kernel_rfl) (by kernel_rfl) (by kernel_rfl) (by decide) ?_
  repeat ((with_reducible show wpPerm _ _ _ _ ((_, true) :: _) _ _); (first | (refine wpPerm_on (v := ?_) rfl rfl (wanted_free rfl) (fun w' hS => ?_) ?_; rotate_left; (focus (go_simp; (try with_reducible rfl); done)); try simp only [Act.put, List.setIfInBounds_toArray, List.set_cons_zero, List.set_cons_succ]) | (refine wpPerm_on (v := ?_) rfl rfl (wanted_yes rfl rfl rfl) (fun w' hS => ?_) ?_; rotate_left; (focus (go_simp; (try with_reducible rfl); done)); try simp only [Act.put, List.setIfInBounds_toArray, List.set_cons_zero, List.set_cons_succ]) | (refine wpPerm_off rfl rfl (wanted_no rfl rfl rfl) ?_; try simp only [Act.put, List.setIfInBounds_toArray, List.set_cons_zero, List.set_cons_succ]) | (refine wpPerm_off rfl rfl (wanted_undef rfl rfl rfl) ?_; try simp only [Act.put, List.setIfInBounds_toArray, List.set_cons_zero, List.set_cons_succ])))
  refine wpPerm_do rfl (wanted_free rfl) (fun K hK => ?_); go_simp
  refine hK.out _ _ (show Below W.heap.size W.drew (W.drew.alloc _) from (Below.refl W.heap.size W.drew).alloc (Nat.le_refl _) _) ?_
  clear hK K
  repeat ((with_reducible show wpPerm _ _ _ _ ((_, true) :: _) _ _); (first | (refine wpPerm_on (v := ?_) rfl rfl (wanted_free rfl) (fun w' hS => ?_) ?_; rotate_left; (focus (go_simp; (try with_reducible rfl); done)); try simp only [Act.put, List.setIfInBounds_toArray, List.set_cons_zero, List.set_cons_succ]) | (refine wpPerm_on (v := ?_) rfl rfl (wanted_yes rfl rfl rfl) (fun w' hS => ?_) ?_; rotate_left; (focus (go_simp; (try with_reducible rfl); done)); try simp only [Act.put, List.setIfInBounds_toArray, List.set_cons_zero, List.set_cons_succ]) | (refine wpPerm_off rfl rfl (wanted_no rfl rfl rfl) ?_; try simp only [Act.put, List.setIfInBounds_toArray, List.set_cons_zero, List.set_cons_succ]) | (refine wpPerm_off rfl rfl (wanted_undef rfl rfl rfl) ?_; try simp only [Act.put, List.setIfInBounds_toArray, List.set_cons_zero, List.set_cons_succ])))
  refine wpPerm_done ?_
  clear D
  go_wp2_with fail
  obtain ⟨W2, hW_, hb2, BE⟩ : ∃ W_, W_ = (W.alloc (.cells #[.int .i64 1, .int .i64 0, .int .i64 0, .int .i64 0, .int .i64 0, .string ⟨#[]⟩, .string ⟨#[]⟩, .int .i64 1, .int .i64 0, .int .i64 0, .int .i64 0, .int .i64 0, .string ⟨#[]⟩, .string ⟨#[]⟩, .int .i64 7, .int .i64 0, .int .i64 1, .int .i64 0, .int .i64 0, .string ⟨#[]⟩, .string ⟨#[]⟩] 36)) ∧ Below W.heap.size W W_ ∧ Blk W_ (W.heap.size) 36 #[.int .i64 1, .int .i64 0, .int .i64 0, .int .i64 0, .int .i64 0, .string ⟨#[]⟩, .string ⟨#[]⟩, .int .i64 1, .int .i64 0, .int .i64 0, .int .i64 0, .int .i64 0, .string ⟨#[]⟩, .string ⟨#[]⟩, .int .i64 7, .int .i64 0, .int .i64 1, .int .i64 0, .int .i64 0, .string ⟨#[]⟩, .string ⟨#[]⟩] :=
    ⟨_, rfl, ((Below.refl _ _).alloc (Nat.le_refl _) _), (blk_new_at W (W.heap.size) _ _ (by simp))⟩
  rw [← hW_]
  clear hW_
  refine (ValueB [nv ⟨0, 0, ByteArray.empty⟩, nv ⟨0, 0, ByteArray.empty⟩, nb 7 0 1] (.tuple #[.agg #[.int .i64 0, .int .i64 0, .string ⟨#[]⟩], .int .i64 0]) _ 3 3 _ _ W2.drew _ (by rfl) rfl BE rfl (by decide)).mono ?_
  rintro e w3 ⟨rfl, hb3⟩
  have hb3 : Below W2.heap.size W2 w3 := Below.trans (Below.refl _ _).drew hb3
  have hb4 := bch0 hb2 hb3
  have BE3 := BE.ext hb3
  have q := last7 (BE3.alloc (.cells #[.int .i64 0, .int .i64 0, .string ⟨#[]⟩] 30)) ⟨rfl, rfl, rfl, rfl, rfl, rfl, rfl⟩
  go_wp2_with fail
  clear q
  obtain ⟨W4, hW4, BO, hbO, hfar⟩ := set7 (BE3.alloc (.cells #[.int .i64 0, .int .i64 0, .string ⟨#[]⟩] 30)) (.int .i64 6) (.int .i64 0) (.int .i64 1) (.int .i64 0) (.int .i64 0) (.string ⟨#[]⟩) (.string ⟨#[]⟩)
  have BX := hfar _ _ _ (by have := BE3.lt; omega) (Blk.new w3 30 #[.int .i64 0, .int .i64 0, .string ⟨#[]⟩])
  rw [← hW4]
  have hb5 : Below W.heap.size W W4 := Below.trans (hb4.alloc hb4.size _) (hbO _ (Nat.le_refl _))
  refine (ValueB [nv ⟨0, 0, ByteArray.empty⟩, nv ⟨0, 0, ByteArray.empty⟩, nb 6 0 1] (.tuple #[.agg #[.int .i64 0, .int .i64 0, .string ⟨#[]⟩], .int .i64 0]) _ 3 3 _ _ W4 _ (by rfl) rfl BO rfl (by decide)).mono ?_
  rintro e w5 ⟨rfl, hb6⟩
  have hb7 := bch0 hb5 hb6
  have BO5 := BO.ext hb6
  have BX5 := BX.ext hb6
  have q := first7 (BO5.alloc (.cells #[.int .i64 0, .int .i64 0, .string ⟨#[]⟩] 30)) ⟨rfl, rfl, rfl, rfl, rfl, rfl, rfl⟩
  go_wp2_with fail
  clear q
  obtain ⟨W6, hW_, hb8, BY, BS⟩ : ∃ W_, W_ = ((w5.alloc (.cells #[.int .i64 0, .int .i64 0, .string ⟨#[]⟩] 30)).alloc (.cells #[.int .i64 1, .int .i64 0, .int .i64 0, .int .i64 0, .int .i64 0, .string ⟨#[]⟩, .string ⟨#[]⟩, .int .i64 3, .int .i64 0, .int .i64 0, .int .i64 0, .int .i64 0, .string ⟨#[]⟩, .string ⟨#[]⟩] 36)) ∧ Below w5.heap.size w5 W_ ∧ Blk W_ (w5.heap.size) 30 #[.int .i64 0, .int .i64 0, .string ⟨#[]⟩] ∧ Blk W_ (w5.heap.size + 1) 36 #[.int .i64 1, .int .i64 0, .int .i64 0, .int .i64 0, .int .i64 0, .string ⟨#[]⟩, .string ⟨#[]⟩, .int .i64 3, .int .i64 0, .int .i64 0, .int .i64 0, .int .i64 0, .string ⟨#[]⟩, .string ⟨#[]⟩] :=
    ⟨_, rfl, (((Below.refl _ _).alloc (Nat.le_refl _) _).alloc (by simp; try omega) _), ((blk_new_at w5 (w5.heap.size) _ _ (by simp)).alloc _), (blk_new_at (w5.alloc (.cells #[.int .i64 0, .int .i64 0, .string ⟨#[]⟩] 30)) (w5.heap.size + 1) _ _ (by simp))⟩
  rw [← hW_]
  clear hW_
  refine (ValueB [nv ⟨0, 0, ByteArray.empty⟩, nb 3 0 0] (.tuple #[.agg #[.int .i64 0, .int .i64 0, .string ⟨#[]⟩], .int .i64 0]) _ 2 2 _ _ W6 _ (by rfl) rfl BS rfl (by decide)).mono ?_
  rintro e w7 ⟨rfl, hb9⟩
  have hb10 := bch0 hb8 hb9
  have hb11 := bch0 hb7 hb10
  have BO7 := BO5.ext hb10
  have BX7 := BX5.ext hb10
  have BY7 := BY.ext hb9
  have q := first7 (BO7.alloc (.cells #[.int .i64 0, .int .i64 0, .string ⟨#[]⟩] 30)) ⟨rfl, rfl, rfl, rfl, rfl, rfl, rfl⟩
  go_wp2_with fail
  clear q
  obtain ⟨W8, hW_, hb12, BZ, BS8⟩ : ∃ W_, W_ = ((w7.alloc (.cells #[.int .i64 0, .int .i64 0, .string ⟨#[]⟩] 30)).alloc (.cells #[.int .i64 1, .int .i64 0, .int .i64 0, .int .i64 0, .int .i64 0, .string ⟨#[]⟩, .string ⟨#[]⟩, .int .i64 5, .int .i64 0, .int .i64 0, .int .i64 0, .int .i64 0, .string ⟨#[]⟩, .string ⟨#[]⟩] 36)) ∧ Below w7.heap.size w7 W_ ∧ Blk W_ (w7.heap.size) 30 #[.int .i64 0, .int .i64 0, .string ⟨#[]⟩] ∧ Blk W_ (w7.heap.size + 1) 36 #[.int .i64 1, .int .i64 0, .int .i64 0, .int .i64 0, .int .i64 0, .string ⟨#[]⟩, .string ⟨#[]⟩, .int .i64 5, .int .i64 0, .int .i64 0, .int .i64 0, .int .i64 0, .string ⟨#[]⟩, .string ⟨#[]⟩] :=
    ⟨_, rfl, (((Below.refl _ _).alloc (Nat.le_refl _) _).alloc (by simp; try omega) _), ((blk_new_at w7 (w7.heap.size) _ _ (by simp)).alloc _), (blk_new_at (w7.alloc (.cells #[.int .i64 0, .int .i64 0, .string ⟨#[]⟩] 30)) (w7.heap.size + 1) _ _ (by simp))⟩
  rw [← hW_]
  clear hW_
  refine (ValueB [nv ⟨0, 0, ByteArray.empty⟩, nb 5 0 0] (.tuple #[.agg #[.int .i64 1, .int .i64 1, .string ⟨#[]⟩], .int .i64 0]) _ 2 2 _ _ W8 _ (by rfl) rfl BS8 rfl (by decide)).mono ?_
  rintro e w9 ⟨rfl, hb13⟩
  have hb14 := bch0 hb12 hb13
  have hb15 := bch0 hb11 hb14
  have BX9 := BX7.ext hb14
  have BY9 := BY7.ext hb14
  have BZ9 := BZ.ext hb13
  go_wp2_with fail
  obtain ⟨W10, hW_, hb16, BW⟩ : ∃ W_, W_ = (w9.alloc (.cells #[.int .i64 1, .int .i64 1, .string ⟨#[]⟩] 30)) ∧ Below w9.heap.size w9 W_ ∧ Blk W_ (w9.heap.size) 30 #[.int .i64 1, .int .i64 1, .string ⟨#[]⟩] :=
    ⟨_, rfl, ((Below.refl _ _).alloc (Nat.le_refl _) _), (blk_new_at w9 (w9.heap.size) _ _ (by simp))⟩
  rw [← hW_]
  clear hW_
  have hb17 := bch0 hb15 hb16
  have D9 := fun w' (h : Below W10.heap.size W10.drew w') => DT w' (bch0 hb17 (Below.trans (Below.refl _ _).drew h))
  have DX := fun w' (h : Below W10.heap.size W10.drew w') => (BX9.ext hb16).three (Below.trans (Below.refl _ _).drew h)
  have DY := fun w' (h : Below W10.heap.size W10.drew w') => (BY9.ext hb16).three (Below.trans (Below.refl _ _).drew h)
  have DZ := fun w' (h : Below W10.heap.size W10.drew w') => (BZ9.ext hb16).three (Below.trans (Below.refl _ _).drew h)
  have DW := fun w' (h : Below W10.heap.size W10.drew w') => BW.three (Below.trans (Below.refl _ _).drew h)
  refine wp_region_one [(0, true), (1, true), (2, true), (3, true), (4, true), (5, true), (6, true), (7, true), (8, true), (9, true), (10, true), (11, true), (12, true), (13, true), (14, true), (15, true), (16, true), (17, true), (18, true), (19, true), (20, true), (21, true), (22, true), (23, true), (24, true), (25, true), (26, true), (27, true), (28, true), (29, true), (30, true), (31, true), (32, true), (33, true), (34, true), (35, true), (36, true), (37, true), (38, true), (39, true), (40, true), (41, true), (42, true), (43, true), (44, true), (45, true), (46, true), (47, true), (48, true)] (by kernel_rfl) (by kernel_rfl) (by kernel_rfl) (by decide) ?_
  repeat ((with_reducible show wpPerm _ _ _ _ ((_, true) :: _) _ _); (first | (refine wpPerm_on (v := ?_) rfl rfl (wanted_free rfl) (fun w' hS => ?_) ?_; rotate_left; (focus (go_simp; (try with_reducible rfl); done)); try simp only [Act.put, List.setIfInBounds_toArray, List.set_cons_zero, List.set_cons_succ]) | (refine wpPerm_on (v := ?_) rfl rfl (wanted_yes rfl rfl rfl) (fun w' hS => ?_) ?_; rotate_left; (focus (go_simp; (try with_reducible rfl); done)); try simp only [Act.put, List.setIfInBounds_toArray, List.set_cons_zero, List.set_cons_succ]) | (refine wpPerm_off rfl rfl (wanted_no rfl rfl rfl) ?_; try simp only [Act.put, List.setIfInBounds_toArray, List.set_cons_zero, List.set_cons_succ]) | (refine wpPerm_off rfl rfl (wanted_undef rfl rfl rfl) ?_; try simp only [Act.put, List.setIfInBounds_toArray, List.set_cons_zero, List.set_cons_succ])))
  refine wpPerm_done ?_
  clear D9 DX DY DZ DW DT
  go_wp2
  go_ret
  exact ⟨rfl, Below.trans hb1 (Below.mono (bch0 hbW hb17).drew hb1.size)⟩

theorem three_walk (a b : Int) (w : World) (ha : ok64 a) (hb : ok64 b) :
    Calls Try.prog 5 #[.int .i64 a, .int .i64 b] w fun e w' => e = .returned (.bool true) ∧ Below w.heap.size w w' := by
  have h3 : a % 3 = 0 ∨ a % 3 = 1 ∨ a % 3 = 2 := by omega
  have k3 : b % 3 = 0 ∨ b % 3 = 1 ∨ b % 3 = 2 := by omega
  rcases h3 with h3 | h3 | h3 <;> rcases k3 with k3 | k3 | k3
  · exact three_00 a b w ha hb h3 k3
  · exact three_01 a b w ha hb h3 k3
  · exact three_02 a b w ha hb h3 k3
  · exact three_10 a b w ha hb h3 k3
  · exact three_11 a b w ha hb h3 k3
  · exact three_12 a b w ha hb h3 k3
  · exact three_20 a b w ha hb h3 k3
  · exact three_21 a b w ha hb h3 k3
  · exact three_22 a b w ha hb h3 k3
end Go.Proofs.Ytfgmlgflfagdjaa.ev
