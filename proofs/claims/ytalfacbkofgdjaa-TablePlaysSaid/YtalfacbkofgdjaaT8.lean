/- Contract: with. -/
import Derived.Test.YtalfacbkofgdjaaT7
import Derived.Test.YtalfacbkofgdjaaS
namespace Go.Proofs.Ytalfacbkofgdjaa.tb
open Go.ChangeShapes Go.WideShapes Go.ChangeAt Go.RowKit Go.Proofs.Ytalfacbkofgdjaa.lib Go.Proofs.Ytalfacbkofgdjaa.val
set_option linter.unusedVariables false

theorem Blk.set1 {w : World} {g i : Nat} {t : TypeId} {cs : Array Value} (h : Blk w g t cs) (a : Value) : ∃ w', w' = w.setCell ⟨g, i, none⟩ a ∧ Blk w' g t (cs.setIfInBounds i a) ∧ (∀ B, B ≤ g → Below B w w') ∧ w.grownBy w' (some g) := by
  refine ⟨_, rfl, h.set_ i a, fun B hB => (Below.refl _ _).setCell hB _, ⟨rfl, rfl, rfl, by simp [World.setCell], fun k hk hne => ?_⟩⟩
  have hne : k ≠ g := fun e => hne (by rw [e])
  exact Below.heap_setCell _ _ _ _ hne
theorem grown_trans {a b c : World} {g : Nat} (h : a.grownBy b (some g)) (k : b.grownBy c (some g)) : a.grownBy c (some g) :=
  ⟨k.os.trans h.os, k.tape.trans h.tape, k.output.trans h.output, Nat.le_trans h.size k.size, fun i hi hne => (k.block i (Nat.lt_of_lt_of_le hi h.size) hne).trans (h.block i hi hne)⟩
theorem Blk.set5 {w : World} {g : Nat} {t : TypeId} {x0 x1 x2 x3 x4 : Value} (h : Blk w g t #[x0, x1, x2, x3, x4]) (a0 a1 a2 a3 a4 : Value) :
    ∃ w', w' = ((((w.setCell ⟨g, 0, none⟩ a0).setCell ⟨g, 1, none⟩ a1).setCell ⟨g, 2, none⟩ a2).setCell ⟨g, 3, none⟩ a3).setCell ⟨g, 4, none⟩ a4 ∧ Blk w' g t #[a0, a1, a2, a3, a4] ∧
    (∀ B, B ≤ g → Below B w w') ∧ w.grownBy w' (some g) := by
  obtain ⟨w0, e0, h0, b0, g0⟩ := Blk.set1 (i := 0) h a0
  obtain ⟨w1, e1, h1, b1, g1⟩ := Blk.set1 (i := 1) h0 a1
  obtain ⟨w2, e2, h2, b2, g2⟩ := Blk.set1 (i := 2) h1 a2
  obtain ⟨w3, e3, h3, b3, g3⟩ := Blk.set1 (i := 3) h2 a3
  obtain ⟨w4, e4, h4, b4, g4⟩ := Blk.set1 (i := 4) h3 a4
  refine ⟨w4, by rw [e4, e3, e2, e1, e0], by simpa using h4, fun B hB => ?_, grown_trans (grown_trans (grown_trans (grown_trans g0 g1) g2) g3) g4⟩
  exact Below.trans (b0 B hB) (Below.trans (b1 B hB) (Below.trans (b2 B hB) (Below.trans (b3 B hB) (b4 B hB))))
/-- slices that are joined to a table's rows -/
structure Parts (w : World) (g m : Nat) (rows : List (List V)) (ps : List Part) : Prop where
  len : ps.length = m
  blk : g < w.heap.size
  few : m ≤ 1000
  cell : ∀ (i : Nat) p, ps[i]? = some p → w.cell? ⟨g, i, none⟩ = some (.slice p.A p.n p.c) ∧ PartOk w p
  sum : sumN ps = rows.length
  hs : Hs w 0 (allC ps) rows
theorem Parts.ext {w w' : World} {g m : Nat} {rows : List (List V)} {ps : List Part} (h : Parts w g m rows ps) (hb : Below w.heap.size w w') : Parts w' g m rows ps :=
  ⟨h.len, Nat.lt_of_lt_of_le h.blk hb.size, h.few, fun i p hp => ⟨(hb.cell (p := ⟨g, i, none⟩) h.blk).trans (h.cell i p hp).1, (h.cell i p hp).2.ext hb⟩, h.sum, h.hs.ext hb⟩
def TabP (S : Sch) (rows : List (List V)) (w : World) (r : Ending) (w' : World) : Prop := ∃ v, r = .returned v ∧ TabR w' w.heap.size v S rows ∧ Below w.heap.size w w'
theorem Cs.grown {w w' : World} {row : Option Nat} {lo n c B : Nat} {A : Option Addr} {l : List Col} (h : Cs w lo A n c l) (hw : w.heap.size ≤ B) (hg : w.grownBy w' row) (hl : ∀ g, row = some g → B ≤ g) : Cs w' lo A n c l := ⟨h.1.grownB hw hg hl, h.2⟩
theorem Cs.grownL {w w' : World} {g lo n c : Nat} {A : Option Addr} {l : List Col} (h : Cs w lo A n c l) (hg : w.grownBy w' (some g)) (hl : g < lo) : Cs w' lo A n c l := ⟨h.1.grownL hg hl, h.2⟩
theorem Hs.grownL {w w' : World} {g lo : Nat} {hs : List Value} {rows : List (List V)} (h : Hs w lo hs rows) (hg : w.grownBy w' (some g)) (hl : g < lo) : Hs w' lo hs rows := ⟨h.1, fun i h' r h1 h2 => by
  obtain ⟨A, c, e, hv⟩ := h.2 i h' r h1 h2
  exact ⟨A, c, e, hv.1.grownL hg hl, hv.2⟩⟩
theorem Rs.grownL {w w' : World} {g lo n c : Nat} {A : Option Addr} {rows : List (List V)} (h : Rs w lo A n c rows) (hg : w.grownBy w' (some g)) (hl : g < lo) : Rs w' lo A n c rows := by
  obtain ⟨hs, h1, h2, h3⟩ := h
  exact ⟨hs, h1.grownL hg hl, h2.grownL hg hl, h3⟩
set_option maxHeartbeats 2000000 in
theorem with_ (S : Sch) (lo : Nat) (A : Option Addr) (n c : Nat) (A' : Option Addr) (n' c' : Nat) (rows : List (List V)) (ps : List Part) (g m : Nat) (w : World) (hC : Cs w lo A n c S.cols) (hn : n ≤ 100000) (hp : Parts w g m rows ps) (hN : rows.length ≤ 100000) (hl : ∀ r ∈ rows, r.length ≤ 100000) :
    Calls Try.prog 35 #[.agg (tabA S A n c A' n' c'), .slice (some ⟨g, 0, none⟩) m m] w (TabP S rows w) := by
  obtain ⟨nm, cols, key, only⟩ := S
  simp only [tabA] at hC ⊢
  have HL := Lib.hid hl
  clear hl
  go_enter Try.func35, Try.ntmps35
  go_upto_region 1 with fail
  obtain ⟨W, hW_, hbW, B1, B2⟩ : ∃ W_, W_ = ((w.alloc (.cells #[.string nm, .slice A n c, .int .i64 key, .bool only, .slice A' n' c'] 75)).alloc (.cells #[.string ⟨#[]⟩, .slice none 0 0, .int .i64 0, .bool false, .slice none 0 0] 32)) ∧ Below w.heap.size w W_ ∧ Blk W_ (w.heap.size) 75 #[.string nm, .slice A n c, .int .i64 key, .bool only, .slice A' n' c'] ∧ Blk W_ (w.heap.size + 1) 32 #[.string ⟨#[]⟩, .slice none 0 0, .int .i64 0, .bool false, .slice none 0 0] :=
    ⟨_, rfl, (((Below.refl _ _).alloc (Nat.le_refl _) _).alloc (by simp; try omega) _), ((blk_new_at w (w.heap.size) _ _ (by simp)).alloc _), (blk_new_at (w.alloc (.cells #[.string nm, .slice A n c, .int .i64 key, .bool only, .slice A' n' c'] 75)) (w.heap.size + 1) _ _ (by simp))⟩
  rw [← hW_]
  clear hW_
  have q1 := five B1 (Below.refl _ _)
  have hWl := B2.lt
  go_wp2_with fail
  clear q1
  obtain ⟨W2, hW_, hb2, B3⟩ : ∃ W_, W_ = (W.alloc (.cells #[.string nm, .slice A n c, .int .i64 key, .bool only] 24)) ∧ Below W.heap.size W W_ ∧ Blk W_ (W.heap.size) 24 #[.string nm, .slice A n c, .int .i64 key, .bool only] :=
    ⟨_, rfl, ((Below.refl _ _).alloc (Nat.le_refl _) _), (blk_new_at W (W.heap.size) _ _ (by simp))⟩
  rw [← hW_]
  clear hW_
  have hbW2 := Below.trans hbW (Below.mono hb2 hbW.size)
  have hz3 := B3.lt
  refine (cloneC cols lo A n c _ hn (hC.ext hbW2)).mono ?_
  rintro e w3 ⟨Ac, cc, rfl, hown3, hb3⟩
  have hC3 : Cs w3 W2.heap.size Ac n cc cols := Cs.of_own hown3
  have B3 := B3.ext hb3
  have B2 := (B2.ext hb2).ext hb3
  have hbw3 := Below.trans hbW2 (Below.mono hb3 hbW2.size)
  have hz1 := hbW.size
  have hz2 := hb2.size
  have f := B3.frozen 1
  have q := B3.cell 1
  have hz33 := hb3.size
  clear hown3 hb3
  go_wp2_with fail
  clear f q
  obtain ⟨w4, hw4, B4, hlow4, hgr4⟩ := Blk.set1 (i := 1) B3 (.slice Ac n cc)
  rw [← hw4]
  clear hw4
  have B4 : Blk w4 W.heap.size 24 #[.string nm, .slice Ac n cc, .int .i64 key, .bool only] := B4
  have hbw4 := Below.trans hbw3 (hlow4 _ hz1)
  have B2 : Blk w4 (w.heap.size + 1) 32 #[.string ⟨#[]⟩, .slice none 0 0, .int .i64 0, .bool false, .slice none 0 0] := B2.grown hgr4 (by simp; omega)
  have hgl := hlow4 _ (Nat.le_refl _)
  have hg4 := hgr4.size
  have hgC : Cs w4 W2.heap.size Ac n cc cols := hC3.grownL hgr4 hz3
  have D := fun w' (h : Blk w' W.heap.size 24 #[.string nm, .slice Ac n cc, .int .i64 key, .bool only] ∧ Below w.heap.size w w') => four h.1 (Below.refl _ _)
  refine wp_region_oneS (S := fun w' => Blk w' W.heap.size 24 #[.string nm, .slice Ac n cc, .int .i64 key, .bool only] ∧ Below w.heap.size w w') [(0, true), (1, true), (2, false), (3, false), (4, true), (5, false)] (by kernel_rfl) (by kernel_rfl) (by kernel_rfl) (by decide) ⟨B4, hbw4.drew⟩ ?_
  repeat ((with_reducible show wpPerm _ _ _ _ ((_, true) :: _) _ _); (first | (refine wpPerm_on (v := ?_) rfl rfl (wanted_free rfl) (fun w' hS => ?_) ?_; rotate_left; (focus (go_simp; (try with_reducible rfl); done)); try simp only [List.setIfInBounds_toArray, List.set_cons_zero, List.set_cons_succ]) | (refine wpPerm_on (v := ?_) rfl rfl (wanted_yes rfl rfl rfl) (fun w' hS => ?_) ?_; rotate_left; (focus (go_simp; (try with_reducible rfl); done)); try simp only [List.setIfInBounds_toArray, List.set_cons_zero, List.set_cons_succ]) | (refine wpPerm_off rfl rfl (wanted_no rfl rfl rfl) ?_; try simp only [List.setIfInBounds_toArray, List.set_cons_zero, List.set_cons_succ]) | (refine wpPerm_off rfl rfl (wanted_undef rfl rfl rfl) ?_; try simp only [List.setIfInBounds_toArray, List.set_cons_zero, List.set_cons_succ])))
  refine wpPerm_do rfl (wanted_free rfl) (fun K hK => ?_); go_simp
  have hpx := hp.ext hbw4.drew
  refine (concat_ ps g m _ hpx.len hpx.blk hpx.cell (by rw [hpx.sum]; exact hN) hpx.few).mono ?_
  rintro e w5 ⟨A5, c5, rfl, hown5, hb5⟩
  have hbw5 := Below.trans hbw4.drew (Below.mono hb5 hbw4.size)
  refine hK.out _ _ ⟨B4.ext (Below.trans (Below.refl _ _).drew hb5), hbw5⟩ ?_
  clear hK K
  refine wpPerm_do rfl (wanted_free rfl) (fun K hK => ?_); go_simp
  have hR5 : Rs w5 0 A5 (sumN ps) c5 rows := ⟨allC ps, (Row.of_own hown5).base (Nat.zero_le _), hpx.hs.ext hb5, hpx.sum.symm⟩
  refine (own_ rows 0 A5 (sumN ps) c5 _ hR5 (by rw [hpx.sum]; exact hN) HL.out).mono ?_
  rintro e w6 ⟨A6, c6, rfl, hR6, hF6, hb6⟩
  have hb46 := Below.trans (Below.refl _ _).drew (Below.trans hb5 (Below.mono hb6 hb5.size))
  have hbw6 := Below.trans hbw5 (Below.mono hb6 hbw5.size)
  refine hK.out _ _ ⟨B4.ext hb46, hbw6⟩ ?_
  clear hK K
  repeat ((with_reducible show wpPerm _ _ _ _ ((_, true) :: _) _ _); (first | (refine wpPerm_on (v := ?_) rfl rfl (wanted_free rfl) (fun w' hS => ?_) ?_; rotate_left; (focus (go_simp; (try with_reducible rfl); done)); try simp only [List.setIfInBounds_toArray, List.set_cons_zero, List.set_cons_succ]) | (refine wpPerm_on (v := ?_) rfl rfl (wanted_yes rfl rfl rfl) (fun w' hS => ?_) ?_; rotate_left; (focus (go_simp; (try with_reducible rfl); done)); try simp only [List.setIfInBounds_toArray, List.set_cons_zero, List.set_cons_succ]) | (refine wpPerm_off rfl rfl (wanted_no rfl rfl rfl) ?_; try simp only [List.setIfInBounds_toArray, List.set_cons_zero, List.set_cons_succ]) | (refine wpPerm_off rfl rfl (wanted_undef rfl rfl rfl) ?_; try simp only [List.setIfInBounds_toArray, List.set_cons_zero, List.set_cons_succ])))
  clear D
  have B2 := B2.ext hb46
  have f0 := B2.frozen 0
  have f1 := B2.frozen 1
  have f2 := B2.frozen 2
  have f3 := B2.frozen 3
  have f4 := B2.frozen 4
  have q := five B2 (Below.refl _ _)
  refine wpPerm_do rfl (wanted_free rfl) (fun K hK => ?_); go_simp
  clear f0 f1 f2 f3 f4 q
  obtain ⟨w7, hw7, B7, hlow7, hgr7⟩ := Blk.set5 B2 (.string nm) (.slice Ac n cc) (.int .i64 key) (.bool only) (.slice A6 (sumN ps) c6)
  rw [← hw7]
  clear hw7
  have hbw7 := Below.trans hbw6 (hlow7 _ (Nat.le_succ _))
  have hz4 : W2.heap.size ≤ w4.heap.size := by omega
  have hz5 : w4.heap.size ≤ w5.heap.size := hb5.size
  refine hK.out _ _ ⟨(B4.ext hb46).grown hgr7 (by simp; omega), hbw7⟩ (wpPerm_done ?_)
  clear hK K
  have q := five B7 (Below.refl _ _)
  go_wp2
  exact bodyPost_ret (v := .agg #[.string nm, .slice Ac n cc, .int .i64 key, .bool only, .slice A6 (sumN ps) c6]) (by simp [results, Try.results35, go_sem, q]; try rfl) rfl
    ⟨_, rfl, ⟨Ac, n, cc, A6, sumN ps, c6, rfl, ((hgC.ext hb46).grownL hgr7 (by omega)).base (by omega), (hR6.grownL hgr7 (by omega)).base (by omega), hF6⟩, hbw7⟩
end Go.Proofs.Ytalfacbkofgdjaa.tb
