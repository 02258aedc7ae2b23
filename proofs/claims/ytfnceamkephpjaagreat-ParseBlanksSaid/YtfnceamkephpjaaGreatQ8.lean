/- Statements: select's closure. Printed by genq8.py. -/
import Derived.Test.YtfnceamkephpjaaGreatQ7
namespace Go.Proofs.YtfnceamkephpjaaGreat.pg
open Go.ChangeShapes Go.WideShapes Go.ChangeAt Go.RowKit Go.Proofs.YtfnceamkephpjaaGreat.lib Go.Proofs.YtfnceamkephpjaaGreat.lx
set_option linter.unusedVariables false

/-- select's row on its way -/
def IxI (w0 : World) (g b pb xb rb : Nat) (W : List Wd) (st : St) (n : Nat) (s : List (Int × List Nd)) (p : Pp) (w : World) : Prop := s.length = n ∧ ∃ v, Sx w0 w g b pb xb rb W p { st with items := s } v ∧ Lo w0.heap.size v
set_option maxRecDepth 1000000 in
set_option maxHeartbeats 4000000 in
theorem sel1_ (w0 : World) (g b pb xb rb : Nat) (W : List Wd) (st : St) (n : Nat) (s : List (Int × List Nd)) (p : Pp) (w : World) (hn : n ≤ 6) (hx : IxI w0 g b pb xb rb W st n s p w) :
    Calls Tryz.prog 54 #[.pointer (some ⟨xb, 0, none⟩), .pointer (some ⟨pb, 0, none⟩)] w fun e w' => e = .returned (.tuple #[]) ∧ IxI w0 g b pb xb rb W st (n + 1) (itemDo W s p).1 (itemDo W s p).2 w' := by
  obtain ⟨i0i, hii, hy0i, hy1i, hy2i⟩ := info_parts (P := Tryz.prog) (e := 63) (z := .agg #[.int .i64 0, .slice none 0 0]) (size := 2) (bytes := 32) (by kernel_rfl)
  obtain ⟨rfl, v, x, lo⟩ := hx
  have X := Lib.hid x
  have LO := Lib.hid lo
  have HE := Lib.hid (fun w' (y : Pr w' g W b p) => item_ y)
  replace HE := HE.out
  have hr := (show itemDo W s p = match itemP W p with | (x, q) => (s ++ [x], q) from rfl)
  obtain ⟨⟨⟨fn, es⟩, q⟩, hq⟩ : ∃ X, itemP W p = X := ⟨_, rfl⟩
  rw [hq] at HE hr
  simp only at HE hr
  rw [hr]
  replace HE := Lib.hid HE
  clear x lo hr hq
  go_enter Tryz.func54, Tryz.ntmps54
  have XV := Lib.hid (X.out.ext (Below.drew (Below.refl _ _)))
  have D := fun w' (h : Blk w' pb 50 #[.pointer (some ⟨g, 0, none⟩)]) => h.cell 0
  refine wp_region_tree (S := fun w' => Blk w' pb 50 #[.pointer (some ⟨g, 0, none⟩)]) (.take 0 (.take 2 (.two 1 3 (.one 3 (.one 4 (.one 5 (.take 6 (.one 7 .nil))))) (.two 1 4 (.one 4 (.one 5 (.take 6 (.one 7 .nil)))) (.one 1 (.one 5 (.take 6 (.one 7 .nil))))))))
    (by kernel_rfl) (by kernel_rfl) (by kernel_rfl) (by decide) (by intro c a d v w h; cases d <;> exact h) XV.out.bp ?_
  repeat ((with_reducible show wpTree _ _ _ _ (.take _ _) _ _); (first | (refine wpTree_on (v := ?_) rfl rfl (wanted_free rfl) (fun w' hS => ?_) ?_; rotate_left; (focus (go_simp; (try with_reducible rfl); done)); try simp only [List.setIfInBounds_toArray, List.set_cons_zero, List.set_cons_succ]) | (refine wpTree_on (v := ?_) rfl rfl (wanted_yes rfl rfl rfl) (fun w' hS => ?_) ?_; rotate_left; (focus (go_simp; (try with_reducible rfl); done)); try simp only [List.setIfInBounds_toArray, List.set_cons_zero, List.set_cons_succ]) | (refine wpTree_off rfl rfl (wanted_no rfl rfl rfl) ?_; try simp only [List.setIfInBounds_toArray, List.set_cons_zero, List.set_cons_succ]) | (refine wpTree_off rfl rfl (wanted_undef rfl rfl rfl) ?_; try simp only [List.setIfInBounds_toArray, List.set_cons_zero, List.set_cons_succ])))
  clear D
  refine wpTree_both rfl (wanted_free rfl) rfl (wanted_free rfl) (fun K hK => ?_) (fun K hK => ?_)
  · have c1 : _ = some v.i := XV.out.cell 10
    go_simp
    refine hK.out _ _ XV.out.bp ?_
    clear hK K c1
    refine wpTree_do rfl (wanted_free rfl) (fun K hK => ?_); go_simp
    refine (HE.out _ XV.out.pr).mono ?_
    rintro e w2 ⟨u, rfl, ho, h2, hg2⟩
    obtain ⟨A, c, rfl⟩ := own_sl ho
    have X2 := Lib.hid (XV.out.parser h2 hg2)
    have HU := Lib.hid ho
    clear h2 hg2 ho
    refine hK.out _ _ X2.out.bp ?_
    clear hK K
    refine wpTree_do rfl (wanted_free rfl) (fun K hK => ?_); go_simp
    refine hK.out _ _ (X2.out.bp.alloc _) ?_
    clear hK K
    have hbd : Below w2.heap.size w2 (w2.alloc (.cells #[.int .i64 fn, .slice A es.length c] 63)) := (Below.refl _ _).alloc (Nat.le_refl _) _
    have X3 := X2.out.ext hbd
    have hB3 : Blk (w2.alloc (.cells #[.int .i64 fn, .slice A es.length c] 63)) w2.heap.size 63 #[.int .i64 fn, .slice A es.length c] := Blk.new w2 _ _
    have hb0 := Nat.le_trans X2.out.fr.size hbd.size
    have HU3 := Lib.hid (HU.out.ext hbd)
    generalize hw3 : (w2.alloc (.cells #[.int .i64 fn, .slice A es.length c] 63)) = w3 at *
    clear hw3
    obtain ⟨hs, oR, o2, o3⟩ := X3.own.i
    simp only at oR o2 o3
    refine wpTree_do rfl (wanted_free rfl) (fun K hK => ?_)
    refine wp_append_own _ (.tmp 3) (.tmp 6) 32 rfl w0.heap.size 63 i0i _ 2 32 Tryz.underlying32 hii hy0i hy1i hy2i rfl (by decide) _ _ _ rfl (own_up oR LO.out.i) ⟨w2.heap.size, 0, none⟩ 1 1 [.int .i64 fn, .slice A es.length c] rfl rfl (Row.of_blk hB3 (Nat.zero_le _) 1 1 (Nat.le_refl _)).src (by intro u hu; simp at hu; rcases hu with rfl | rfl <;> rfl) (by unfold maxLen; omega) (by omega) hb0 ?_
    intro v' wc hown hgrow _
    obtain ⟨A4, c4, rfl⟩ := own_sl hown
    have hbp := X3.bp.grown hgrow (lx.own_ne (own_up oR LO.out.i) X3.bp (by decide))
    have hbx := X3.bx.grown hgrow (lx.own_ne (own_up oR LO.out.i) X3.bx (by decide))
    refine hK.out _ _ hbp ?_
    clear hK K
    repeat ((with_reducible show wpTree _ _ _ _ (.take _ _) _ _); (first | (refine wpTree_on (v := ?_) rfl rfl (wanted_free rfl) (fun w' hS => ?_) ?_; rotate_left; (focus (go_simp; (try with_reducible rfl); done))) | (refine wpTree_on (v := ?_) rfl rfl (wanted_yes rfl rfl rfl) (fun w' hS => ?_) ?_; rotate_left; (focus (go_simp; (try with_reducible rfl); done))) | (refine wpTree_off rfl rfl (wanted_no rfl rfl rfl) ?_) | (refine wpTree_off rfl rfl (wanted_undef rfl rfl rfl) ?_)))
    have q3 : _ = some v.i := hbx.cell 10
    have f3 := hbx.frozen 10
    refine wpTree_do rfl (wanted_free rfl) (fun K hK => ?_); go_simp
    clear q3 f3
    refine hK.out _ _ (hbp.far (p := ⟨xb, 10, none⟩) (Ne.symm X3.xp) _) (wpTree_end ?_)
    clear hK K
    have hfin := Lib.hid (X3.appI LO.out oR o2 o3 HU3.out hown hgrow)
    first | go_end0 | refine bodyPost_ret (results_none rfl _ _ _) rfl ?_
    exact ⟨rfl, by simp, _, hfin.out.1, hfin.out.2⟩
  · go_simp
    refine (HE.out _ XV.out.pr).mono ?_
    rintro e w2 ⟨u, rfl, ho, h2, hg2⟩
    obtain ⟨A, c, rfl⟩ := own_sl ho
    have X2 := Lib.hid (XV.out.parser h2 hg2)
    have HU := Lib.hid ho
    clear h2 hg2 ho
    refine hK.out _ _ X2.out.bp ?_
    clear hK K
    refine wpTree_both rfl (wanted_free rfl) rfl (wanted_free rfl) (fun K hK => ?_) (fun K hK => ?_)
    · have c1 : _ = some v.i := X2.out.cell 10
      go_simp
      refine hK.out _ _ X2.out.bp ?_
      clear hK K c1
      refine wpTree_do rfl (wanted_free rfl) (fun K hK => ?_); go_simp
      refine hK.out _ _ (X2.out.bp.alloc _) ?_
      clear hK K
      have hbd : Below w2.heap.size w2 (w2.alloc (.cells #[.int .i64 fn, .slice A es.length c] 63)) := (Below.refl _ _).alloc (Nat.le_refl _) _
      have X3 := X2.out.ext hbd
      have hB3 : Blk (w2.alloc (.cells #[.int .i64 fn, .slice A es.length c] 63)) w2.heap.size 63 #[.int .i64 fn, .slice A es.length c] := Blk.new w2 _ _
      have hb0 := Nat.le_trans X2.out.fr.size hbd.size
      have HU3 := Lib.hid (HU.out.ext hbd)
      generalize hw3 : (w2.alloc (.cells #[.int .i64 fn, .slice A es.length c] 63)) = w3 at *
      clear hw3
      obtain ⟨hs, oR, o2, o3⟩ := X3.own.i
      simp only at oR o2 o3
      refine wpTree_do rfl (wanted_free rfl) (fun K hK => ?_)
      refine wp_append_own _ (.tmp 3) (.tmp 6) 32 rfl w0.heap.size 63 i0i _ 2 32 Tryz.underlying32 hii hy0i hy1i hy2i rfl (by decide) _ _ _ rfl (own_up oR LO.out.i) ⟨w2.heap.size, 0, none⟩ 1 1 [.int .i64 fn, .slice A es.length c] rfl rfl (Row.of_blk hB3 (Nat.zero_le _) 1 1 (Nat.le_refl _)).src (by intro u hu; simp at hu; rcases hu with rfl | rfl <;> rfl) (by unfold maxLen; omega) (by omega) hb0 ?_
      intro v' wc hown hgrow _
      obtain ⟨A4, c4, rfl⟩ := own_sl hown
      have hbp := X3.bp.grown hgrow (lx.own_ne (own_up oR LO.out.i) X3.bp (by decide))
      have hbx := X3.bx.grown hgrow (lx.own_ne (own_up oR LO.out.i) X3.bx (by decide))
      refine hK.out _ _ hbp ?_
      clear hK K
      repeat ((with_reducible show wpTree _ _ _ _ (.take _ _) _ _); (first | (refine wpTree_on (v := ?_) rfl rfl (wanted_free rfl) (fun w' hS => ?_) ?_; rotate_left; (focus (go_simp; (try with_reducible rfl); done))) | (refine wpTree_on (v := ?_) rfl rfl (wanted_yes rfl rfl rfl) (fun w' hS => ?_) ?_; rotate_left; (focus (go_simp; (try with_reducible rfl); done))) | (refine wpTree_off rfl rfl (wanted_no rfl rfl rfl) ?_) | (refine wpTree_off rfl rfl (wanted_undef rfl rfl rfl) ?_)))
      have q3 : _ = some v.i := hbx.cell 10
      have f3 := hbx.frozen 10
      refine wpTree_do rfl (wanted_free rfl) (fun K hK => ?_); go_simp
      clear q3 f3
      refine hK.out _ _ (hbp.far (p := ⟨xb, 10, none⟩) (Ne.symm X3.xp) _) (wpTree_end ?_)
      clear hK K
      have hfin := Lib.hid (X3.appI LO.out oR o2 o3 HU3.out hown hgrow)
      first | go_end0 | refine bodyPost_ret (results_none rfl _ _ _) rfl ?_
      exact ⟨rfl, by simp, _, hfin.out.1, hfin.out.2⟩
    · go_simp
      refine hK.out _ _ (X2.out.bp.alloc _) ?_
      clear hK K
      have c1 : _ = some v.i := (X2.out.ext ((Below.refl _ _).alloc (Nat.le_refl _) (.cells #[.int .i64 fn, .slice A es.length c] 63))).cell 10
      refine wpTree_do rfl (wanted_free rfl) (fun K hK => ?_); go_simp
      refine hK.out _ _ (X2.out.bp.alloc _) ?_
      clear hK K c1
      have hbd : Below w2.heap.size w2 (w2.alloc (.cells #[.int .i64 fn, .slice A es.length c] 63)) := (Below.refl _ _).alloc (Nat.le_refl _) _
      have X3 := X2.out.ext hbd
      have hB3 : Blk (w2.alloc (.cells #[.int .i64 fn, .slice A es.length c] 63)) w2.heap.size 63 #[.int .i64 fn, .slice A es.length c] := Blk.new w2 _ _
      have hb0 := Nat.le_trans X2.out.fr.size hbd.size
      have HU3 := Lib.hid (HU.out.ext hbd)
      generalize hw3 : (w2.alloc (.cells #[.int .i64 fn, .slice A es.length c] 63)) = w3 at *
      clear hw3
      obtain ⟨hs, oR, o2, o3⟩ := X3.own.i
      simp only at oR o2 o3
      refine wpTree_do rfl (wanted_free rfl) (fun K hK => ?_)
      refine wp_append_own _ (.tmp 3) (.tmp 6) 32 rfl w0.heap.size 63 i0i _ 2 32 Tryz.underlying32 hii hy0i hy1i hy2i rfl (by decide) _ _ _ rfl (own_up oR LO.out.i) ⟨w2.heap.size, 0, none⟩ 1 1 [.int .i64 fn, .slice A es.length c] rfl rfl (Row.of_blk hB3 (Nat.zero_le _) 1 1 (Nat.le_refl _)).src (by intro u hu; simp at hu; rcases hu with rfl | rfl <;> rfl) (by unfold maxLen; omega) (by omega) hb0 ?_
      intro v' wc hown hgrow _
      obtain ⟨A4, c4, rfl⟩ := own_sl hown
      have hbp := X3.bp.grown hgrow (lx.own_ne (own_up oR LO.out.i) X3.bp (by decide))
      have hbx := X3.bx.grown hgrow (lx.own_ne (own_up oR LO.out.i) X3.bx (by decide))
      refine hK.out _ _ hbp ?_
      clear hK K
      repeat ((with_reducible show wpTree _ _ _ _ (.take _ _) _ _); (first | (refine wpTree_on (v := ?_) rfl rfl (wanted_free rfl) (fun w' hS => ?_) ?_; rotate_left; (focus (go_simp; (try with_reducible rfl); done))) | (refine wpTree_on (v := ?_) rfl rfl (wanted_yes rfl rfl rfl) (fun w' hS => ?_) ?_; rotate_left; (focus (go_simp; (try with_reducible rfl); done))) | (refine wpTree_off rfl rfl (wanted_no rfl rfl rfl) ?_) | (refine wpTree_off rfl rfl (wanted_undef rfl rfl rfl) ?_)))
      have q3 : _ = some v.i := hbx.cell 10
      have f3 := hbx.frozen 10
      refine wpTree_do rfl (wanted_free rfl) (fun K hK => ?_); go_simp
      clear q3 f3
      refine hK.out _ _ (hbp.far (p := ⟨xb, 10, none⟩) (Ne.symm X3.xp) _) (wpTree_end ?_)
      clear hK K
      have hfin := Lib.hid (X3.appI LO.out oR o2 o3 HU3.out hown hgrow)
      first | go_end0 | refine bodyPost_ret (results_none rfl _ _ _) rfl ?_
      exact ⟨rfl, by simp, _, hfin.out.1, hfin.out.2⟩
end Go.Proofs.YtfnceamkephpjaaGreat.pg
