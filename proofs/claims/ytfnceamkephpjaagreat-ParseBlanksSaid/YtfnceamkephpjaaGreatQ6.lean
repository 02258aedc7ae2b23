/- Statements: update's closure. Printed by genq6.py. -/
import Derived.Test.YtfnceamkephpjaaGreatQ5
namespace Go.Proofs.YtfnceamkephpjaaGreat.pg
open Go.ChangeShapes Go.WideShapes Go.ChangeAt Go.RowKit Go.Proofs.YtfnceamkephpjaaGreat.lib Go.Proofs.YtfnceamkephpjaaGreat.lx
set_option linter.unusedVariables false

/-- update's row on its way -/
def IxU (w0 : World) (g b pb xb rb : Nat) (W : List Wd) (st : St) (n : Nat) (s : List (List UInt8) × List (List Nd)) (p : Pp) (w : World) : Prop := s.1.length = n ∧ s.2.length = n ∧ ∃ v, Sx w0 w g b pb xb rb W p { st with names := s.1, exprs := s.2 } v ∧ Lo w0.heap.size v
set_option maxRecDepth 1000000 in
set_option maxHeartbeats 4000000 in
theorem upd1_ (w0 : World) (g b pb xb rb : Nat) (W : List Wd) (st : St) (n : Nat) (s : List (List UInt8) × List (List Nd)) (p : Pp) (w : World) (hn : n ≤ 6) (hx : IxU w0 g b pb xb rb W st n s p w) :
    Calls Tryz.prog 52 #[.pointer (some ⟨xb, 0, none⟩), .pointer (some ⟨pb, 0, none⟩)] w fun e w' => e = .returned (.tuple #[]) ∧ IxU w0 g b pb xb rb W st (n + 1) (updDo W s p).1 (updDo W s p).2 w' := by
  obtain ⟨i0e, hie, hy0e, hy1e, hy2e⟩ := info_parts (P := Tryz.prog) (e := 30) (z := .slice none 0 0) (size := 1) (bytes := 24) (by kernel_rfl)
  obtain ⟨i0n, hin, hy0n, hy1n, hy2n⟩ := info_parts (P := Tryz.prog) (e := 9) (z := .string ⟨#[]⟩) (size := 1) (bytes := 16) (by kernel_rfl)
  obtain ⟨s1, s2⟩ := s
  obtain ⟨hs1, hs2, v, x, lo⟩ := hx
  simp only at hs1 hs2 x
  subst hs2
  have HL := Lib.hid hs1
  have hl1 : s1.length ≤ 6 := by omega
  have X := Lib.hid x
  have LO := Lib.hid lo
  have HN := Lib.hid (fun w' (y : Pr w' g W b p) => pname_ y)
  replace HN := HN.out
  have hr := (show updDo W (s1, s2) p = match nameP W p with | (n, q) => match exprP W (mustP W [61] q) with
    | (e, r) => ((s1 ++ [n], s2 ++ [e]), r) from rfl)
  obtain ⟨⟨nm, q⟩, hq⟩ : ∃ X, nameP W p = X := ⟨_, rfl⟩
  rw [hq] at HN hr
  simp only at HN hr
  have HE := Lib.hid (fun w' (y : Pr w' g W b (mustP W [61] q)) => expr_ y)
  replace HE := HE.out
  obtain ⟨⟨es, r⟩, hq2⟩ : ∃ X, exprP W (mustP W [61] q) = X := ⟨_, rfl⟩
  rw [hq2] at HE hr
  simp only at HE hr
  rw [hr]
  replace HN := Lib.hid HN
  replace HE := Lib.hid HE
  clear x lo hr hq hq2 hs1
  go_enter Tryz.func52, Tryz.ntmps52
  go_upto_region 0 with fail
  go_cut [8] from 2 to 8 (fun _ wx => ∃ v, Sx w0 wx g b pb xb rb W q { st with names := s1 ++ [nm], exprs := s2 } v ∧ Lo w0.heap.size v)
  case first =>
    have XV := Lib.hid (X.out.ext (Below.drew (Below.refl _ _)))
    have D := fun w' (h : Blk w' pb 50 #[.pointer (some ⟨g, 0, none⟩)]) => h.cell 0
    refine wp_region_tree (S := fun w' => Blk w' pb 50 #[.pointer (some ⟨g, 0, none⟩)]) (.take 0 (.take 2 (.two 1 3 (.one 3 (.one 4 (.one 5 (.take 6 (.one 7 .nil))))) (.two 1 4 (.one 4 (.one 5 (.take 6 (.one 7 .nil)))) (.one 1 (.one 5 (.take 6 (.one 7 .nil))))))))
      (by kernel_rfl) (by kernel_rfl) (by kernel_rfl) (by decide) (by intro c a d v w h; cases d <;> exact h) XV.out.bp ?_
    repeat ((with_reducible show wpTree _ _ _ _ (.take _ _) _ _); (first | (refine wpTree_on (v := ?_) rfl rfl (wanted_free rfl) (fun w' hS => ?_) ?_; rotate_left; (focus (go_simp; (try with_reducible rfl); done)); try simp only [List.setIfInBounds_toArray, List.set_cons_zero, List.set_cons_succ]) | (refine wpTree_on (v := ?_) rfl rfl (wanted_yes rfl rfl rfl) (fun w' hS => ?_) ?_; rotate_left; (focus (go_simp; (try with_reducible rfl); done)); try simp only [List.setIfInBounds_toArray, List.set_cons_zero, List.set_cons_succ]) | (refine wpTree_off rfl rfl (wanted_no rfl rfl rfl) ?_; try simp only [List.setIfInBounds_toArray, List.set_cons_zero, List.set_cons_succ]) | (refine wpTree_off rfl rfl (wanted_undef rfl rfl rfl) ?_; try simp only [List.setIfInBounds_toArray, List.set_cons_zero, List.set_cons_succ])))
    clear D
    refine wpTree_both rfl (wanted_free rfl) rfl (wanted_free rfl) (fun K hK => ?_) (fun K hK => ?_)
    · have c1 : _ = some v.n := XV.out.cell 8
      go_simp
      refine hK.out _ _ XV.out.bp ?_
      clear hK K c1
      refine wpTree_do rfl (wanted_free rfl) (fun K hK => ?_); go_simp
      refine (HN.out _ XV.out.pr).mono ?_
      rintro e w2 ⟨rfl, h2, hg2⟩
      have X2 := Lib.hid (XV.out.parser h2 hg2)
      have HU : True := trivial
      clear h2 hg2
      refine hK.out _ _ X2.out.bp ?_
      clear hK K
      refine wpTree_do rfl (wanted_free rfl) (fun K hK => ?_); go_simp
      refine hK.out _ _ (X2.out.bp.alloc _) ?_
      clear hK K
      have hbd : Below w2.heap.size w2 (w2.alloc (.cells #[.string ⟨nm.toArray⟩] 9)) := (Below.refl _ _).alloc (Nat.le_refl _) _
      have X3 := X2.out.ext hbd
      have hB3 : Blk (w2.alloc (.cells #[.string ⟨nm.toArray⟩] 9)) w2.heap.size 9 #[.string ⟨nm.toArray⟩] := Blk.new w2 _ _
      have hb0 := Nat.le_trans X2.out.fr.size hbd.size
      generalize hw3 : (w2.alloc (.cells #[.string ⟨nm.toArray⟩] 9)) = w3 at *
      clear hw3
      have oR := X3.own.n
      unfold NmsO at oR
      simp only at oR
      refine wpTree_do rfl (wanted_free rfl) (fun K hK => ?_)
      refine wp_append_own _ (.tmp 3) (.tmp 6) 24 rfl w0.heap.size 9 i0n _ 1 16 Tryz.underlying24 hin hy0n hy1n hy2n rfl (by decide) _ _ _ rfl (own_up oR LO.out.n) ⟨w2.heap.size, 0, none⟩ 1 1 [.string ⟨nm.toArray⟩] rfl rfl (Row.of_blk hB3 (Nat.zero_le _) 1 1 (Nat.le_refl _)).src (by intro u hu; simp at hu; rcases hu with rfl | rfl <;> rfl) (by unfold maxLen; omega) (by omega) hb0 ?_
      intro v' wc hown hgrow _
      obtain ⟨A4, c4, rfl⟩ := own_sl hown
      have hbp := X3.bp.grown hgrow (lx.own_ne (own_up oR LO.out.n) X3.bp (by decide))
      have hbx := X3.bx.grown hgrow (lx.own_ne (own_up oR LO.out.n) X3.bx (by decide))
      refine hK.out _ _ hbp ?_
      clear hK K
      repeat ((with_reducible show wpTree _ _ _ _ (.take _ _) _ _); (first | (refine wpTree_on (v := ?_) rfl rfl (wanted_free rfl) (fun w' hS => ?_) ?_; rotate_left; (focus (go_simp; (try with_reducible rfl); done))) | (refine wpTree_on (v := ?_) rfl rfl (wanted_yes rfl rfl rfl) (fun w' hS => ?_) ?_; rotate_left; (focus (go_simp; (try with_reducible rfl); done))) | (refine wpTree_off rfl rfl (wanted_no rfl rfl rfl) ?_) | (refine wpTree_off rfl rfl (wanted_undef rfl rfl rfl) ?_)))
      have q3 : _ = some v.n := hbx.cell 8
      have f3 := hbx.frozen 8
      refine wpTree_do rfl (wanted_free rfl) (fun K hK => ?_); go_simp
      clear q3 f3
      refine hK.out _ _ (hbp.far (p := ⟨xb, 8, none⟩) (Ne.symm X3.xp) _) (wpTree_end ?_)
      clear hK K
      have hfin := Lib.hid (X3.appN LO.out hown hgrow)
      go_wp2_with fail
      go_meet
      exact ⟨_, hfin.out.1, hfin.out.2⟩
    · go_simp
      refine (HN.out _ XV.out.pr).mono ?_
      rintro e w2 ⟨rfl, h2, hg2⟩
      have X2 := Lib.hid (XV.out.parser h2 hg2)
      have HU : True := trivial
      clear h2 hg2
      refine hK.out _ _ X2.out.bp ?_
      clear hK K
      refine wpTree_both rfl (wanted_free rfl) rfl (wanted_free rfl) (fun K hK => ?_) (fun K hK => ?_)
      · have c1 : _ = some v.n := X2.out.cell 8
        go_simp
        refine hK.out _ _ X2.out.bp ?_
        clear hK K c1
        refine wpTree_do rfl (wanted_free rfl) (fun K hK => ?_); go_simp
        refine hK.out _ _ (X2.out.bp.alloc _) ?_
        clear hK K
        have hbd : Below w2.heap.size w2 (w2.alloc (.cells #[.string ⟨nm.toArray⟩] 9)) := (Below.refl _ _).alloc (Nat.le_refl _) _
        have X3 := X2.out.ext hbd
        have hB3 : Blk (w2.alloc (.cells #[.string ⟨nm.toArray⟩] 9)) w2.heap.size 9 #[.string ⟨nm.toArray⟩] := Blk.new w2 _ _
        have hb0 := Nat.le_trans X2.out.fr.size hbd.size
        generalize hw3 : (w2.alloc (.cells #[.string ⟨nm.toArray⟩] 9)) = w3 at *
        clear hw3
        have oR := X3.own.n
        unfold NmsO at oR
        simp only at oR
        refine wpTree_do rfl (wanted_free rfl) (fun K hK => ?_)
        refine wp_append_own _ (.tmp 3) (.tmp 6) 24 rfl w0.heap.size 9 i0n _ 1 16 Tryz.underlying24 hin hy0n hy1n hy2n rfl (by decide) _ _ _ rfl (own_up oR LO.out.n) ⟨w2.heap.size, 0, none⟩ 1 1 [.string ⟨nm.toArray⟩] rfl rfl (Row.of_blk hB3 (Nat.zero_le _) 1 1 (Nat.le_refl _)).src (by intro u hu; simp at hu; rcases hu with rfl | rfl <;> rfl) (by unfold maxLen; omega) (by omega) hb0 ?_
        intro v' wc hown hgrow _
        obtain ⟨A4, c4, rfl⟩ := own_sl hown
        have hbp := X3.bp.grown hgrow (lx.own_ne (own_up oR LO.out.n) X3.bp (by decide))
        have hbx := X3.bx.grown hgrow (lx.own_ne (own_up oR LO.out.n) X3.bx (by decide))
        refine hK.out _ _ hbp ?_
        clear hK K
        repeat ((with_reducible show wpTree _ _ _ _ (.take _ _) _ _); (first | (refine wpTree_on (v := ?_) rfl rfl (wanted_free rfl) (fun w' hS => ?_) ?_; rotate_left; (focus (go_simp; (try with_reducible rfl); done))) | (refine wpTree_on (v := ?_) rfl rfl (wanted_yes rfl rfl rfl) (fun w' hS => ?_) ?_; rotate_left; (focus (go_simp; (try with_reducible rfl); done))) | (refine wpTree_off rfl rfl (wanted_no rfl rfl rfl) ?_) | (refine wpTree_off rfl rfl (wanted_undef rfl rfl rfl) ?_)))
        have q3 : _ = some v.n := hbx.cell 8
        have f3 := hbx.frozen 8
        refine wpTree_do rfl (wanted_free rfl) (fun K hK => ?_); go_simp
        clear q3 f3
        refine hK.out _ _ (hbp.far (p := ⟨xb, 8, none⟩) (Ne.symm X3.xp) _) (wpTree_end ?_)
        clear hK K
        have hfin := Lib.hid (X3.appN LO.out hown hgrow)
        go_wp2_with fail
        go_meet
        exact ⟨_, hfin.out.1, hfin.out.2⟩
      · go_simp
        refine hK.out _ _ (X2.out.bp.alloc _) ?_
        clear hK K
        have c1 : _ = some v.n := (X2.out.ext ((Below.refl _ _).alloc (Nat.le_refl _) (.cells #[.string ⟨nm.toArray⟩] 9))).cell 8
        refine wpTree_do rfl (wanted_free rfl) (fun K hK => ?_); go_simp
        refine hK.out _ _ (X2.out.bp.alloc _) ?_
        clear hK K c1
        have hbd : Below w2.heap.size w2 (w2.alloc (.cells #[.string ⟨nm.toArray⟩] 9)) := (Below.refl _ _).alloc (Nat.le_refl _) _
        have X3 := X2.out.ext hbd
        have hB3 : Blk (w2.alloc (.cells #[.string ⟨nm.toArray⟩] 9)) w2.heap.size 9 #[.string ⟨nm.toArray⟩] := Blk.new w2 _ _
        have hb0 := Nat.le_trans X2.out.fr.size hbd.size
        generalize hw3 : (w2.alloc (.cells #[.string ⟨nm.toArray⟩] 9)) = w3 at *
        clear hw3
        have oR := X3.own.n
        unfold NmsO at oR
        simp only at oR
        refine wpTree_do rfl (wanted_free rfl) (fun K hK => ?_)
        refine wp_append_own _ (.tmp 3) (.tmp 6) 24 rfl w0.heap.size 9 i0n _ 1 16 Tryz.underlying24 hin hy0n hy1n hy2n rfl (by decide) _ _ _ rfl (own_up oR LO.out.n) ⟨w2.heap.size, 0, none⟩ 1 1 [.string ⟨nm.toArray⟩] rfl rfl (Row.of_blk hB3 (Nat.zero_le _) 1 1 (Nat.le_refl _)).src (by intro u hu; simp at hu; rcases hu with rfl | rfl <;> rfl) (by unfold maxLen; omega) (by omega) hb0 ?_
        intro v' wc hown hgrow _
        obtain ⟨A4, c4, rfl⟩ := own_sl hown
        have hbp := X3.bp.grown hgrow (lx.own_ne (own_up oR LO.out.n) X3.bp (by decide))
        have hbx := X3.bx.grown hgrow (lx.own_ne (own_up oR LO.out.n) X3.bx (by decide))
        refine hK.out _ _ hbp ?_
        clear hK K
        repeat ((with_reducible show wpTree _ _ _ _ (.take _ _) _ _); (first | (refine wpTree_on (v := ?_) rfl rfl (wanted_free rfl) (fun w' hS => ?_) ?_; rotate_left; (focus (go_simp; (try with_reducible rfl); done))) | (refine wpTree_on (v := ?_) rfl rfl (wanted_yes rfl rfl rfl) (fun w' hS => ?_) ?_; rotate_left; (focus (go_simp; (try with_reducible rfl); done))) | (refine wpTree_off rfl rfl (wanted_no rfl rfl rfl) ?_) | (refine wpTree_off rfl rfl (wanted_undef rfl rfl rfl) ?_)))
        have q3 : _ = some v.n := hbx.cell 8
        have f3 := hbx.frozen 8
        refine wpTree_do rfl (wanted_free rfl) (fun K hK => ?_); go_simp
        clear q3 f3
        refine hK.out _ _ (hbp.far (p := ⟨xb, 8, none⟩) (Ne.symm X3.xp) _) (wpTree_end ?_)
        clear hK K
        have hfin := Lib.hid (X3.appN LO.out hown hgrow)
        go_wp2_with fail
        go_meet
        exact ⟨_, hfin.out.1, hfin.out.2⟩
  case rest =>
    clear X LO
    obtain ⟨v2, x2, lo2⟩ := hcut
    have X := Lib.hid x2
    have LO := Lib.hid lo2
    have cp := x2.pcell
    clear x2 lo2
    go_upto_region 1 with fail
    go_wp2_with fail
    obtain ⟨W1, hW_, hb1, BS⟩ : ∃ W_, W_ = (wc.alloc (.cells #[.string ⟨#[61]⟩] 9)) ∧ Below wc.heap.size wc W_ ∧ Blk W_ (wc.heap.size) 9 #[.string ⟨#[61]⟩] :=
      ⟨_, rfl, ((Below.refl _ _).alloc (Nat.le_refl _) _), (blk_new_at wc (wc.heap.size) _ _ (by simp))⟩
    rw [← hW_]
    clear hW_
    have X1 := Lib.hid (X.out.ext hb1)
    have hgl := X.out.pr.gl
    have HM := Lib.hid (pmust_ [[61]] (some ⟨wc.heap.size, 0, none⟩) 1 X1.out.pr (Row.of_blk BS (Nat.zero_le _) 1 1 (Nat.le_refl _)) (by intro b' off e; injection e with e; injection e with e _; rw [← e]; simp; omega) (by decide))
    clear hb1 BS cp hgl
    refine (HM.out).mono ?_
    rintro e w7 ⟨rfl, h7, hg7⟩
    clear X
    have X := Lib.hid (show Sx w0 w7 g b pb xb rb W (mustP W [61] q) { st with names := s1 ++ [nm], exprs := s2 } v2 from X1.out.parser h7 hg7)
    clear h7 hg7
    go_upto_region 2 with fail
    have XV := Lib.hid (X.out.ext (Below.drew (Below.refl _ _)))
    have D := fun w' (h : Blk w' pb 50 #[.pointer (some ⟨g, 0, none⟩)]) => h.cell 0
    refine wp_region_tree (S := fun w' => Blk w' pb 50 #[.pointer (some ⟨g, 0, none⟩)]) (.take 0 (.take 2 (.two 1 3 (.one 3 (.one 4 (.one 5 (.take 6 (.one 7 .nil))))) (.two 1 4 (.one 4 (.one 5 (.take 6 (.one 7 .nil)))) (.one 1 (.one 5 (.take 6 (.one 7 .nil))))))))
      (by kernel_rfl) (by kernel_rfl) (by kernel_rfl) (by decide) (by intro c a d v w h; cases d <;> exact h) XV.out.bp ?_
    repeat ((with_reducible show wpTree _ _ _ _ (.take _ _) _ _); (first | (refine wpTree_on (v := ?_) rfl rfl (wanted_free rfl) (fun w' hS => ?_) ?_; rotate_left; (focus (go_simp; (try with_reducible rfl); done)); try simp only [List.setIfInBounds_toArray, List.set_cons_zero, List.set_cons_succ]) | (refine wpTree_on (v := ?_) rfl rfl (wanted_yes rfl rfl rfl) (fun w' hS => ?_) ?_; rotate_left; (focus (go_simp; (try with_reducible rfl); done)); try simp only [List.setIfInBounds_toArray, List.set_cons_zero, List.set_cons_succ]) | (refine wpTree_off rfl rfl (wanted_no rfl rfl rfl) ?_; try simp only [List.setIfInBounds_toArray, List.set_cons_zero, List.set_cons_succ]) | (refine wpTree_off rfl rfl (wanted_undef rfl rfl rfl) ?_; try simp only [List.setIfInBounds_toArray, List.set_cons_zero, List.set_cons_succ])))
    clear D
    refine wpTree_both rfl (wanted_free rfl) rfl (wanted_free rfl) (fun K hK => ?_) (fun K hK => ?_)
    · have c1 : _ = some v2.e := XV.out.cell 9
      go_simp
      refine hK.out _ _ XV.out.bp ?_
      clear hK K c1
      refine wpTree_do rfl (wanted_free rfl) (fun K hK => ?_); go_simp
      refine (HE.out _ XV.out.pr).mono ?_
      rintro e w2 ⟨u, rfl, ho, _, h2, hg2⟩
      obtain ⟨A, c, rfl⟩ := own_sl ho
      have X2 := Lib.hid (XV.out.parser h2 hg2)
      have HU := Lib.hid (show ExO w2 (.slice A es.length c) es from lib.own_base ho (Nat.zero_le _))
      clear h2 hg2 ho
      refine hK.out _ _ X2.out.bp ?_
      clear hK K
      refine wpTree_do rfl (wanted_free rfl) (fun K hK => ?_); go_simp
      refine hK.out _ _ (X2.out.bp.alloc _) ?_
      clear hK K
      have hbd : Below w2.heap.size w2 (w2.alloc (.cells #[.slice A es.length c] 30)) := (Below.refl _ _).alloc (Nat.le_refl _) _
      have X3 := X2.out.ext hbd
      have hB3 : Blk (w2.alloc (.cells #[.slice A es.length c] 30)) w2.heap.size 30 #[.slice A es.length c] := Blk.new w2 _ _
      have hb0 := Nat.le_trans X2.out.fr.size hbd.size
      have HU3 := Lib.hid (HU.out.ext hbd)
      generalize hw3 : (w2.alloc (.cells #[.slice A es.length c] 30)) = w3 at *
      clear hw3
      obtain ⟨hs, oR, o2, o3⟩ := X3.own.e
      simp only at oR o2 o3
      refine wpTree_do rfl (wanted_free rfl) (fun K hK => ?_)
      refine wp_append_own _ (.tmp 13) (.tmp 16) 31 rfl w0.heap.size 30 i0e _ 1 24 Tryz.underlying31 hie hy0e hy1e hy2e rfl (by decide) _ _ _ rfl (own_up oR LO.out.e) ⟨w2.heap.size, 0, none⟩ 1 1 [.slice A es.length c] rfl rfl (Row.of_blk hB3 (Nat.zero_le _) 1 1 (Nat.le_refl _)).src (by intro u hu; simp at hu; rcases hu with rfl | rfl <;> rfl) (by unfold maxLen; omega) (by omega) hb0 ?_
      intro v' wc hown hgrow _
      obtain ⟨A4, c4, rfl⟩ := own_sl hown
      have hbp := X3.bp.grown hgrow (lx.own_ne (own_up oR LO.out.e) X3.bp (by decide))
      have hbx := X3.bx.grown hgrow (lx.own_ne (own_up oR LO.out.e) X3.bx (by decide))
      refine hK.out _ _ hbp ?_
      clear hK K
      repeat ((with_reducible show wpTree _ _ _ _ (.take _ _) _ _); (first | (refine wpTree_on (v := ?_) rfl rfl (wanted_free rfl) (fun w' hS => ?_) ?_; rotate_left; (focus (go_simp; (try with_reducible rfl); done))) | (refine wpTree_on (v := ?_) rfl rfl (wanted_yes rfl rfl rfl) (fun w' hS => ?_) ?_; rotate_left; (focus (go_simp; (try with_reducible rfl); done))) | (refine wpTree_off rfl rfl (wanted_no rfl rfl rfl) ?_) | (refine wpTree_off rfl rfl (wanted_undef rfl rfl rfl) ?_)))
      have q3 : _ = some v2.e := hbx.cell 9
      have f3 := hbx.frozen 9
      refine wpTree_do rfl (wanted_free rfl) (fun K hK => ?_); go_simp
      clear q3 f3
      refine hK.out _ _ (hbp.far (p := ⟨xb, 9, none⟩) (Ne.symm X3.xp) _) (wpTree_end ?_)
      clear hK K
      have hfin := Lib.hid (X3.appE LO.out oR o2 o3 HU3.out hown hgrow)
      first | go_end0 | refine bodyPost_ret (results_none rfl _ _ _) rfl ?_
      exact ⟨rfl, by simp [HL.out], by simp, _, hfin.out.1, hfin.out.2⟩
    · go_simp
      refine (HE.out _ XV.out.pr).mono ?_
      rintro e w2 ⟨u, rfl, ho, _, h2, hg2⟩
      obtain ⟨A, c, rfl⟩ := own_sl ho
      have X2 := Lib.hid (XV.out.parser h2 hg2)
      have HU := Lib.hid (show ExO w2 (.slice A es.length c) es from lib.own_base ho (Nat.zero_le _))
      clear h2 hg2 ho
      refine hK.out _ _ X2.out.bp ?_
      clear hK K
      refine wpTree_both rfl (wanted_free rfl) rfl (wanted_free rfl) (fun K hK => ?_) (fun K hK => ?_)
      · have c1 : _ = some v2.e := X2.out.cell 9
        go_simp
        refine hK.out _ _ X2.out.bp ?_
        clear hK K c1
        refine wpTree_do rfl (wanted_free rfl) (fun K hK => ?_); go_simp
        refine hK.out _ _ (X2.out.bp.alloc _) ?_
        clear hK K
        have hbd : Below w2.heap.size w2 (w2.alloc (.cells #[.slice A es.length c] 30)) := (Below.refl _ _).alloc (Nat.le_refl _) _
        have X3 := X2.out.ext hbd
        have hB3 : Blk (w2.alloc (.cells #[.slice A es.length c] 30)) w2.heap.size 30 #[.slice A es.length c] := Blk.new w2 _ _
        have hb0 := Nat.le_trans X2.out.fr.size hbd.size
        have HU3 := Lib.hid (HU.out.ext hbd)
        generalize hw3 : (w2.alloc (.cells #[.slice A es.length c] 30)) = w3 at *
        clear hw3
        obtain ⟨hs, oR, o2, o3⟩ := X3.own.e
        simp only at oR o2 o3
        refine wpTree_do rfl (wanted_free rfl) (fun K hK => ?_)
        refine wp_append_own _ (.tmp 13) (.tmp 16) 31 rfl w0.heap.size 30 i0e _ 1 24 Tryz.underlying31 hie hy0e hy1e hy2e rfl (by decide) _ _ _ rfl (own_up oR LO.out.e) ⟨w2.heap.size, 0, none⟩ 1 1 [.slice A es.length c] rfl rfl (Row.of_blk hB3 (Nat.zero_le _) 1 1 (Nat.le_refl _)).src (by intro u hu; simp at hu; rcases hu with rfl | rfl <;> rfl) (by unfold maxLen; omega) (by omega) hb0 ?_
        intro v' wc hown hgrow _
        obtain ⟨A4, c4, rfl⟩ := own_sl hown
        have hbp := X3.bp.grown hgrow (lx.own_ne (own_up oR LO.out.e) X3.bp (by decide))
        have hbx := X3.bx.grown hgrow (lx.own_ne (own_up oR LO.out.e) X3.bx (by decide))
        refine hK.out _ _ hbp ?_
        clear hK K
        repeat ((with_reducible show wpTree _ _ _ _ (.take _ _) _ _); (first | (refine wpTree_on (v := ?_) rfl rfl (wanted_free rfl) (fun w' hS => ?_) ?_; rotate_left; (focus (go_simp; (try with_reducible rfl); done))) | (refine wpTree_on (v := ?_) rfl rfl (wanted_yes rfl rfl rfl) (fun w' hS => ?_) ?_; rotate_left; (focus (go_simp; (try with_reducible rfl); done))) | (refine wpTree_off rfl rfl (wanted_no rfl rfl rfl) ?_) | (refine wpTree_off rfl rfl (wanted_undef rfl rfl rfl) ?_)))
        have q3 : _ = some v2.e := hbx.cell 9
        have f3 := hbx.frozen 9
        refine wpTree_do rfl (wanted_free rfl) (fun K hK => ?_); go_simp
        clear q3 f3
        refine hK.out _ _ (hbp.far (p := ⟨xb, 9, none⟩) (Ne.symm X3.xp) _) (wpTree_end ?_)
        clear hK K
        have hfin := Lib.hid (X3.appE LO.out oR o2 o3 HU3.out hown hgrow)
        first | go_end0 | refine bodyPost_ret (results_none rfl _ _ _) rfl ?_
        exact ⟨rfl, by simp [HL.out], by simp, _, hfin.out.1, hfin.out.2⟩
      · go_simp
        refine hK.out _ _ (X2.out.bp.alloc _) ?_
        clear hK K
        have c1 : _ = some v2.e := (X2.out.ext ((Below.refl _ _).alloc (Nat.le_refl _) (.cells #[.slice A es.length c] 30))).cell 9
        refine wpTree_do rfl (wanted_free rfl) (fun K hK => ?_); go_simp
        refine hK.out _ _ (X2.out.bp.alloc _) ?_
        clear hK K c1
        have hbd : Below w2.heap.size w2 (w2.alloc (.cells #[.slice A es.length c] 30)) := (Below.refl _ _).alloc (Nat.le_refl _) _
        have X3 := X2.out.ext hbd
        have hB3 : Blk (w2.alloc (.cells #[.slice A es.length c] 30)) w2.heap.size 30 #[.slice A es.length c] := Blk.new w2 _ _
        have hb0 := Nat.le_trans X2.out.fr.size hbd.size
        have HU3 := Lib.hid (HU.out.ext hbd)
        generalize hw3 : (w2.alloc (.cells #[.slice A es.length c] 30)) = w3 at *
        clear hw3
        obtain ⟨hs, oR, o2, o3⟩ := X3.own.e
        simp only at oR o2 o3
        refine wpTree_do rfl (wanted_free rfl) (fun K hK => ?_)
        refine wp_append_own _ (.tmp 13) (.tmp 16) 31 rfl w0.heap.size 30 i0e _ 1 24 Tryz.underlying31 hie hy0e hy1e hy2e rfl (by decide) _ _ _ rfl (own_up oR LO.out.e) ⟨w2.heap.size, 0, none⟩ 1 1 [.slice A es.length c] rfl rfl (Row.of_blk hB3 (Nat.zero_le _) 1 1 (Nat.le_refl _)).src (by intro u hu; simp at hu; rcases hu with rfl | rfl <;> rfl) (by unfold maxLen; omega) (by omega) hb0 ?_
        intro v' wc hown hgrow _
        obtain ⟨A4, c4, rfl⟩ := own_sl hown
        have hbp := X3.bp.grown hgrow (lx.own_ne (own_up oR LO.out.e) X3.bp (by decide))
        have hbx := X3.bx.grown hgrow (lx.own_ne (own_up oR LO.out.e) X3.bx (by decide))
        refine hK.out _ _ hbp ?_
        clear hK K
        repeat ((with_reducible show wpTree _ _ _ _ (.take _ _) _ _); (first | (refine wpTree_on (v := ?_) rfl rfl (wanted_free rfl) (fun w' hS => ?_) ?_; rotate_left; (focus (go_simp; (try with_reducible rfl); done))) | (refine wpTree_on (v := ?_) rfl rfl (wanted_yes rfl rfl rfl) (fun w' hS => ?_) ?_; rotate_left; (focus (go_simp; (try with_reducible rfl); done))) | (refine wpTree_off rfl rfl (wanted_no rfl rfl rfl) ?_) | (refine wpTree_off rfl rfl (wanted_undef rfl rfl rfl) ?_)))
        have q3 : _ = some v2.e := hbx.cell 9
        have f3 := hbx.frozen 9
        refine wpTree_do rfl (wanted_free rfl) (fun K hK => ?_); go_simp
        clear q3 f3
        refine hK.out _ _ (hbp.far (p := ⟨xb, 9, none⟩) (Ne.symm X3.xp) _) (wpTree_end ?_)
        clear hK K
        have hfin := Lib.hid (X3.appE LO.out oR o2 o3 HU3.out hown hgrow)
        first | go_end0 | refine bodyPost_ret (results_none rfl _ _ _) rfl ?_
        exact ⟨rfl, by simp [HL.out], by simp, _, hfin.out.1, hfin.out.2⟩
end Go.Proofs.YtfnceamkephpjaaGreat.pg
