/- Statements: where, col. Printed by genq3.py. -/
import Derived.Test.YtfnceamkephpjaaGreatQ2
namespace Go.Proofs.YtfnceamkephpjaaGreat.pg
open Go.ChangeShapes Go.WideShapes Go.ChangeAt Go.RowKit Go.Proofs.YtfnceamkephpjaaGreat.lib Go.Proofs.YtfnceamkephpjaaGreat.lx
set_option linter.unusedVariables false

theorem pr_glt {w : World} {g : Nat} {W : List Wd} {b : Nat} {p : Pp} (h : Pr w g W b p) : g < w.heap.size := h.gl
set_option maxRecDepth 100000 in
theorem where_ {w : World} {g : Nat} {W : List Wd} {b : Nat} {p : Pp} (h : Pr w g W b p) :
    Calls Tryz.prog 53 #[.pointer (some ⟨g, 0, none⟩)] w fun e w' => ∃ v, e = .returned v ∧ ExO w' v (whereP W p).1 ∧ Pr w' g W b (whereP W p).2 ∧ w.grownBy w' (some g) := by
  have HI := Lib.hid (pis_ [119, 104, 101, 114, 101] h)
  replace HI := HI.out
  unfold isP at HI
  have hr := (show whereP W p = if okIs W [119, 104, 101, 114, 101] p = true then exprP W (stepP p) else ([], p) from rfl)
  obtain ⟨R, hR⟩ : ∃ R, whereP W p = R := ⟨_, rfl⟩
  rw [hR] at hr ⊢
  obtain ⟨ok, hok⟩ : ∃ ok, okIs W [119, 104, 101, 114, 101] p = ok := ⟨_, rfl⟩
  rw [hok] at HI hr
  replace HI := Lib.hid HI
  have HR := Lib.hid hr
  clear hr hR hok h
  go_enter Tryz.func53, Tryz.ntmps53
  go_wp2_with fail
  refine (HI.out).mono ?_
  rintro e w2 ⟨rfl, h2, hg2⟩
  have HG2 := Lib.hid hg2
  clear hg2
  cases ok with
  | false =>
    obtain rfl : R = ([], p) := by rw [HR.out, if_neg (by simp)]
    have H2 := Lib.hid (show Pr w2 g W b p from h2)
    clear h2
    go_wp2
    go_ret
    exact ⟨_, rfl, exo_nil _, H2.out, HG2.out⟩
  | true =>
    have hr := HR.out
    rw [if_pos rfl] at hr
    have HE := Lib.hid (expr_ (show Pr w2 g W b (stepP p) from h2))
    replace HE := HE.out
    rw [← hr] at HE
    replace HE := Lib.hid HE
    clear h2 hr
    go_wp2_with fail
    refine (HE.out).mono ?_
    rintro e w3 ⟨v, rfl, ho, _, h3, hg3⟩
    have H3 := Lib.hid (And.intro h3 (And.intro (HG2.out.trans hg3) (lib.own_base ho (Nat.zero_le _))))
    clear ho h3 hg3
    go_wp2
    go_ret
    exact ⟨_, rfl, H3.out.2.2, H3.out.1, H3.out.2.1⟩
set_option maxRecDepth 100000 in
set_option maxHeartbeats 4000000 in
theorem col_ {w : World} {g : Nat} {W : List Wd} {b : Nat} {p : Pp} (h : Pr w g W b p) :
    Calls Tryz.prog 47 #[.pointer (some ⟨g, 0, none⟩)] w fun e w' => e = .returned (.agg #[.string ⟨(cdefP W p).1.nm.toArray⟩, .int .i64 (cdefP W p).1.k, .bool (cdefP W p).1.nul]) ∧ Pr w' g W b (cdefP W p).2 ∧ w.grownBy w' (some g) := by
  have H := Lib.hid h
  have hgl := h.gl
  have hbl := h.bl
  have hr := (show cdefP W p = match nameP W p with
    | (s, p1) => match kindP W p1 with
      | (k, p2) => (⟨s, k, okIs W [110, 117, 108, 108] p2⟩, isP W [110, 117, 108, 108] p2) from rfl)
  obtain ⟨R, hR⟩ : ∃ R, cdefP W p = R := ⟨_, rfl⟩
  rw [hR] at hr ⊢
  have HN := Lib.hid (fun w' (x : Pr w' g W b p) => pname_ x)
  obtain ⟨⟨s, p1⟩, hs⟩ : ∃ X, nameP W p = X := ⟨_, rfl⟩
  replace HN := HN.out
  rw [hs] at hr HN
  simp only at hr HN
  replace HN := Lib.hid HN
  have hk := (show kindP W p1 = if okIs W [98, 111, 111, 108] p1 = true then (1, stepP p1) else if okIs W [105, 110, 116] p1 = true then (2, stepP p1) else if okIs W [116, 101, 120, 116] p1 = true then (3, stepP p1) else (0, failP 6 p1) from rfl)
  obtain ⟨⟨k, p2⟩, hkp⟩ : ∃ X, kindP W p1 = X := ⟨_, rfl⟩
  rw [hkp] at hr hk
  simp only at hr
  have HR := Lib.hid hr
  have HK := Lib.hid hk
  clear hR hr hs hk hkp h
  go_enter Tryz.func47, Tryz.ntmps47
  go_upto_region 1 with fail
  obtain ⟨W1, hW_, hb1, BR⟩ : ∃ W_, W_ = (w.alloc (.cells #[.string ⟨#[]⟩, .int .i64 0, .bool false] 85)) ∧ Below w.heap.size w W_ ∧ Blk W_ (w.heap.size) 85 #[.string ⟨#[]⟩, .int .i64 0, .bool false] :=
    ⟨_, rfl, ((Below.refl _ _).alloc (Nat.le_refl _) _), (blk_new_at w (w.heap.size) _ _ (by simp))⟩
  rw [← hW_]
  clear hW_
  have hwr : w.heap.size ≤ w.heap.size := Nat.le_refl _
  obtain ⟨br, hbr⟩ : ∃ br, w.heap.size = br := ⟨_, rfl⟩
  have HP1 := Lib.hid (H.out.ext hb1)
  have HG1 := Lib.hid (grown_of hb1 (some g))
  have hbrl := BR.lt
  rw [hbr] at BR hbrl ⊢
  have hwr : w.heap.size ≤ br := by omega
  have HBR1 := Lib.hid BR
  have hgr : g < br := by omega
  have hbb : b < br := by omega
  clear hb1 BR hbr hgl hbl H
  go_wp2_with fail
  refine (HN.out W1 HP1.out).mono ?_
  rintro e w2 ⟨rfl, h2, hg2⟩
  have HBR2 := Lib.hid (HBR1.out.grown hg2 (by simp; omega))
  have HG2 := Lib.hid (HG1.out.trans hg2)
  have hl2 := hg2.size
  have HP2 := Lib.hid h2
  clear h2 hg2
  go_upto_block 1 with fail
  obtain ⟨W3, hW_, hb3, BC⟩ : ∃ W_, W_ = (w2.alloc (.cells #[.string ⟨s.toArray⟩, .int .i64 0, .bool false] 85)) ∧ Below w2.heap.size w2 W_ ∧ Blk W_ (w2.heap.size) 85 #[.string ⟨s.toArray⟩, .int .i64 0, .bool false] :=
    ⟨_, rfl, ((Below.refl _ _).alloc (Nat.le_refl _) _), (blk_new_at w2 (w2.heap.size) _ _ (by simp))⟩
  rw [← hW_]
  clear hW_
  obtain ⟨bc, hbc⟩ : ∃ bc, w2.heap.size = bc := ⟨_, rfl⟩
  have HP3 := Lib.hid (HP2.out.ext hb3)
  have HBR3 := Lib.hid (HBR2.out.ext hb3)
  have HG3 := Lib.hid (HG2.out.trans (grown_of hb3 _))
  rw [hbc] at BC hl2 ⊢
  have HBC3 := Lib.hid BC
  have hrc : br < bc := by omega
  have hwc : w.heap.size ≤ bc := by omega
  clear hb3 BC hbc hl2 hbrl HBR2 HP2
  generalize W3 = w3 at *
  have HI3 := Lib.hid (pis_ [98, 111, 111, 108] HP3.out)
  replace HI3 := HI3.out
  unfold isP at HI3
  obtain ⟨ok3, hok3⟩ : ∃ ok, okIs W [98, 111, 111, 108] p1 = ok := ⟨_, rfl⟩
  replace HK := HK.out
  rw [hok3] at HI3 HK
  replace HI3 := Lib.hid HI3
  replace HK := Lib.hid HK
  clear hok3
  go_wp2_with fail
  refine (HI3.out).mono ?_
  rintro e w4 ⟨rfl, h4, hg4⟩
  have HG4 := Lib.hid (HG3.out.trans hg4)
  have HBC4 := Lib.hid (HBC3.out.grown hg4 (by simp; omega))
  have HBR4 := Lib.hid (HBR3.out.grown hg4 (by simp; omega))
  clear hg4
  cases ok3 with
  | true =>
    have HP4 := Lib.hid (show Pr w4 g W b (stepP p1) from h4)
    obtain ⟨rfl, rfl⟩ : k = 1 ∧ p2 = stepP p1 := by have := HK.out; rw [if_pos rfl] at this; injection this with a b; exact ⟨a, b⟩
    have qc := HBC4.out.three (Below.refl _ _)
    have fc := HBC4.out.frozen 1
    have HB2 : Blk (w4.setCell ⟨bc, 1, none⟩ (.int .i64 1)) bc 85 #[.string ⟨s.toArray⟩, .int .i64 1, .bool false] := by simpa using HBC4.out.set_ 1 (.int .i64 1)
    have hg2 := grown_set w4 ⟨bc, 1, none⟩ (.int .i64 1)
    have HBC8 := Lib.hid HB2
    have HBR8 := Lib.hid (HBR4.out.grown hg2 (by simp; omega))
    have HP8 := Lib.hid (HP4.out.grown hg2 (by simp; omega) (by simp; omega))
    have HG8 := Lib.hid (grown_new HG4.out hg2 hwc)
    clear HB2 hg2 h4
    go_upto_block 1 with fail
    clear qc fc
    generalize w4.setCell ⟨bc, 1, none⟩ (.int .i64 1) = w8 at *
    have HI8 := Lib.hid (pis_ [110, 117, 108, 108] HP8.out)
    replace HI8 := HI8.out
    obtain ⟨nl, hnl⟩ : ∃ x, okIs W [110, 117, 108, 108] (stepP p1) = x := ⟨_, rfl⟩
    obtain ⟨p3, hp3⟩ : ∃ x, isP W [110, 117, 108, 108] (stepP p1) = x := ⟨_, rfl⟩
    rw [hnl, hp3] at HI8
    replace HI8 := Lib.hid HI8
    have HRR := Lib.hid (show R = (⟨s, 1, nl⟩, p3) by rw [HR.out, hnl, hp3])
    clear hnl hp3
    go_wp2_with fail
    refine (HI8.out).mono ?_
    rintro e w9 ⟨rfl, h9, hg9⟩
    have HBC9 := Lib.hid (HBC8.out.grown hg9 (by simp; omega))
    have HBR9 := Lib.hid (HBR8.out.grown hg9 (by simp; omega))
    have HG9 := Lib.hid (HG8.out.trans hg9)
    have HP9 := Lib.hid h9
    clear h9 hg9
    have qc := HBC9.out.three (Below.refl _ _)
    have fc := HBC9.out.frozen 2
    have HB2 : Blk (w9.setCell ⟨bc, 2, none⟩ (.bool nl)) bc 85 #[.string ⟨s.toArray⟩, .int .i64 1, .bool nl] := by simpa using HBC9.out.set_ 2 (.bool nl)
    have hg2 := grown_set w9 ⟨bc, 2, none⟩ (.bool nl)
    have HBC10 := Lib.hid HB2
    have HBR10 := Lib.hid (HBR9.out.grown hg2 (by simp; omega))
    have HP10 := Lib.hid (HP9.out.grown hg2 (by simp; omega) (by simp; omega))
    have HG10 := Lib.hid (grown_new HG9.out hg2 hwc)
    clear HB2 hg2
    go_upto_region 10 with fail
    clear qc fc
    generalize w9.setCell ⟨bc, 2, none⟩ (.bool nl) = w10 at *
    have qc := HBC10.out.three (Below.refl _ _)
    have qr := HBR10.out.three (Below.refl _ _)
    have f0 := HBR10.out.frozen 0
    have f1 := HBR10.out.frozen 1
    have f2 := HBR10.out.frozen 2
    obtain ⟨w11, hw11, B11, _, _, _⟩ := Blk.set3 HBR10.out (.string ⟨s.toArray⟩) (.int .i64 1) (.bool nl)
    have hg11 : w10.grownBy w11 (some br) := by rw [hw11]; exact ((grown_set _ ⟨br, 0, none⟩ _).trans (grown_set _ ⟨br, 1, none⟩ _)).trans (grown_set _ ⟨br, 2, none⟩ _)
    have HP11 := Lib.hid (HP10.out.grown hg11 (by simp; omega) (by simp; omega))
    have HG11 := Lib.hid (grown_new HG10.out hg11 hwr)
    clear hg11
    go_wp2
    rw [← hw11]
    clear hw11 qc qr f0 f1 f2
    have z := B11.three (Below.refl _ _)
    exact bodyPost_ret (v := .agg #[.string ⟨s.toArray⟩, .int .i64 1, .bool nl]) (by simp [results, Tryz.results47, go_sem, z]; try rfl) rfl ⟨by rw [HRR.out], by rw [HRR.out]; exact HP11.out, HG11.out⟩
  | false =>
    have HP4 := Lib.hid (show Pr w4 g W b p1 from h4)
    clear h4
    replace HK := HK.out
    rw [if_neg (by simp)] at HK
    replace HK := Lib.hid HK
    have HI4 := Lib.hid (pis_ [105, 110, 116] HP4.out)
    replace HI4 := HI4.out
    unfold isP at HI4
    obtain ⟨ok4, hok4⟩ : ∃ ok, okIs W [105, 110, 116] p1 = ok := ⟨_, rfl⟩
    replace HK := HK.out
    rw [hok4] at HI4 HK
    replace HI4 := Lib.hid HI4
    replace HK := Lib.hid HK
    clear hok4
    go_wp2_with fail
    refine (HI4.out).mono ?_
    rintro e w5 ⟨rfl, h5, hg5⟩
    have HG5 := Lib.hid (HG4.out.trans hg5)
    have HBC5 := Lib.hid (HBC4.out.grown hg5 (by simp; omega))
    have HBR5 := Lib.hid (HBR4.out.grown hg5 (by simp; omega))
    clear hg5
    cases ok4 with
    | true =>
      have HP5 := Lib.hid (show Pr w5 g W b (stepP p1) from h5)
      obtain ⟨rfl, rfl⟩ : k = 2 ∧ p2 = stepP p1 := by have := HK.out; rw [if_pos rfl] at this; injection this with a b; exact ⟨a, b⟩
      have qc := HBC5.out.three (Below.refl _ _)
      have fc := HBC5.out.frozen 1
      have HB2 : Blk (w5.setCell ⟨bc, 1, none⟩ (.int .i64 2)) bc 85 #[.string ⟨s.toArray⟩, .int .i64 2, .bool false] := by simpa using HBC5.out.set_ 1 (.int .i64 2)
      have hg2 := grown_set w5 ⟨bc, 1, none⟩ (.int .i64 2)
      have HBC8 := Lib.hid HB2
      have HBR8 := Lib.hid (HBR5.out.grown hg2 (by simp; omega))
      have HP8 := Lib.hid (HP5.out.grown hg2 (by simp; omega) (by simp; omega))
      have HG8 := Lib.hid (grown_new HG5.out hg2 hwc)
      clear HB2 hg2 h5
      go_upto_block 1 with fail
      clear qc fc
      generalize w5.setCell ⟨bc, 1, none⟩ (.int .i64 2) = w8 at *
      have HI8 := Lib.hid (pis_ [110, 117, 108, 108] HP8.out)
      replace HI8 := HI8.out
      obtain ⟨nl, hnl⟩ : ∃ x, okIs W [110, 117, 108, 108] (stepP p1) = x := ⟨_, rfl⟩
      obtain ⟨p3, hp3⟩ : ∃ x, isP W [110, 117, 108, 108] (stepP p1) = x := ⟨_, rfl⟩
      rw [hnl, hp3] at HI8
      replace HI8 := Lib.hid HI8
      have HRR := Lib.hid (show R = (⟨s, 2, nl⟩, p3) by rw [HR.out, hnl, hp3])
      clear hnl hp3
      go_wp2_with fail
      refine (HI8.out).mono ?_
      rintro e w9 ⟨rfl, h9, hg9⟩
      have HBC9 := Lib.hid (HBC8.out.grown hg9 (by simp; omega))
      have HBR9 := Lib.hid (HBR8.out.grown hg9 (by simp; omega))
      have HG9 := Lib.hid (HG8.out.trans hg9)
      have HP9 := Lib.hid h9
      clear h9 hg9
      have qc := HBC9.out.three (Below.refl _ _)
      have fc := HBC9.out.frozen 2
      have HB2 : Blk (w9.setCell ⟨bc, 2, none⟩ (.bool nl)) bc 85 #[.string ⟨s.toArray⟩, .int .i64 2, .bool nl] := by simpa using HBC9.out.set_ 2 (.bool nl)
      have hg2 := grown_set w9 ⟨bc, 2, none⟩ (.bool nl)
      have HBC10 := Lib.hid HB2
      have HBR10 := Lib.hid (HBR9.out.grown hg2 (by simp; omega))
      have HP10 := Lib.hid (HP9.out.grown hg2 (by simp; omega) (by simp; omega))
      have HG10 := Lib.hid (grown_new HG9.out hg2 hwc)
      clear HB2 hg2
      go_upto_region 10 with fail
      clear qc fc
      generalize w9.setCell ⟨bc, 2, none⟩ (.bool nl) = w10 at *
      have qc := HBC10.out.three (Below.refl _ _)
      have qr := HBR10.out.three (Below.refl _ _)
      have f0 := HBR10.out.frozen 0
      have f1 := HBR10.out.frozen 1
      have f2 := HBR10.out.frozen 2
      obtain ⟨w11, hw11, B11, _, _, _⟩ := Blk.set3 HBR10.out (.string ⟨s.toArray⟩) (.int .i64 2) (.bool nl)
      have hg11 : w10.grownBy w11 (some br) := by rw [hw11]; exact ((grown_set _ ⟨br, 0, none⟩ _).trans (grown_set _ ⟨br, 1, none⟩ _)).trans (grown_set _ ⟨br, 2, none⟩ _)
      have HP11 := Lib.hid (HP10.out.grown hg11 (by simp; omega) (by simp; omega))
      have HG11 := Lib.hid (grown_new HG10.out hg11 hwr)
      clear hg11
      go_wp2
      rw [← hw11]
      clear hw11 qc qr f0 f1 f2
      have z := B11.three (Below.refl _ _)
      exact bodyPost_ret (v := .agg #[.string ⟨s.toArray⟩, .int .i64 2, .bool nl]) (by simp [results, Tryz.results47, go_sem, z]; try rfl) rfl ⟨by rw [HRR.out], by rw [HRR.out]; exact HP11.out, HG11.out⟩
    | false =>
      have HP5 := Lib.hid (show Pr w5 g W b p1 from h5)
      clear h5
      replace HK := HK.out
      rw [if_neg (by simp)] at HK
      replace HK := Lib.hid HK
      have HI5 := Lib.hid (pis_ [116, 101, 120, 116] HP5.out)
      replace HI5 := HI5.out
      unfold isP at HI5
      obtain ⟨ok5, hok5⟩ : ∃ ok, okIs W [116, 101, 120, 116] p1 = ok := ⟨_, rfl⟩
      replace HK := HK.out
      rw [hok5] at HI5 HK
      replace HI5 := Lib.hid HI5
      replace HK := Lib.hid HK
      clear hok5
      go_wp2_with fail
      refine (HI5.out).mono ?_
      rintro e w6 ⟨rfl, h6, hg6⟩
      have HG6 := Lib.hid (HG5.out.trans hg6)
      have HBC6 := Lib.hid (HBC5.out.grown hg6 (by simp; omega))
      have HBR6 := Lib.hid (HBR5.out.grown hg6 (by simp; omega))
      clear hg6
      cases ok5 with
      | true =>
        have HP6 := Lib.hid (show Pr w6 g W b (stepP p1) from h6)
        obtain ⟨rfl, rfl⟩ : k = 3 ∧ p2 = stepP p1 := by have := HK.out; rw [if_pos rfl] at this; injection this with a b; exact ⟨a, b⟩
        have qc := HBC6.out.three (Below.refl _ _)
        have fc := HBC6.out.frozen 1
        have HB2 : Blk (w6.setCell ⟨bc, 1, none⟩ (.int .i64 3)) bc 85 #[.string ⟨s.toArray⟩, .int .i64 3, .bool false] := by simpa using HBC6.out.set_ 1 (.int .i64 3)
        have hg2 := grown_set w6 ⟨bc, 1, none⟩ (.int .i64 3)
        have HBC8 := Lib.hid HB2
        have HBR8 := Lib.hid (HBR6.out.grown hg2 (by simp; omega))
        have HP8 := Lib.hid (HP6.out.grown hg2 (by simp; omega) (by simp; omega))
        have HG8 := Lib.hid (grown_new HG6.out hg2 hwc)
        clear HB2 hg2 h6
        go_upto_block 1 with fail
        clear qc fc
        generalize w6.setCell ⟨bc, 1, none⟩ (.int .i64 3) = w8 at *
        have HI8 := Lib.hid (pis_ [110, 117, 108, 108] HP8.out)
        replace HI8 := HI8.out
        obtain ⟨nl, hnl⟩ : ∃ x, okIs W [110, 117, 108, 108] (stepP p1) = x := ⟨_, rfl⟩
        obtain ⟨p3, hp3⟩ : ∃ x, isP W [110, 117, 108, 108] (stepP p1) = x := ⟨_, rfl⟩
        rw [hnl, hp3] at HI8
        replace HI8 := Lib.hid HI8
        have HRR := Lib.hid (show R = (⟨s, 3, nl⟩, p3) by rw [HR.out, hnl, hp3])
        clear hnl hp3
        go_wp2_with fail
        refine (HI8.out).mono ?_
        rintro e w9 ⟨rfl, h9, hg9⟩
        have HBC9 := Lib.hid (HBC8.out.grown hg9 (by simp; omega))
        have HBR9 := Lib.hid (HBR8.out.grown hg9 (by simp; omega))
        have HG9 := Lib.hid (HG8.out.trans hg9)
        have HP9 := Lib.hid h9
        clear h9 hg9
        have qc := HBC9.out.three (Below.refl _ _)
        have fc := HBC9.out.frozen 2
        have HB2 : Blk (w9.setCell ⟨bc, 2, none⟩ (.bool nl)) bc 85 #[.string ⟨s.toArray⟩, .int .i64 3, .bool nl] := by simpa using HBC9.out.set_ 2 (.bool nl)
        have hg2 := grown_set w9 ⟨bc, 2, none⟩ (.bool nl)
        have HBC10 := Lib.hid HB2
        have HBR10 := Lib.hid (HBR9.out.grown hg2 (by simp; omega))
        have HP10 := Lib.hid (HP9.out.grown hg2 (by simp; omega) (by simp; omega))
        have HG10 := Lib.hid (grown_new HG9.out hg2 hwc)
        clear HB2 hg2
        go_upto_region 10 with fail
        clear qc fc
        generalize w9.setCell ⟨bc, 2, none⟩ (.bool nl) = w10 at *
        have qc := HBC10.out.three (Below.refl _ _)
        have qr := HBR10.out.three (Below.refl _ _)
        have f0 := HBR10.out.frozen 0
        have f1 := HBR10.out.frozen 1
        have f2 := HBR10.out.frozen 2
        obtain ⟨w11, hw11, B11, _, _, _⟩ := Blk.set3 HBR10.out (.string ⟨s.toArray⟩) (.int .i64 3) (.bool nl)
        have hg11 : w10.grownBy w11 (some br) := by rw [hw11]; exact ((grown_set _ ⟨br, 0, none⟩ _).trans (grown_set _ ⟨br, 1, none⟩ _)).trans (grown_set _ ⟨br, 2, none⟩ _)
        have HP11 := Lib.hid (HP10.out.grown hg11 (by simp; omega) (by simp; omega))
        have HG11 := Lib.hid (grown_new HG10.out hg11 hwr)
        clear hg11
        go_wp2
        rw [← hw11]
        clear hw11 qc qr f0 f1 f2
        have z := B11.three (Below.refl _ _)
        exact bodyPost_ret (v := .agg #[.string ⟨s.toArray⟩, .int .i64 3, .bool nl]) (by simp [results, Tryz.results47, go_sem, z]; try rfl) rfl ⟨by rw [HRR.out], by rw [HRR.out]; exact HP11.out, HG11.out⟩
      | false =>
        have HP6 := Lib.hid (show Pr w6 g W b p1 from h6)
        clear h6
        replace HK := HK.out
        rw [if_neg (by simp)] at HK
        replace HK := Lib.hid HK
        obtain ⟨rfl, rfl⟩ : k = 0 ∧ p2 = failP 6 p1 := by have := HK.out; injection this with a b; exact ⟨a, b⟩
        have HF := Lib.hid (pfail_ 6 HP6.out)
        go_wp2_with fail
        refine (HF.out).mono ?_
        rintro e w8 ⟨rfl, h8, hg8⟩
        have HBC8 := Lib.hid (HBC6.out.grown hg8 (by simp; omega))
        have HBR8 := Lib.hid (HBR6.out.grown hg8 (by simp; omega))
        have HP8 := Lib.hid h8
        have HG8 := Lib.hid (HG6.out.trans hg8)
        clear h8 hg8
        have HI8 := Lib.hid (pis_ [110, 117, 108, 108] HP8.out)
        replace HI8 := HI8.out
        obtain ⟨nl, hnl⟩ : ∃ x, okIs W [110, 117, 108, 108] (failP 6 p1) = x := ⟨_, rfl⟩
        obtain ⟨p3, hp3⟩ : ∃ x, isP W [110, 117, 108, 108] (failP 6 p1) = x := ⟨_, rfl⟩
        rw [hnl, hp3] at HI8
        replace HI8 := Lib.hid HI8
        have HRR := Lib.hid (show R = (⟨s, 0, nl⟩, p3) by rw [HR.out, hnl, hp3])
        clear hnl hp3
        go_wp2_with fail
        refine (HI8.out).mono ?_
        rintro e w9 ⟨rfl, h9, hg9⟩
        have HBC9 := Lib.hid (HBC8.out.grown hg9 (by simp; omega))
        have HBR9 := Lib.hid (HBR8.out.grown hg9 (by simp; omega))
        have HG9 := Lib.hid (HG8.out.trans hg9)
        have HP9 := Lib.hid h9
        clear h9 hg9
        have qc := HBC9.out.three (Below.refl _ _)
        have fc := HBC9.out.frozen 2
        have HB2 : Blk (w9.setCell ⟨bc, 2, none⟩ (.bool nl)) bc 85 #[.string ⟨s.toArray⟩, .int .i64 0, .bool nl] := by simpa using HBC9.out.set_ 2 (.bool nl)
        have hg2 := grown_set w9 ⟨bc, 2, none⟩ (.bool nl)
        have HBC10 := Lib.hid HB2
        have HBR10 := Lib.hid (HBR9.out.grown hg2 (by simp; omega))
        have HP10 := Lib.hid (HP9.out.grown hg2 (by simp; omega) (by simp; omega))
        have HG10 := Lib.hid (grown_new HG9.out hg2 hwc)
        clear HB2 hg2
        go_upto_region 10 with fail
        clear qc fc
        generalize w9.setCell ⟨bc, 2, none⟩ (.bool nl) = w10 at *
        have qc := HBC10.out.three (Below.refl _ _)
        have qr := HBR10.out.three (Below.refl _ _)
        have f0 := HBR10.out.frozen 0
        have f1 := HBR10.out.frozen 1
        have f2 := HBR10.out.frozen 2
        obtain ⟨w11, hw11, B11, _, _, _⟩ := Blk.set3 HBR10.out (.string ⟨s.toArray⟩) (.int .i64 0) (.bool nl)
        have hg11 : w10.grownBy w11 (some br) := by rw [hw11]; exact ((grown_set _ ⟨br, 0, none⟩ _).trans (grown_set _ ⟨br, 1, none⟩ _)).trans (grown_set _ ⟨br, 2, none⟩ _)
        have HP11 := Lib.hid (HP10.out.grown hg11 (by simp; omega) (by simp; omega))
        have HG11 := Lib.hid (grown_new HG10.out hg11 hwr)
        clear hg11
        go_wp2
        rw [← hw11]
        clear hw11 qc qr f0 f1 f2
        have z := B11.three (Below.refl _ _)
        exact bodyPost_ret (v := .agg #[.string ⟨s.toArray⟩, .int .i64 0, .bool nl]) (by simp [results, Tryz.results47, go_sem, z]; try rfl) rfl ⟨by rw [HRR.out], by rw [HRR.out]; exact HP11.out, HG11.out⟩
end Go.Proofs.YtfnceamkephpjaaGreat.pg
