/- Statements: item. Printed by genq7.py. -/
import Derived.Test.YtfnceamkephpjaaGreatQ6
namespace Go.Proofs.YtfnceamkephpjaaGreat.pg
open Go.ChangeShapes Go.WideShapes Go.ChangeAt Go.RowKit Go.Proofs.YtfnceamkephpjaaGreat.lib Go.Proofs.YtfnceamkephpjaaGreat.lx
set_option linter.unusedVariables false

theorem ExO.kb1 {w w' : World} {k : Nat} {t : TypeId} {cs : Array Value} {v : Value} {es : List Nd} (h : ExO w v es) (hb : Blk w k t cs) (hn : 45 ≠ t) (hg : w.grownBy w' (some k)) : ExO w' v es := own_kb h hb hn hg
theorem own_blk {w : World} {k : Nat} {n : Nd} (h : Blk w k 45 #[.int .i64 n.op, .int .i64 n.a, .int .i64 n.b, .int .i64 n.k, .int .i64 n.n, .string ⟨n.s.toArray⟩, .string ⟨n.nm.toArray⟩]) : ExO w (.slice (some ⟨k, 0, none⟩) 1 1) [n] :=
  ⟨rfl, .inr ⟨k, 1, _, rfl, Nat.zero_le _, h, Nat.le_refl _, by unfold maxLen; decide, rfl, rfl⟩⟩
/-- what is left of item behind so many words -/
def aggFrom (W : List Wd) (p : Pp) (i : Nat) : (Int × List Nd) × Pp :=
  if i ≤ 2 then (if okIs W [115, 117, 109] p = true then aggP W 2 p else if okIs W [109, 105, 110] p = true then aggP W 3 p else if okIs W [109, 97, 120] p = true then aggP W 4 p else match exprP W p with | (e, q) => ((0, e), q))
  else if i = 3 then (if okIs W [109, 105, 110] p = true then aggP W 3 p else if okIs W [109, 97, 120] p = true then aggP W 4 p else match exprP W p with | (e, q) => ((0, e), q))
  else if i = 4 then (if okIs W [109, 97, 120] p = true then aggP W 4 p else match exprP W p with | (e, q) => ((0, e), q))
  else match exprP W p with | (e, q) => ((0, e), q)
set_option maxRecDepth 1000000 in
set_option maxHeartbeats 4000000 in
theorem item_ {w : World} {g : Nat} {W : List Wd} {b : Nat} {p : Pp} (h : Pr w g W b p) :
    Calls Tryz.prog 55 #[.pointer (some ⟨g, 0, none⟩)] w fun e w' => ∃ v, e = .returned (.agg #[.int .i64 (itemP W p).1.1, v]) ∧ ExO w' v (itemP W p).1.2 ∧ Pr w' g W b (itemP W p).2 ∧ w.grownBy w' (some g) := by
  have H := Lib.hid h
  have hgl := h.gl
  have hbl := h.bl
  have hr := (show itemP W p = if okIs W [99, 111, 117, 110, 116] p = true then ((1, []), mustL W [[40], [42], [41]] (stepP p)) else aggFrom W p 0 from rfl)
  obtain ⟨R, hR⟩ : ∃ R, itemP W p = R := ⟨_, rfl⟩
  rw [hR] at hr ⊢
  have HI := Lib.hid (fun w' (y : Pr w' g W b p) => pis_ [99, 111, 117, 110, 116] y)
  replace HI := HI.out
  unfold isP at HI
  obtain ⟨ok, hok⟩ : ∃ ok, okIs W [99, 111, 117, 110, 116] p = ok := ⟨_, rfl⟩
  rw [hok] at HI hr
  replace HI := Lib.hid HI
  have HR := Lib.hid hr
  clear hR hr hok h
  go_enter Tryz.func55, Tryz.ntmps55
  go_upto_region 1 with fail
  obtain ⟨W1, hW_, hb1, BR⟩ : ∃ W_, W_ = (w.alloc (.cells #[.int .i64 0, .slice none 0 0] 63)) ∧ Below w.heap.size w W_ ∧ Blk W_ (w.heap.size) 63 #[.int .i64 0, .slice none 0 0] :=
    ⟨_, rfl, ((Below.refl _ _).alloc (Nat.le_refl _) _), (blk_new_at w (w.heap.size) _ _ (by simp))⟩
  rw [← hW_]
  clear hW_
  obtain ⟨br, hbr⟩ : ∃ br, w.heap.size = br := ⟨_, rfl⟩
  have HP1 := Lib.hid (H.out.ext hb1)
  have HG_W1 := Lib.hid (grown_of hb1 (some g))
  rw [hbr] at BR ⊢
  have hwr : w.heap.size ≤ br := by omega
  have HBR_W1 := Lib.hid BR
  have hgr : g < br := by omega
  have hbb : b < br := by omega
  clear hb1 BR hbr hgl hbl H
  have HIC := Lib.hid (HI.out W1 HP1.out)
  go_wp2_with fail
  refine (HIC.out).mono ?_
  rintro e w2 ⟨rfl, h2, hg2⟩
  have HG_w2 := Lib.hid (HG_W1.out.trans hg2)
  have HBR_w2 := Lib.hid (HBR_W1.out.grown hg2 (by simp; omega))
  cases ok with
  | true =>
    obtain rfl : R = ((1, []), mustL W [[40], [42], [41]] (stepP p)) := by rw [HR.out, if_pos rfl]
    have H2 := Lib.hid (show Pr w2 g W b (stepP p) from h2)
    clear h2 hg2
    go_wp2_with fail
    obtain ⟨W3, hW_, hb_W3, BS⟩ : ∃ W_, W_ = (w2.alloc (.cells #[.string ⟨#[40]⟩, .string ⟨#[42]⟩, .string ⟨#[41]⟩] 9)) ∧ Below w2.heap.size w2 W_ ∧ Blk W_ (w2.heap.size) 9 #[.string ⟨#[40]⟩, .string ⟨#[42]⟩, .string ⟨#[41]⟩] :=
      ⟨_, rfl, ((Below.refl _ _).alloc (Nat.le_refl _) _), (blk_new_at w2 (w2.heap.size) _ _ (by simp))⟩
    rw [← hW_]
    clear hW_
    have HB_W3 := Lib.hid (H2.out.ext hb_W3)
    have HBR_W3 := Lib.hid (HBR_w2.out.ext hb_W3)
    have hgl_ := H2.out.gl
    have HM := Lib.hid (pmust_ [[40], [42], [41]] (some ⟨w2.heap.size, 0, none⟩) 3 HB_W3.out (Row.of_blk BS (Nat.zero_le _) 3 3 (Nat.le_refl _)) (by intro b' off e; injection e with e; injection e with e _; rw [← e]; simp; omega) (by decide))
    have HG_W3 := Lib.hid (HG_w2.out.trans (grown_of hb_W3 (some g)))
    clear hb_W3 BS hgl_
    refine (HM.out).mono ?_
    rintro e w4 ⟨rfl, h_, hg_⟩
    have H4 := Lib.hid (show Pr w4 g W b (mustL W [[40], [42], [41]] (stepP p)) from h_)
    have HG_w4 := Lib.hid (HG_W3.out.trans hg_)
    have HBR_w4 := Lib.hid (HBR_W3.out.grown hg_ (by simp; omega))
    clear h_ hg_
    have q0 := HBR_w4.out.cell 0
    have q1 := HBR_w4.out.cell 1
    have f0 := HBR_w4.out.frozen 0
    have f1 := HBR_w4.out.frozen 1
    have BN : Blk ((w4.setCell ⟨br, 0, none⟩ (.int .i64 1)).setCell ⟨br, 1, none⟩ (.slice none 0 0)) br 63 #[.int .i64 1, .slice none 0 0] := by simpa using (HBR_w4.out.set_ 0 (.int .i64 1)).set_ 1 (.slice none 0 0)
    have hgz : w4.grownBy ((w4.setCell ⟨br, 0, none⟩ (.int .i64 1)).setCell ⟨br, 1, none⟩ (.slice none 0 0)) (some br) := (grown_set _ ⟨br, 0, none⟩ _).trans (grown_set _ ⟨br, 1, none⟩ _)
    have HO := Lib.hid (ExO.kb1 (es := []) (exo_nil _) HBR_w4.out (by decide) hgz)
    have HP := Lib.hid (H4.out.grown hgz (by simp; omega) (by simp; omega))
    have HGZ := Lib.hid (grown_new HG_w4.out hgz hwr)
    have z0 := BN.cell 0
    have z1 := BN.cell 1
    clear BN hgz
    go_wp2
    generalize ((w4.setCell ⟨br, 0, none⟩ (.int .i64 1)).setCell ⟨br, 1, none⟩ (.slice none 0 0)) = wz at *
    exact bodyPost_ret (v := .agg #[.int .i64 1, .slice none 0 0]) (by simp [results, Tryz.results55, go_sem, z0, z1]; try rfl) rfl ⟨_, rfl, HO.out, HP.out, HGZ.out⟩
  | false =>
    have H2 := Lib.hid (show Pr w2 g W b p from h2)
    have HR2 := Lib.hid (show R = aggFrom W p 0 by rw [HR.out, if_neg (by simp)])
    clear h2 hg2
    clear HI HR
    go_wp2_with fail
    obtain ⟨W3, hW_, hb3, BL⟩ : ∃ W_, W_ = (w2.alloc (.cells #[.string ⟨#[]⟩, .string ⟨#[]⟩, .string ⟨#[115, 117, 109]⟩, .string ⟨#[109, 105, 110]⟩, .string ⟨#[109, 97, 120]⟩] 9)) ∧ Below w2.heap.size w2 W_ ∧ Blk W_ (w2.heap.size) 9 #[.string ⟨#[]⟩, .string ⟨#[]⟩, .string ⟨#[115, 117, 109]⟩, .string ⟨#[109, 105, 110]⟩, .string ⟨#[109, 97, 120]⟩] :=
      ⟨_, rfl, ((Below.refl _ _).alloc (Nat.le_refl _) _), (blk_new_at w2 (w2.heap.size) _ _ (by simp))⟩
    rw [← hW_]
    clear hW_
    have H3 := Lib.hid (H2.out.ext hb3)
    have HG_W3 := Lib.hid (HG_w2.out.trans (grown_of hb3 (some g)))
    have HBR_W3 := Lib.hid (HBR_w2.out.ext hb3)
    have HBL3 := Lib.hid BL
    have hlg := H2.out.gl
    obtain ⟨bl, hbl⟩ : ∃ bl, w2.heap.size = bl := ⟨_, rfl⟩
    replace HBL3 := HBL3.out
    rw [hbl] at HBL3 hlg ⊢
    replace HBL3 := Lib.hid HBL3
    clear hb3 BL hbl
    go_loopw [14] (fun iv wr => ∃ i : Nat, iv = .int .i64 i ∧ i ≤ 5 ∧ Hid (R = aggFrom W p i) ∧ Pr wr g W b p ∧ w.grownBy wr (some g) ∧ Blk wr br 63 #[.int .i64 0, .slice none 0 0] ∧ Blk wr bl 9 #[.string ⟨#[]⟩, .string ⟨#[]⟩, .string ⟨#[115, 117, 109]⟩, .string ⟨#[109, 105, 110]⟩, .string ⟨#[109, 97, 120]⟩]) (fun iv _ => 5 - (intOf iv).toNat)
    case atStart => exact ⟨0, rfl, by omega, HR2, H3.out, HG_W3.out, HBR_W3.out, HBL3.out⟩
    case round =>
      obtain ⟨i, rfl, hi, HL, hpr, hgr_, hbrr, hblr⟩ := hrel
      have HPr := Lib.hid hpr
      have HGr := Lib.hid hgr_
      have HBRr := Lib.hid hbrr
      have HBL := Lib.hid hblr
      have qs := (show wr.cell? ⟨bl, 0, none⟩ = some (.string ⟨#[]⟩) ∧ wr.cell? ⟨bl, 1, none⟩ = some (.string ⟨#[]⟩) ∧ wr.cell? ⟨bl, 2, none⟩ = some (.string ⟨#[115, 117, 109]⟩) ∧ wr.cell? ⟨bl, 3, none⟩ = some (.string ⟨#[109, 105, 110]⟩) ∧ wr.cell? ⟨bl, 4, none⟩ = some (.string ⟨#[109, 97, 120]⟩) from ⟨hblr.cell 0, hblr.cell 1, hblr.cell 2, hblr.cell 3, hblr.cell 4⟩)
      clear hpr hgr_ hbrr hblr HR2 H3 HG_W3 HBR_W3 HBL3 HG_w2 HBR_w2 H2
      have hcs : i = 0 ∨ i = 1 ∨ i = 2 ∨ i = 3 ∨ i = 4 ∨ i = 5 := by omega
      rcases hcs with rfl | rfl | rfl | rfl | rfl | rfl
      · go_wp2
        go_roundw
        case rel => exact ⟨1, rfl, by omega, HL, HPr.out, HGr.out, HBRr.out, HBL.out⟩
        case measure => simp [intOf]
      · go_wp2
        go_roundw
        case rel => exact ⟨2, rfl, by omega, HL, HPr.out, HGr.out, HBRr.out, HBL.out⟩
        case measure => simp [intOf]
      · replace HL := Lib.hid (HL.out.trans (show aggFrom W p 2 = if okIs W [115, 117, 109] p = true then aggP W 2 p else aggFrom W p 3 from rfl))
        have HIS := Lib.hid (pis_ [115, 117, 109] HPr.out)
        replace HIS := HIS.out
        unfold isP at HIS
        have hl := HL.out
        obtain ⟨ok, hok⟩ : ∃ ok, okIs W [115, 117, 109] p = ok := ⟨_, rfl⟩
        rw [hok] at HIS hl
        replace HIS := Lib.hid HIS
        have HL2 := Lib.hid hl
        clear hl hok
        go_wp2_with fail
        refine (HIS.out).mono ?_
        rintro e w7 ⟨rfl, h7, hg7⟩
        have HG_w7 := Lib.hid (HGr.out.trans hg7)
        have HBR_w7 := Lib.hid (HBRr.out.grown hg7 (by simp; omega))
        have HBL7 := Lib.hid (HBL.out.grown hg7 (by simp; omega))
        clear qs
        cases ok with
        | false =>
          have H7 := Lib.hid (show Pr w7 g W b p from h7)
          have HL3 := Lib.hid (show R = aggFrom W p 3 by rw [HL2.out, if_neg (by simp)])
          clear h7 hg7
          go_wp2
          go_roundw
          case rel => exact ⟨3, rfl, by omega, HL3.out, H7.out, HG_w7.out, HBR_w7.out, HBL7.out⟩
          case measure => simp [intOf]
        | true =>
          have H7 := Lib.hid (show Pr w7 g W b (stepP p) from h7)
          have hl := HL2.out
          rw [if_pos rfl] at hl
          have hag := (show aggP W 2 p = match colP W (mustP W [40] (stepP p)) with | (c, q) => ((2, [ndC c]), mustP W [41] q) from rfl)
          have HCO := Lib.hid (fun w' (y : Pr w' g W b (mustP W [40] (stepP p))) => pcol_ y)
          replace HCO := HCO.out
          obtain ⟨⟨c, q⟩, hcq⟩ : ∃ X, colP W (mustP W [40] (stepP p)) = X := ⟨_, rfl⟩
          rw [hcq] at hag HCO
          simp only at hag HCO
          rw [hag] at hl
          subst hl
          replace HCO := Lib.hid HCO
          clear h7 hg7 hag hcq HL HL2
          go_wp2_with fail
          obtain ⟨W8, hW_, hb_W8, BS⟩ : ∃ W_, W_ = (w7.alloc (.cells #[.string ⟨#[40]⟩] 9)) ∧ Below w7.heap.size w7 W_ ∧ Blk W_ (w7.heap.size) 9 #[.string ⟨#[40]⟩] :=
            ⟨_, rfl, ((Below.refl _ _).alloc (Nat.le_refl _) _), (blk_new_at w7 (w7.heap.size) _ _ (by simp))⟩
          rw [← hW_]
          clear hW_
          have HB_W8 := Lib.hid (H7.out.ext hb_W8)
          have HBR_W8 := Lib.hid (HBR_w7.out.ext hb_W8)
          have hgl_ := H7.out.gl
          have HM := Lib.hid (pmust_ [[40]] (some ⟨w7.heap.size, 0, none⟩) 1 HB_W8.out (Row.of_blk BS (Nat.zero_le _) 1 1 (Nat.le_refl _)) (by intro b' off e; injection e with e; injection e with e _; rw [← e]; simp; omega) (by decide))
          have HG_W8 := Lib.hid (HG_w7.out.trans (grown_of hb_W8 (some g)))
          clear hb_W8 BS hgl_
          refine (HM.out).mono ?_
          rintro e w9 ⟨rfl, h_, hg_⟩
          have H9 := Lib.hid (show Pr w9 g W b (mustP W [40] (stepP p)) from h_)
          have HG_w9 := Lib.hid (HG_W8.out.trans hg_)
          have HBR_w9 := Lib.hid (HBR_W8.out.grown hg_ (by simp; omega))
          clear h_ hg_
          go_wp2_with fail
          refine (HCO.out w9 H9.out).mono ?_
          rintro e w10 ⟨rfl, h10, hg10⟩
          have H10 := Lib.hid h10
          have HG_w10 := Lib.hid (HG_w9.out.trans hg10)
          have HBR_w10 := Lib.hid (HBR_w9.out.grown hg10 (by simp; omega))
          clear h10 hg10
          go_upto_region 10 with fail
          obtain ⟨W11, hW_, hb11, BE⟩ : ∃ W_, W_ = (w10.alloc (.cells #[.int .i64 2, .int .i64 0, .int .i64 0, .int .i64 0, .int .i64 0, .string ⟨#[]⟩, .string ⟨c.toArray⟩] 45)) ∧ Below w10.heap.size w10 W_ ∧ Blk W_ (w10.heap.size) 45 #[.int .i64 2, .int .i64 0, .int .i64 0, .int .i64 0, .int .i64 0, .string ⟨#[]⟩, .string ⟨c.toArray⟩] :=
            ⟨_, rfl, ((Below.refl _ _).alloc (Nat.le_refl _) _), (blk_new_at w10 (w10.heap.size) _ _ (by simp))⟩
          rw [← hW_]
          clear hW_
          have H_w11 := Lib.hid (H10.out.ext hb11)
          have HG_w11 := Lib.hid (HG_w10.out.trans (grown_of hb11 (some g)))
          have HBR_w11 := Lib.hid (HBR_w10.out.ext hb11)
          have HBE := Lib.hid BE
          obtain ⟨be, hbe⟩ : ∃ be, w10.heap.size = be := ⟨_, rfl⟩
          have hgl10 := H10.out.gl
          replace HBE := HBE.out
          rw [hbe] at HBE hgl10 ⊢
          replace HBE := Lib.hid HBE
          clear hb11 BE hbe
          generalize W11 = w11 at *
          go_wp2_with fail
          obtain ⟨W12, hW_, hb_W12, BS⟩ : ∃ W_, W_ = (w11.alloc (.cells #[.string ⟨#[41]⟩] 9)) ∧ Below w11.heap.size w11 W_ ∧ Blk W_ (w11.heap.size) 9 #[.string ⟨#[41]⟩] :=
            ⟨_, rfl, ((Below.refl _ _).alloc (Nat.le_refl _) _), (blk_new_at w11 (w11.heap.size) _ _ (by simp))⟩
          rw [← hW_]
          clear hW_
          have HB_W12 := Lib.hid (H_w11.out.ext hb_W12)
          have HBR_W12 := Lib.hid (HBR_w11.out.ext hb_W12)
          have hgl_ := H_w11.out.gl
          have HM := Lib.hid (pmust_ [[41]] (some ⟨w11.heap.size, 0, none⟩) 1 HB_W12.out (Row.of_blk BS (Nat.zero_le _) 1 1 (Nat.le_refl _)) (by intro b' off e; injection e with e; injection e with e _; rw [← e]; simp; omega) (by decide))
          have HG_W12 := Lib.hid (HG_w11.out.trans (grown_of hb_W12 (some g)))
          have HBE12 := Lib.hid (HBE.out.ext hb_W12)
          clear hb_W12 BS hgl_
          refine (HM.out).mono ?_
          rintro e w13 ⟨rfl, h_, hg_⟩
          have H13 := Lib.hid (show Pr w13 g W b (mustP W [41] q) from h_)
          have HG_w13 := Lib.hid (HG_W12.out.trans hg_)
          have HBR_w13 := Lib.hid (HBR_W12.out.grown hg_ (by simp; omega))
          have HBE13 := Lib.hid (HBE12.out.grown hg_ (by simp; omega))
          clear h_ hg_
          have q0 := HBR_w13.out.cell 0
          have q1 := HBR_w13.out.cell 1
          have f0 := HBR_w13.out.frozen 0
          have f1 := HBR_w13.out.frozen 1
          have BN : Blk ((w13.setCell ⟨br, 0, none⟩ (.int .i64 2)).setCell ⟨br, 1, none⟩ (.slice (some ⟨be, 0, none⟩) 1 1)) br 63 #[.int .i64 2, .slice (some ⟨be, 0, none⟩) 1 1] := by simpa using (HBR_w13.out.set_ 0 (.int .i64 2)).set_ 1 (.slice (some ⟨be, 0, none⟩) 1 1)
          have hgz : w13.grownBy ((w13.setCell ⟨br, 0, none⟩ (.int .i64 2)).setCell ⟨br, 1, none⟩ (.slice (some ⟨be, 0, none⟩) 1 1)) (some br) := (grown_set _ ⟨br, 0, none⟩ _).trans (grown_set _ ⟨br, 1, none⟩ _)
          have HO := Lib.hid (ExO.kb1 (es := [ndC c]) (own_blk HBE13.out) HBR_w13.out (by decide) hgz)
          have HP := Lib.hid (H13.out.grown hgz (by simp; omega) (by simp; omega))
          have HGZ := Lib.hid (grown_new HG_w13.out hgz hwr)
          have z0 := BN.cell 0
          have z1 := BN.cell 1
          clear BN hgz
          go_wp2
          generalize ((w13.setCell ⟨br, 0, none⟩ (.int .i64 2)).setCell ⟨br, 1, none⟩ (.slice (some ⟨be, 0, none⟩) 1 1)) = wz at *
          exact bodyPost_ret (v := .agg #[.int .i64 2, .slice (some ⟨be, 0, none⟩) 1 1]) (by simp [results, Tryz.results55, go_sem, z0, z1]; try rfl) rfl ⟨_, rfl, HO.out, HP.out, HGZ.out⟩
      · replace HL := Lib.hid (HL.out.trans (show aggFrom W p 3 = if okIs W [109, 105, 110] p = true then aggP W 3 p else aggFrom W p 4 from rfl))
        have HIS := Lib.hid (pis_ [109, 105, 110] HPr.out)
        replace HIS := HIS.out
        unfold isP at HIS
        have hl := HL.out
        obtain ⟨ok, hok⟩ : ∃ ok, okIs W [109, 105, 110] p = ok := ⟨_, rfl⟩
        rw [hok] at HIS hl
        replace HIS := Lib.hid HIS
        have HL2 := Lib.hid hl
        clear hl hok
        go_wp2_with fail
        refine (HIS.out).mono ?_
        rintro e w7 ⟨rfl, h7, hg7⟩
        have HG_w7 := Lib.hid (HGr.out.trans hg7)
        have HBR_w7 := Lib.hid (HBRr.out.grown hg7 (by simp; omega))
        have HBL7 := Lib.hid (HBL.out.grown hg7 (by simp; omega))
        clear qs
        cases ok with
        | false =>
          have H7 := Lib.hid (show Pr w7 g W b p from h7)
          have HL3 := Lib.hid (show R = aggFrom W p 4 by rw [HL2.out, if_neg (by simp)])
          clear h7 hg7
          go_wp2
          go_roundw
          case rel => exact ⟨4, rfl, by omega, HL3.out, H7.out, HG_w7.out, HBR_w7.out, HBL7.out⟩
          case measure => simp [intOf]
        | true =>
          have H7 := Lib.hid (show Pr w7 g W b (stepP p) from h7)
          have hl := HL2.out
          rw [if_pos rfl] at hl
          have hag := (show aggP W 3 p = match colP W (mustP W [40] (stepP p)) with | (c, q) => ((3, [ndC c]), mustP W [41] q) from rfl)
          have HCO := Lib.hid (fun w' (y : Pr w' g W b (mustP W [40] (stepP p))) => pcol_ y)
          replace HCO := HCO.out
          obtain ⟨⟨c, q⟩, hcq⟩ : ∃ X, colP W (mustP W [40] (stepP p)) = X := ⟨_, rfl⟩
          rw [hcq] at hag HCO
          simp only at hag HCO
          rw [hag] at hl
          subst hl
          replace HCO := Lib.hid HCO
          clear h7 hg7 hag hcq HL HL2
          go_wp2_with fail
          obtain ⟨W8, hW_, hb_W8, BS⟩ : ∃ W_, W_ = (w7.alloc (.cells #[.string ⟨#[40]⟩] 9)) ∧ Below w7.heap.size w7 W_ ∧ Blk W_ (w7.heap.size) 9 #[.string ⟨#[40]⟩] :=
            ⟨_, rfl, ((Below.refl _ _).alloc (Nat.le_refl _) _), (blk_new_at w7 (w7.heap.size) _ _ (by simp))⟩
          rw [← hW_]
          clear hW_
          have HB_W8 := Lib.hid (H7.out.ext hb_W8)
          have HBR_W8 := Lib.hid (HBR_w7.out.ext hb_W8)
          have hgl_ := H7.out.gl
          have HM := Lib.hid (pmust_ [[40]] (some ⟨w7.heap.size, 0, none⟩) 1 HB_W8.out (Row.of_blk BS (Nat.zero_le _) 1 1 (Nat.le_refl _)) (by intro b' off e; injection e with e; injection e with e _; rw [← e]; simp; omega) (by decide))
          have HG_W8 := Lib.hid (HG_w7.out.trans (grown_of hb_W8 (some g)))
          clear hb_W8 BS hgl_
          refine (HM.out).mono ?_
          rintro e w9 ⟨rfl, h_, hg_⟩
          have H9 := Lib.hid (show Pr w9 g W b (mustP W [40] (stepP p)) from h_)
          have HG_w9 := Lib.hid (HG_W8.out.trans hg_)
          have HBR_w9 := Lib.hid (HBR_W8.out.grown hg_ (by simp; omega))
          clear h_ hg_
          go_wp2_with fail
          refine (HCO.out w9 H9.out).mono ?_
          rintro e w10 ⟨rfl, h10, hg10⟩
          have H10 := Lib.hid h10
          have HG_w10 := Lib.hid (HG_w9.out.trans hg10)
          have HBR_w10 := Lib.hid (HBR_w9.out.grown hg10 (by simp; omega))
          clear h10 hg10
          go_upto_region 10 with fail
          obtain ⟨W11, hW_, hb11, BE⟩ : ∃ W_, W_ = (w10.alloc (.cells #[.int .i64 2, .int .i64 0, .int .i64 0, .int .i64 0, .int .i64 0, .string ⟨#[]⟩, .string ⟨c.toArray⟩] 45)) ∧ Below w10.heap.size w10 W_ ∧ Blk W_ (w10.heap.size) 45 #[.int .i64 2, .int .i64 0, .int .i64 0, .int .i64 0, .int .i64 0, .string ⟨#[]⟩, .string ⟨c.toArray⟩] :=
            ⟨_, rfl, ((Below.refl _ _).alloc (Nat.le_refl _) _), (blk_new_at w10 (w10.heap.size) _ _ (by simp))⟩
          rw [← hW_]
          clear hW_
          have H_w11 := Lib.hid (H10.out.ext hb11)
          have HG_w11 := Lib.hid (HG_w10.out.trans (grown_of hb11 (some g)))
          have HBR_w11 := Lib.hid (HBR_w10.out.ext hb11)
          have HBE := Lib.hid BE
          obtain ⟨be, hbe⟩ : ∃ be, w10.heap.size = be := ⟨_, rfl⟩
          have hgl10 := H10.out.gl
          replace HBE := HBE.out
          rw [hbe] at HBE hgl10 ⊢
          replace HBE := Lib.hid HBE
          clear hb11 BE hbe
          generalize W11 = w11 at *
          go_wp2_with fail
          obtain ⟨W12, hW_, hb_W12, BS⟩ : ∃ W_, W_ = (w11.alloc (.cells #[.string ⟨#[41]⟩] 9)) ∧ Below w11.heap.size w11 W_ ∧ Blk W_ (w11.heap.size) 9 #[.string ⟨#[41]⟩] :=
            ⟨_, rfl, ((Below.refl _ _).alloc (Nat.le_refl _) _), (blk_new_at w11 (w11.heap.size) _ _ (by simp))⟩
          rw [← hW_]
          clear hW_
          have HB_W12 := Lib.hid (H_w11.out.ext hb_W12)
          have HBR_W12 := Lib.hid (HBR_w11.out.ext hb_W12)
          have hgl_ := H_w11.out.gl
          have HM := Lib.hid (pmust_ [[41]] (some ⟨w11.heap.size, 0, none⟩) 1 HB_W12.out (Row.of_blk BS (Nat.zero_le _) 1 1 (Nat.le_refl _)) (by intro b' off e; injection e with e; injection e with e _; rw [← e]; simp; omega) (by decide))
          have HG_W12 := Lib.hid (HG_w11.out.trans (grown_of hb_W12 (some g)))
          have HBE12 := Lib.hid (HBE.out.ext hb_W12)
          clear hb_W12 BS hgl_
          refine (HM.out).mono ?_
          rintro e w13 ⟨rfl, h_, hg_⟩
          have H13 := Lib.hid (show Pr w13 g W b (mustP W [41] q) from h_)
          have HG_w13 := Lib.hid (HG_W12.out.trans hg_)
          have HBR_w13 := Lib.hid (HBR_W12.out.grown hg_ (by simp; omega))
          have HBE13 := Lib.hid (HBE12.out.grown hg_ (by simp; omega))
          clear h_ hg_
          have q0 := HBR_w13.out.cell 0
          have q1 := HBR_w13.out.cell 1
          have f0 := HBR_w13.out.frozen 0
          have f1 := HBR_w13.out.frozen 1
          have BN : Blk ((w13.setCell ⟨br, 0, none⟩ (.int .i64 3)).setCell ⟨br, 1, none⟩ (.slice (some ⟨be, 0, none⟩) 1 1)) br 63 #[.int .i64 3, .slice (some ⟨be, 0, none⟩) 1 1] := by simpa using (HBR_w13.out.set_ 0 (.int .i64 3)).set_ 1 (.slice (some ⟨be, 0, none⟩) 1 1)
          have hgz : w13.grownBy ((w13.setCell ⟨br, 0, none⟩ (.int .i64 3)).setCell ⟨br, 1, none⟩ (.slice (some ⟨be, 0, none⟩) 1 1)) (some br) := (grown_set _ ⟨br, 0, none⟩ _).trans (grown_set _ ⟨br, 1, none⟩ _)
          have HO := Lib.hid (ExO.kb1 (es := [ndC c]) (own_blk HBE13.out) HBR_w13.out (by decide) hgz)
          have HP := Lib.hid (H13.out.grown hgz (by simp; omega) (by simp; omega))
          have HGZ := Lib.hid (grown_new HG_w13.out hgz hwr)
          have z0 := BN.cell 0
          have z1 := BN.cell 1
          clear BN hgz
          go_wp2
          generalize ((w13.setCell ⟨br, 0, none⟩ (.int .i64 3)).setCell ⟨br, 1, none⟩ (.slice (some ⟨be, 0, none⟩) 1 1)) = wz at *
          exact bodyPost_ret (v := .agg #[.int .i64 3, .slice (some ⟨be, 0, none⟩) 1 1]) (by simp [results, Tryz.results55, go_sem, z0, z1]; try rfl) rfl ⟨_, rfl, HO.out, HP.out, HGZ.out⟩
      · replace HL := Lib.hid (HL.out.trans (show aggFrom W p 4 = if okIs W [109, 97, 120] p = true then aggP W 4 p else aggFrom W p 5 from rfl))
        have HIS := Lib.hid (pis_ [109, 97, 120] HPr.out)
        replace HIS := HIS.out
        unfold isP at HIS
        have hl := HL.out
        obtain ⟨ok, hok⟩ : ∃ ok, okIs W [109, 97, 120] p = ok := ⟨_, rfl⟩
        rw [hok] at HIS hl
        replace HIS := Lib.hid HIS
        have HL2 := Lib.hid hl
        clear hl hok
        go_wp2_with fail
        refine (HIS.out).mono ?_
        rintro e w7 ⟨rfl, h7, hg7⟩
        have HG_w7 := Lib.hid (HGr.out.trans hg7)
        have HBR_w7 := Lib.hid (HBRr.out.grown hg7 (by simp; omega))
        have HBL7 := Lib.hid (HBL.out.grown hg7 (by simp; omega))
        clear qs
        cases ok with
        | false =>
          have H7 := Lib.hid (show Pr w7 g W b p from h7)
          have HL3 := Lib.hid (show R = aggFrom W p 5 by rw [HL2.out, if_neg (by simp)])
          clear h7 hg7
          go_wp2
          go_roundw
          case rel => exact ⟨5, rfl, by omega, HL3.out, H7.out, HG_w7.out, HBR_w7.out, HBL7.out⟩
          case measure => simp [intOf]
        | true =>
          have H7 := Lib.hid (show Pr w7 g W b (stepP p) from h7)
          have hl := HL2.out
          rw [if_pos rfl] at hl
          have hag := (show aggP W 4 p = match colP W (mustP W [40] (stepP p)) with | (c, q) => ((4, [ndC c]), mustP W [41] q) from rfl)
          have HCO := Lib.hid (fun w' (y : Pr w' g W b (mustP W [40] (stepP p))) => pcol_ y)
          replace HCO := HCO.out
          obtain ⟨⟨c, q⟩, hcq⟩ : ∃ X, colP W (mustP W [40] (stepP p)) = X := ⟨_, rfl⟩
          rw [hcq] at hag HCO
          simp only at hag HCO
          rw [hag] at hl
          subst hl
          replace HCO := Lib.hid HCO
          clear h7 hg7 hag hcq HL HL2
          go_wp2_with fail
          obtain ⟨W8, hW_, hb_W8, BS⟩ : ∃ W_, W_ = (w7.alloc (.cells #[.string ⟨#[40]⟩] 9)) ∧ Below w7.heap.size w7 W_ ∧ Blk W_ (w7.heap.size) 9 #[.string ⟨#[40]⟩] :=
            ⟨_, rfl, ((Below.refl _ _).alloc (Nat.le_refl _) _), (blk_new_at w7 (w7.heap.size) _ _ (by simp))⟩
          rw [← hW_]
          clear hW_
          have HB_W8 := Lib.hid (H7.out.ext hb_W8)
          have HBR_W8 := Lib.hid (HBR_w7.out.ext hb_W8)
          have hgl_ := H7.out.gl
          have HM := Lib.hid (pmust_ [[40]] (some ⟨w7.heap.size, 0, none⟩) 1 HB_W8.out (Row.of_blk BS (Nat.zero_le _) 1 1 (Nat.le_refl _)) (by intro b' off e; injection e with e; injection e with e _; rw [← e]; simp; omega) (by decide))
          have HG_W8 := Lib.hid (HG_w7.out.trans (grown_of hb_W8 (some g)))
          clear hb_W8 BS hgl_
          refine (HM.out).mono ?_
          rintro e w9 ⟨rfl, h_, hg_⟩
          have H9 := Lib.hid (show Pr w9 g W b (mustP W [40] (stepP p)) from h_)
          have HG_w9 := Lib.hid (HG_W8.out.trans hg_)
          have HBR_w9 := Lib.hid (HBR_W8.out.grown hg_ (by simp; omega))
          clear h_ hg_
          go_wp2_with fail
          refine (HCO.out w9 H9.out).mono ?_
          rintro e w10 ⟨rfl, h10, hg10⟩
          have H10 := Lib.hid h10
          have HG_w10 := Lib.hid (HG_w9.out.trans hg10)
          have HBR_w10 := Lib.hid (HBR_w9.out.grown hg10 (by simp; omega))
          clear h10 hg10
          go_upto_region 10 with fail
          obtain ⟨W11, hW_, hb11, BE⟩ : ∃ W_, W_ = (w10.alloc (.cells #[.int .i64 2, .int .i64 0, .int .i64 0, .int .i64 0, .int .i64 0, .string ⟨#[]⟩, .string ⟨c.toArray⟩] 45)) ∧ Below w10.heap.size w10 W_ ∧ Blk W_ (w10.heap.size) 45 #[.int .i64 2, .int .i64 0, .int .i64 0, .int .i64 0, .int .i64 0, .string ⟨#[]⟩, .string ⟨c.toArray⟩] :=
            ⟨_, rfl, ((Below.refl _ _).alloc (Nat.le_refl _) _), (blk_new_at w10 (w10.heap.size) _ _ (by simp))⟩
          rw [← hW_]
          clear hW_
          have H_w11 := Lib.hid (H10.out.ext hb11)
          have HG_w11 := Lib.hid (HG_w10.out.trans (grown_of hb11 (some g)))
          have HBR_w11 := Lib.hid (HBR_w10.out.ext hb11)
          have HBE := Lib.hid BE
          obtain ⟨be, hbe⟩ : ∃ be, w10.heap.size = be := ⟨_, rfl⟩
          have hgl10 := H10.out.gl
          replace HBE := HBE.out
          rw [hbe] at HBE hgl10 ⊢
          replace HBE := Lib.hid HBE
          clear hb11 BE hbe
          generalize W11 = w11 at *
          go_wp2_with fail
          obtain ⟨W12, hW_, hb_W12, BS⟩ : ∃ W_, W_ = (w11.alloc (.cells #[.string ⟨#[41]⟩] 9)) ∧ Below w11.heap.size w11 W_ ∧ Blk W_ (w11.heap.size) 9 #[.string ⟨#[41]⟩] :=
            ⟨_, rfl, ((Below.refl _ _).alloc (Nat.le_refl _) _), (blk_new_at w11 (w11.heap.size) _ _ (by simp))⟩
          rw [← hW_]
          clear hW_
          have HB_W12 := Lib.hid (H_w11.out.ext hb_W12)
          have HBR_W12 := Lib.hid (HBR_w11.out.ext hb_W12)
          have hgl_ := H_w11.out.gl
          have HM := Lib.hid (pmust_ [[41]] (some ⟨w11.heap.size, 0, none⟩) 1 HB_W12.out (Row.of_blk BS (Nat.zero_le _) 1 1 (Nat.le_refl _)) (by intro b' off e; injection e with e; injection e with e _; rw [← e]; simp; omega) (by decide))
          have HG_W12 := Lib.hid (HG_w11.out.trans (grown_of hb_W12 (some g)))
          have HBE12 := Lib.hid (HBE.out.ext hb_W12)
          clear hb_W12 BS hgl_
          refine (HM.out).mono ?_
          rintro e w13 ⟨rfl, h_, hg_⟩
          have H13 := Lib.hid (show Pr w13 g W b (mustP W [41] q) from h_)
          have HG_w13 := Lib.hid (HG_W12.out.trans hg_)
          have HBR_w13 := Lib.hid (HBR_W12.out.grown hg_ (by simp; omega))
          have HBE13 := Lib.hid (HBE12.out.grown hg_ (by simp; omega))
          clear h_ hg_
          have q0 := HBR_w13.out.cell 0
          have q1 := HBR_w13.out.cell 1
          have f0 := HBR_w13.out.frozen 0
          have f1 := HBR_w13.out.frozen 1
          have BN : Blk ((w13.setCell ⟨br, 0, none⟩ (.int .i64 4)).setCell ⟨br, 1, none⟩ (.slice (some ⟨be, 0, none⟩) 1 1)) br 63 #[.int .i64 4, .slice (some ⟨be, 0, none⟩) 1 1] := by simpa using (HBR_w13.out.set_ 0 (.int .i64 4)).set_ 1 (.slice (some ⟨be, 0, none⟩) 1 1)
          have hgz : w13.grownBy ((w13.setCell ⟨br, 0, none⟩ (.int .i64 4)).setCell ⟨br, 1, none⟩ (.slice (some ⟨be, 0, none⟩) 1 1)) (some br) := (grown_set _ ⟨br, 0, none⟩ _).trans (grown_set _ ⟨br, 1, none⟩ _)
          have HO := Lib.hid (ExO.kb1 (es := [ndC c]) (own_blk HBE13.out) HBR_w13.out (by decide) hgz)
          have HP := Lib.hid (H13.out.grown hgz (by simp; omega) (by simp; omega))
          have HGZ := Lib.hid (grown_new HG_w13.out hgz hwr)
          have z0 := BN.cell 0
          have z1 := BN.cell 1
          clear BN hgz
          go_wp2
          generalize ((w13.setCell ⟨br, 0, none⟩ (.int .i64 4)).setCell ⟨br, 1, none⟩ (.slice (some ⟨be, 0, none⟩) 1 1)) = wz at *
          exact bodyPost_ret (v := .agg #[.int .i64 4, .slice (some ⟨be, 0, none⟩) 1 1]) (by simp [results, Tryz.results55, go_sem, z0, z1]; try rfl) rfl ⟨_, rfl, HO.out, HP.out, HGZ.out⟩
      · replace HL := HL.out.trans (show aggFrom W p 5 = match exprP W p with | (e, q) => ((0, e), q) from rfl)
        have HE := Lib.hid (expr_ HPr.out)
        replace HE := HE.out
        obtain ⟨⟨es, q⟩, hq⟩ : ∃ X, exprP W p = X := ⟨_, rfl⟩
        rw [hq] at HL HE
        simp only at HL HE
        subst HL
        replace HE := Lib.hid HE
        clear hq qs
        go_wp2_with fail
        refine (HE.out).mono ?_
        rintro e w9 ⟨v, rfl, ho, _, h9, hg9⟩
        obtain ⟨A, c, rfl⟩ := own_sl ho
        have H9 := Lib.hid h9
        have HG_w9 := Lib.hid (HGr.out.trans hg9)
        have HBR_w9 := Lib.hid (HBRr.out.grown hg9 (by simp; omega))
        have HOE := Lib.hid (show ExO w9 (.slice A es.length c) es from lib.own_base ho (Nat.zero_le _))
        clear h9 hg9 ho
        have q0 := HBR_w9.out.cell 0
        have q1 := HBR_w9.out.cell 1
        have f0 := HBR_w9.out.frozen 0
        have f1 := HBR_w9.out.frozen 1
        have BN : Blk ((w9.setCell ⟨br, 0, none⟩ (.int .i64 0)).setCell ⟨br, 1, none⟩ (.slice A es.length c)) br 63 #[.int .i64 0, .slice A es.length c] := by simpa using (HBR_w9.out.set_ 0 (.int .i64 0)).set_ 1 (.slice A es.length c)
        have hgz : w9.grownBy ((w9.setCell ⟨br, 0, none⟩ (.int .i64 0)).setCell ⟨br, 1, none⟩ (.slice A es.length c)) (some br) := (grown_set _ ⟨br, 0, none⟩ _).trans (grown_set _ ⟨br, 1, none⟩ _)
        have HO := Lib.hid (ExO.kb1 HOE.out HBR_w9.out (by decide) hgz)
        have HP := Lib.hid (H9.out.grown hgz (by simp; omega) (by simp; omega))
        have HGZ := Lib.hid (grown_new HG_w9.out hgz hwr)
        have z0 := BN.cell 0
        have z1 := BN.cell 1
        clear BN hgz
        go_wp2
        generalize ((w9.setCell ⟨br, 0, none⟩ (.int .i64 0)).setCell ⟨br, 1, none⟩ (.slice A es.length c)) = wz at *
        exact bodyPost_ret (v := .agg #[.int .i64 0, .slice A es.length c]) (by simp [results, Tryz.results55, go_sem, z0, z1]; try rfl) rfl ⟨_, rfl, HO.out, HP.out, HGZ.out⟩
end Go.Proofs.YtfnceamkephpjaaGreat.pg
