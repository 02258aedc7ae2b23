/- Statements: select. Printed by genq12.py. -/
import Derived.Test.YtfnceamkephpjaaGreatQ11
namespace Go.Proofs.YtfnceamkephpjaaGreat.pg
open Go.ChangeShapes Go.WideShapes Go.ChangeAt Go.RowKit Go.Proofs.YtfnceamkephpjaaGreat.lib Go.Proofs.YtfnceamkephpjaaGreat.lx
set_option linter.unusedVariables false

set_option maxRecDepth 1000000 in
set_option maxHeartbeats 4000000 in
theorem sel_ : StmC 30 (fun g => #[.pointer (some ⟨g, 0, none⟩)]) selP := by
  intro w g W b p h
  have H := Lib.hid h
  have hgl := h.gl
  have hbl := h.bl
  have hr := (show selP W p = match itemsP W p with
  | (is, p1) => match nameP W (mustP W [102, 114, 111, 109] p1) with
    | (t, p2) => match joinP W p2 with
      | (j, p3) => match whereP W p3 with
        | (e, p4) => match groupP W p4 with
          | (g, p5) => match orderP W p5 with
            | (o, p6) => match limitP W p6 with
              | (l, p7) => ({ St0 with kind := 6, items := is, table := t, join := j.1, on := j.2, wh := e, group := g, order := o.1, desc := o.2, limit := l }, p7) from rfl)
  have h1 := (show itemsP W p = if okIs W [42] p = true then ([], stepP p) else rowAll W (itemDo W) [] p from rfl)
  obtain ⟨⟨is, p1⟩, e1⟩ : ∃ X, itemsP W p = X := ⟨_, rfl⟩
  rw [e1] at hr h1
  simp only at hr
  have HN := Lib.hid (fun w' (y : Pr w' g W b (mustP W [102, 114, 111, 109] p1)) => pname_ y)
  replace HN := HN.out
  obtain ⟨⟨t, p2⟩, e2⟩ : ∃ X, nameP W (mustP W [102, 114, 111, 109] p1) = X := ⟨_, rfl⟩
  rw [e2] at hr HN
  simp only at hr HN
  have h3 := (show joinP W p2 = if okIs W [106, 111, 105, 110] p2 = true then (match nameP W (stepP p2) with
  | (j, q) => match exprP W (mustP W [111, 110] q) with | (e, r) => ((j, e), r)) else (([], []), p2) from rfl)
  obtain ⟨⟨⟨j, jo⟩, p3⟩, e3⟩ : ∃ X, joinP W p2 = X := ⟨_, rfl⟩
  rw [e3] at hr h3
  simp only at hr
  have HE := Lib.hid (fun w' (y : Pr w' g W b p3) => where_ y)
  replace HE := HE.out
  obtain ⟨⟨wh, p4⟩, e4⟩ : ∃ X, whereP W p3 = X := ⟨_, rfl⟩
  rw [e4] at hr HE
  simp only at hr HE
  have h5 := (show groupP W p4 = if okIs W [103, 114, 111, 117, 112] p4 = true then colP W (mustP W [98, 121] (stepP p4)) else ([], p4) from rfl)
  obtain ⟨⟨gr, p5⟩, e5⟩ : ∃ X, groupP W p4 = X := ⟨_, rfl⟩
  rw [e5] at hr h5
  simp only at hr
  have h6 := (show orderP W p5 = if okIs W [111, 114, 100, 101, 114] p5 = true then (match colP W (mustP W [98, 121] (stepP p5)) with
  | (o, q) => ((o, okIs W [100, 101, 115, 99] q), isP W [100, 101, 115, 99] q)) else (([], false), p5) from rfl)
  obtain ⟨⟨⟨ord, dsc⟩, p6⟩, e6⟩ : ∃ X, orderP W p5 = X := ⟨_, rfl⟩
  rw [e6] at hr h6
  simp only at hr
  have h7 := (show limitP W p6 = if okIs W [108, 105, 109, 105, 116] p6 = true then (match numP W (stepP p6) with | q => ((cur W q).n, nextP W q)) else (-1, p6) from rfl)
  obtain ⟨⟨lim, p7⟩, e7⟩ : ∃ X, limitP W p6 = X := ⟨_, rfl⟩
  rw [e7] at hr h7
  simp only at hr
  unfold StmP
  rw [hr]
  replace HN := Lib.hid HN
  replace HE := Lib.hid HE
  have H1 := Lib.hid h1
  have H3 := Lib.hid h3
  have H5 := Lib.hid h5
  have H6 := Lib.hid h6
  have H7 := Lib.hid h7
  have HRW := Lib.hid (fun (pb xb rb : Nat) (w' : World) (x : IxI w g b pb xb rb W { St0 with kind := 6, limit := -1 } 0 [] p w') => row_ 54 (.pointer (some ⟨xb, 0, none⟩)) (.pointer (some ⟨pb, 0, none⟩)) W (itemDo W) (IxI w g b pb xb rb W { St0 with kind := 6, limit := -1 }) g b (enters_of Tryz.func54 (by kernel_rfl) rfl)
    (fun n s p w' h => by obtain ⟨_, v, h, _⟩ := h; exact h.pr) (fun n s p q w' w'' h hp hg => by obtain ⟨h0, v, h, hl⟩ := h; exact ⟨h0, v, h.parser hp hg, hl⟩) (fun n s p w' hn h => sel1_ w g b pb xb rb W { St0 with kind := 6, limit := -1 } n s p w' hn h) [] _ w' x)
  have hmf : ∀ (fn : Fn) (first cap : Array Value) (w : World), (Instr.makeFunc fn first cap).run Tryz.prog w = .ok (.func fn first cap) w := fun _ _ _ _ => rfl
  clear hr h1 h3 h5 h6 h7 e1 e2 e3 e4 e5 e6 e7 h
  go_enter Tryz.func30, Tryz.ntmps30
  go_upto_region 1 with fail
  obtain ⟨W1, hW_, hb1, BP, BR⟩ : ∃ W_, W_ = ((w.alloc (.cells #[.pointer (some ⟨g, 0, none⟩)] 50)).alloc (.cells #[.int .i64 0, .string ⟨#[]⟩, .slice none 0 0, .int .i64 0, .bool false, .string ⟨#[]⟩, .string ⟨#[]⟩, .slice none 0 0, .slice none 0 0, .slice none 0 0, .slice none 0 0, .slice none 0 0, .string ⟨#[]⟩, .string ⟨#[]⟩, .bool false, .int .i64 0, .string ⟨#[]⟩] 34)) ∧ Below w.heap.size w W_ ∧ Blk W_ (w.heap.size) 50 #[.pointer (some ⟨g, 0, none⟩)] ∧ Blk W_ (w.heap.size + 1) 34 #[.int .i64 0, .string ⟨#[]⟩, .slice none 0 0, .int .i64 0, .bool false, .string ⟨#[]⟩, .string ⟨#[]⟩, .slice none 0 0, .slice none 0 0, .slice none 0 0, .slice none 0 0, .slice none 0 0, .string ⟨#[]⟩, .string ⟨#[]⟩, .bool false, .int .i64 0, .string ⟨#[]⟩] :=
    ⟨_, rfl, (((Below.refl _ _).alloc (Nat.le_refl _) _).alloc (by simp; try omega) _), ((blk_new_at w (w.heap.size) _ _ (by simp)).alloc _), (blk_new_at (w.alloc (.cells #[.pointer (some ⟨g, 0, none⟩)] 50)) (w.heap.size + 1) _ _ (by simp))⟩
  rw [← hW_]
  clear hW_
  obtain ⟨pb, hpb⟩ : ∃ pb, w.heap.size = pb := ⟨_, rfl⟩
  have HP_w1 := Lib.hid (H.out.ext hb1)
  have HG_w1 := Lib.hid (grown_of hb1 (some g))
  rw [hpb] at BR BP ⊢
  have hwp : w.heap.size ≤ pb := by omega
  have hwr : w.heap.size ≤ pb + 1 := by omega
  have HBP_w1 := Lib.hid BP
  have HBR_w1 := Lib.hid BR
  have hgp : g < pb := by omega
  have hbp : b < pb := by omega
  have hgw := hgl
  have hbw := hbl
  have HLR := Lib.hid BR.lt
  have cp := BP.cell 0
  clear hb1 BR BP hpb H
  generalize W1 = w1 at *
  obtain ⟨rb, hrb⟩ : ∃ rb, rb = pb + 1 := ⟨_, rfl⟩
  rw [← hrb] at HBR_w1 hwr ⊢
  have hgr : g < rb := by omega
  have hbr : b < rb := by omega
  have hpr : pb ≠ rb := by omega
  clear hrb
  go_upto_region 2 with fail
  obtain ⟨W2, hW_, hb_, BX⟩ : ∃ W_, W_ = (w1.alloc (.cells #[.int .i64 6, .string ⟨#[]⟩, .slice none 0 0, .int .i64 0, .bool false, .string ⟨#[]⟩, .string ⟨#[]⟩, .slice none 0 0, .slice none 0 0, .slice none 0 0, .slice none 0 0, .slice none 0 0, .string ⟨#[]⟩, .string ⟨#[]⟩, .bool false, .int .i64 (-1), .string ⟨#[]⟩] 34)) ∧ Below w1.heap.size w1 W_ ∧ Blk W_ (w1.heap.size) 34 #[.int .i64 6, .string ⟨#[]⟩, .slice none 0 0, .int .i64 0, .bool false, .string ⟨#[]⟩, .string ⟨#[]⟩, .slice none 0 0, .slice none 0 0, .slice none 0 0, .slice none 0 0, .slice none 0 0, .string ⟨#[]⟩, .string ⟨#[]⟩, .bool false, .int .i64 (-1), .string ⟨#[]⟩] :=
    ⟨_, rfl, ((Below.refl _ _).alloc (Nat.le_refl _) _), (blk_new_at w1 (w1.heap.size) _ _ (by simp))⟩
  rw [← hW_]
  clear hW_
  have X_ := Lib.hid (show Sx w W2 g b pb w1.heap.size rb W p { St0 with kind := 6, limit := -1 } Vs0 from ⟨HG_w1.out.trans (grown_of hb_ _), HP_w1.out.ext hb_, HBP_w1.out.ext hb_, BX, HBR_w1.out.ext hb_, sto_0 _ ⟨rfl, rfl, rfl, rfl, rfl, rfl⟩, hgw, hbw, hwp, HG_w1.out.size, hwr, by have := HBR_w1.out.lt; omega, by have := HBP_w1.out.lt; omega⟩)
  obtain ⟨xb, hxb⟩ : ∃ xb, w1.heap.size = xb := ⟨_, rfl⟩
  replace X_ := X_.out
  rw [hxb] at X_ ⊢
  replace X_ := Lib.hid X_
  clear hb_ BX hxb cp
  have cp := X_.out.pcell
  generalize W2 = w2 at *
  clear HBP_w1 HBR_w1 HP_w1 HG_w1 HLR hwp hwr hpr
  go_wp2_with fail
  have HI_ := Lib.hid (pis_ [42] X_.out.pr)
  replace HI_ := HI_.out
  unfold isP at HI_
  obtain ⟨ok1, hok_⟩ : ∃ o, okIs W [42] p = o := ⟨_, rfl⟩
  replace H1 := H1.out
  rw [hok_] at HI_ H1
  replace HI_ := Lib.hid HI_
  replace H1 := Lib.hid H1
  clear hok_
  refine (HI_.out).mono ?_
  rintro e w3 ⟨rfl, h_, hg_⟩
  have X3 := Lib.hid (X_.out.parser h_ hg_)
  clear h_ hg_ HI_ cp
  have cp := X3.out.pcell
  go_upto_if 7 with fail
  go_cut [10] from 8 to 10 (fun _ wx => ∃ v, Sx w wx g b pb xb rb W p1 { St0 with kind := 6, limit := -1, items := is } v)
  case first =>
    cases ok1 with
    | true =>
      obtain ⟨rfl, rfl⟩ : is = [] ∧ p1 = stepP p := by have := H1.out; rw [if_pos rfl] at this; injection this with a c; exact ⟨a, c⟩
      replace X3 := Lib.hid (show Sx w w3 g b pb xb rb W (stepP p) { St0 with kind := 6, limit := -1, items := [] } Vs0 from X3.out)
      go_wp2_with fail
      go_meet
      exact ⟨_, X3.out⟩
    | false =>
      replace H1 := Lib.hid (show (is, p1) = rowAll W (itemDo W) [] p by rw [H1.out, if_neg (by simp)])
      have HRC := Lib.hid (HRW.out pb xb rb w3 ⟨rfl, Vs0, X3.out, lo_nil _⟩)
      replace HRC := HRC.out
      rw [← H1.out] at HRC
      replace HRC := Lib.hid HRC
      clear HRW
      go_wp2_with fail
      refine (HRC.out).mono ?_
      rintro e w6 ⟨rfl, n, hix⟩
      obtain ⟨_, v, x6, _⟩ := hix
      have X6 := Lib.hid (show Sx w w6 g b pb xb rb W p1 { St0 with kind := 6, limit := -1, items := is } v from x6)
      clear x6 cp hmf HRC
      go_wp2_with fail
      go_meet
      exact ⟨_, X6.out⟩
  clear HRW X3 X_ H1
  obtain ⟨v1, x_⟩ := hcut
  have X4 := Lib.hid x_
  clear x_ cp
  have cp := X4.out.pcell
  generalize wc = w4 at *
  clear hmf
  go_wp2_with fail
  obtain ⟨V_w4, hW_, hb_, BS⟩ : ∃ W_, W_ = (w4.alloc (.cells #[.string ⟨#[102, 114, 111, 109]⟩] 9)) ∧ Below w4.heap.size w4 W_ ∧ Blk W_ (w4.heap.size) 9 #[.string ⟨#[102, 114, 111, 109]⟩] :=
    ⟨_, rfl, ((Below.refl _ _).alloc (Nat.le_refl _) _), (blk_new_at w4 (w4.heap.size) _ _ (by simp))⟩
  rw [← hW_]
  clear hW_
  have Xv := Lib.hid (X4.out.ext hb_)
  have hgl_ := X4.out.pr.gl
  have HM := Lib.hid (pmust_ [[102, 114, 111, 109]] (some ⟨w4.heap.size, 0, none⟩) 1 Xv.out.pr (Row.of_blk BS (Nat.zero_le _) 1 1 (Nat.le_refl _)) (by intro b' off e; injection e with e; injection e with e _; rw [← e]; simp; omega) (by decide))
  clear hb_ BS hgl_
  refine (HM.out).mono ?_
  rintro e w5 ⟨rfl, h_, hg_⟩
  have X5 := Lib.hid (Xv.out.parser (q := mustP W [102, 114, 111, 109] p1) h_ hg_)
  clear h_ hg_ Xv HM cp
  have cp := X5.out.pcell
  go_wp2_with fail
  refine (HN.out _ X5.out.pr).mono ?_
  rintro e w6 ⟨rfl, h_, hg_⟩
  have X6 := Lib.hid (X5.out.parser h_ hg_)
  clear h_ hg_ cp
  have cp := X6.out.pcell
  have q_ := X6.out.bx.cell 5
  have f_ := X6.out.bx.frozen 5
  have q_ : w6.cell? ⟨xb, 5, none⟩ = some (.string ⟨#[]⟩) := q_
  have R_ := X6.out.rows 5 (.string ⟨t.toArray⟩)
  have g_ := grown_set w6 ⟨xb, 5, none⟩ (.string ⟨t.toArray⟩)
  have X7 := Lib.hid (X6.out.set 5 (.string ⟨t.toArray⟩) (st' := { St0 with kind := 6, limit := -1, items := is, table := t }) (v' := v1) rfl (⟨R_.c, R_.on, R_.n, R_.e, R_.i, R_.w⟩))
  clear R_ g_
  go_upto_region 6 with fail
  clear q_ f_ cp
  generalize hw_ : w6.setCell ⟨xb, 5, none⟩ (.string ⟨t.toArray⟩) = w7 at *
  clear hw_
  have cp := X7.out.pcell
  clear X4 X5 X6 HN
  go_wp2_with fail
  have HI_ := Lib.hid (pis_ [106, 111, 105, 110] X7.out.pr)
  replace HI_ := HI_.out
  unfold isP at HI_
  obtain ⟨ok3, hok_⟩ : ∃ o, okIs W [106, 111, 105, 110] p2 = o := ⟨_, rfl⟩
  replace H3 := H3.out
  rw [hok_] at HI_ H3
  replace HI_ := Lib.hid HI_
  replace H3 := Lib.hid H3
  clear hok_
  refine (HI_.out).mono ?_
  rintro e w8 ⟨rfl, h_, hg_⟩
  have X8 := Lib.hid (X7.out.parser h_ hg_)
  clear h_ hg_ HI_ cp
  have cp := X8.out.pcell
  go_upto_if 18 with fail
  go_cut [27] from 19 to 27 (fun _ wx => ∃ v, Sx w wx g b pb xb rb W p3 { St0 with kind := 6, limit := -1, items := is, table := t, join := j, on := jo } v)
  case first =>
    cases ok3 with
    | false =>
      obtain ⟨rfl, rfl, rfl⟩ : j = [] ∧ jo = [] ∧ p3 = p2 := by have := H3.out; rw [if_neg (by simp)] at this; injection this with a c; injection a with a d; exact ⟨a, d, c⟩
      replace X8 := Lib.hid (show Sx w w8 g b pb xb rb W p3 { St0 with kind := 6, limit := -1, items := is, table := t } v1 from X8.out)
      go_wp2_with fail
      go_meet
      exact ⟨_, X8.out⟩
    | true =>
      have h3 := H3.out
      rw [if_pos rfl] at h3
      have HN := Lib.hid (fun w' (y : Pr w' g W b (stepP p2)) => pname_ y)
      replace HN := HN.out
      obtain ⟨⟨j', q⟩, ej⟩ : ∃ X, nameP W (stepP p2) = X := ⟨_, rfl⟩
      rw [ej] at h3 HN
      simp only at h3 HN
      have HX := Lib.hid (fun w' (y : Pr w' g W b (mustP W [111, 110] q)) => expr_ y)
      replace HX := HX.out
      obtain ⟨⟨es, r⟩, ee⟩ : ∃ X, exprP W (mustP W [111, 110] q) = X := ⟨_, rfl⟩
      rw [ee] at h3 HX
      simp only at h3 HX
      obtain ⟨rfl, rfl, rfl⟩ : j = j' ∧ jo = es ∧ p3 = r := by injection h3 with a c; injection a with a d; exact ⟨a, d, c⟩
      replace HN := Lib.hid HN
      replace HX := Lib.hid HX
      replace X8 := Lib.hid (show Sx w w8 g b pb xb rb W (stepP p2) { St0 with kind := 6, limit := -1, items := is, table := t } v1 from X8.out)
      clear ej ee h3 H3 X7
      go_wp2_with fail
      refine (HN.out _ X8.out.pr).mono ?_
      rintro e w9 ⟨rfl, h_, hg_⟩
      have X9 := Lib.hid (X8.out.parser h_ hg_)
      clear h_ hg_ cp
      have cp := X9.out.pcell
      have q_ := X9.out.bx.cell 6
      have f_ := X9.out.bx.frozen 6
      have q_ : w9.cell? ⟨xb, 6, none⟩ = some (.string ⟨#[]⟩) := q_
      have R_ := X9.out.rows 6 (.string ⟨j.toArray⟩)
      have g_ := grown_set w9 ⟨xb, 6, none⟩ (.string ⟨j.toArray⟩)
      have X10 := Lib.hid (X9.out.set 6 (.string ⟨j.toArray⟩) (st' := { St0 with kind := 6, limit := -1, items := is, table := t, join := j }) (v' := v1) rfl (⟨R_.c, R_.on, R_.n, R_.e, R_.i, R_.w⟩))
      clear R_ g_
      go_upto_region 8 with fail
      clear q_ f_ cp
      generalize hw_ : w9.setCell ⟨xb, 6, none⟩ (.string ⟨j.toArray⟩) = w10 at *
      clear hw_
      have cp := X10.out.pcell
      go_wp2_with fail
      obtain ⟨V_w10, hW_, hb_, BS⟩ : ∃ W_, W_ = (w10.alloc (.cells #[.string ⟨#[111, 110]⟩] 9)) ∧ Below w10.heap.size w10 W_ ∧ Blk W_ (w10.heap.size) 9 #[.string ⟨#[111, 110]⟩] :=
        ⟨_, rfl, ((Below.refl _ _).alloc (Nat.le_refl _) _), (blk_new_at w10 (w10.heap.size) _ _ (by simp))⟩
      rw [← hW_]
      clear hW_
      have Xv := Lib.hid (X10.out.ext hb_)
      have hgl_ := X10.out.pr.gl
      have HM := Lib.hid (pmust_ [[111, 110]] (some ⟨w10.heap.size, 0, none⟩) 1 Xv.out.pr (Row.of_blk BS (Nat.zero_le _) 1 1 (Nat.le_refl _)) (by intro b' off e; injection e with e; injection e with e _; rw [← e]; simp; omega) (by decide))
      clear hb_ BS hgl_
      refine (HM.out).mono ?_
      rintro e w11 ⟨rfl, h_, hg_⟩
      have X11 := Lib.hid (Xv.out.parser (q := mustP W [111, 110] q) h_ hg_)
      clear h_ hg_ Xv HM cp
      have cp := X11.out.pcell
      go_wp2_with fail
      refine (HX.out _ X11.out.pr).mono ?_
      rintro e w12 ⟨u, rfl, ho, _, h_, hg_⟩
      obtain ⟨A, cA, rfl⟩ := own_sl ho
      have X12 := Lib.hid (X11.out.parser h_ hg_)
      have HOE := Lib.hid (lib.own_base ho (Nat.zero_le _))
      clear h_ hg_ ho cp
      have cp := X12.out.pcell
      obtain ⟨A0, c0, hv⟩ := own_sl X12.out.own.on
      have q_ := X12.out.bx.cell 7
      have f_ := X12.out.bx.frozen 7
      have q_ : w12.cell? ⟨xb, 7, none⟩ = some (.slice A0 0 c0) := q_.trans (congrArg some hv)
      have R_ := X12.out.rows 7 (.slice A jo.length cA)
      have g_ := grown_set w12 ⟨xb, 7, none⟩ (.slice A jo.length cA)
      have X13 := Lib.hid (X12.out.set 7 (.slice A jo.length cA) (st' := { St0 with kind := 6, limit := -1, items := is, table := t, join := j, on := jo }) (v' := { v1 with on := .slice A jo.length cA }) rfl (⟨R_.c, ExO.kb HOE.out X12.out.bx notSt g_, R_.n, R_.e, R_.i, R_.w⟩))
      clear R_ g_
      go_wp2_with fail
      clear q_ f_ cp
      generalize hw_ : w12.setCell ⟨xb, 7, none⟩ (.slice A jo.length cA) = w13 at *
      clear hw_
      have cp := X13.out.pcell
      go_meet
      exact ⟨_, X13.out⟩
  clear X7 X8 H3
  obtain ⟨v3, x_⟩ := hcut
  have X14 := Lib.hid x_
  clear x_ cp
  have cp := X14.out.pcell
  generalize wc = w14 at *
  go_wp2_with fail
  refine (HE.out _ X14.out.pr).mono ?_
  rintro e w15 ⟨u, rfl, ho, h_, hg_⟩
  obtain ⟨A, cA, rfl⟩ := own_sl ho
  have X15 := Lib.hid (X14.out.parser h_ hg_)
  have HOE := Lib.hid (ho)
  clear h_ hg_ ho cp
  have cp := X15.out.pcell
  obtain ⟨A0, c0, hv⟩ := own_sl X15.out.own.w
  have q_ := X15.out.bx.cell 11
  have f_ := X15.out.bx.frozen 11
  have q_ : w15.cell? ⟨xb, 11, none⟩ = some (.slice A0 0 c0) := q_.trans (congrArg some hv)
  have R_ := X15.out.rows 11 (.slice A wh.length cA)
  have g_ := grown_set w15 ⟨xb, 11, none⟩ (.slice A wh.length cA)
  have X16 := Lib.hid (X15.out.set 11 (.slice A wh.length cA) (st' := { St0 with kind := 6, limit := -1, items := is, table := t, join := j, on := jo, wh := wh }) (v' := { v3 with w := .slice A wh.length cA }) rfl (⟨R_.c, R_.on, R_.n, R_.e, R_.i, ExO.kb HOE.out X15.out.bx notSt g_⟩))
  clear R_ g_
  go_upto_region 11 with fail
  clear q_ f_ cp
  generalize hw_ : w15.setCell ⟨xb, 11, none⟩ (.slice A wh.length cA) = w16 at *
  clear hw_
  have cp := X16.out.pcell
  clear X14 X15 HOE HE hv
  go_wp2_with fail
  have HI_ := Lib.hid (pis_ [103, 114, 111, 117, 112] X16.out.pr)
  replace HI_ := HI_.out
  unfold isP at HI_
  obtain ⟨ok5, hok_⟩ : ∃ o, okIs W [103, 114, 111, 117, 112] p4 = o := ⟨_, rfl⟩
  replace H5 := H5.out
  rw [hok_] at HI_ H5
  replace HI_ := Lib.hid HI_
  replace H5 := Lib.hid H5
  clear hok_
  refine (HI_.out).mono ?_
  rintro e w17 ⟨rfl, h_, hg_⟩
  have X17 := Lib.hid (X16.out.parser h_ hg_)
  clear h_ hg_ HI_ cp
  have cp := X17.out.pcell
  go_upto_if 32 with fail
  go_cut [38] from 33 to 38 (fun _ wx => ∃ v, Sx w wx g b pb xb rb W p5 { St0 with kind := 6, limit := -1, items := is, table := t, join := j, on := jo, wh := wh, group := gr } v)
  case first =>
    cases ok5 with
    | false =>
      obtain ⟨rfl, rfl⟩ : gr = [] ∧ p5 = p4 := by have := H5.out; rw [if_neg (by simp)] at this; injection this with a c; exact ⟨a, c⟩
      replace X17 := Lib.hid (show Sx w w17 g b pb xb rb W p5 { St0 with kind := 6, limit := -1, items := is, table := t, join := j, on := jo, wh := wh } _ from X17.out)
      go_wp2_with fail
      go_meet
      exact ⟨_, X17.out⟩
    | true =>
      have h5 := H5.out
      rw [if_pos rfl] at h5
      have HC := Lib.hid (fun w' (y : Pr w' g W b (mustP W [98, 121] (stepP p4))) => pcol_ y)
      replace HC := HC.out
      rw [← h5] at HC
      simp only at HC
      replace HC := Lib.hid HC
      replace X17 := Lib.hid (show Sx w w17 g b pb xb rb W (stepP p4) { St0 with kind := 6, limit := -1, items := is, table := t, join := j, on := jo, wh := wh } _ from X17.out)
      clear h5 H5 X16
      go_wp2_with fail
      obtain ⟨V_w17, hW_, hb_, BS⟩ : ∃ W_, W_ = (w17.alloc (.cells #[.string ⟨#[98, 121]⟩] 9)) ∧ Below w17.heap.size w17 W_ ∧ Blk W_ (w17.heap.size) 9 #[.string ⟨#[98, 121]⟩] :=
        ⟨_, rfl, ((Below.refl _ _).alloc (Nat.le_refl _) _), (blk_new_at w17 (w17.heap.size) _ _ (by simp))⟩
      rw [← hW_]
      clear hW_
      have Xv := Lib.hid (X17.out.ext hb_)
      have hgl_ := X17.out.pr.gl
      have HM := Lib.hid (pmust_ [[98, 121]] (some ⟨w17.heap.size, 0, none⟩) 1 Xv.out.pr (Row.of_blk BS (Nat.zero_le _) 1 1 (Nat.le_refl _)) (by intro b' off e; injection e with e; injection e with e _; rw [← e]; simp; omega) (by decide))
      clear hb_ BS hgl_
      refine (HM.out).mono ?_
      rintro e w18 ⟨rfl, h_, hg_⟩
      have X18 := Lib.hid (Xv.out.parser (q := mustP W [98, 121] (stepP p4)) h_ hg_)
      clear h_ hg_ Xv HM cp
      have cp := X18.out.pcell
      go_wp2_with fail
      refine (HC.out _ X18.out.pr).mono ?_
      rintro e w19 ⟨rfl, h_, hg_⟩
      have X19 := Lib.hid (X18.out.parser h_ hg_)
      clear h_ hg_ cp
      have cp := X19.out.pcell
      have q_ := X19.out.bx.cell 12
      have f_ := X19.out.bx.frozen 12
      have q_ : w19.cell? ⟨xb, 12, none⟩ = some (.string ⟨#[]⟩) := q_
      have R_ := X19.out.rows 12 (.string ⟨gr.toArray⟩)
      have g_ := grown_set w19 ⟨xb, 12, none⟩ (.string ⟨gr.toArray⟩)
      have X20 := Lib.hid (X19.out.set 12 (.string ⟨gr.toArray⟩) (st' := { St0 with kind := 6, limit := -1, items := is, table := t, join := j, on := jo, wh := wh, group := gr }) (v' := _) rfl (⟨R_.c, R_.on, R_.n, R_.e, R_.i, R_.w⟩))
      clear R_ g_
      go_wp2_with fail
      clear q_ f_ cp
      generalize hw_ : w19.setCell ⟨xb, 12, none⟩ (.string ⟨gr.toArray⟩) = w20 at *
      clear hw_
      have cp := X20.out.pcell
      go_meet
      exact ⟨_, X20.out⟩
  clear X16 X17 H5
  obtain ⟨v5, x_⟩ := hcut
  have X21 := Lib.hid x_
  clear x_ cp
  have cp := X21.out.pcell
  generalize wc = w21 at *
  go_wp2_with fail
  have HI_ := Lib.hid (pis_ [111, 114, 100, 101, 114] X21.out.pr)
  replace HI_ := HI_.out
  unfold isP at HI_
  obtain ⟨ok6, hok_⟩ : ∃ o, okIs W [111, 114, 100, 101, 114] p5 = o := ⟨_, rfl⟩
  replace H6 := H6.out
  rw [hok_] at HI_ H6
  replace HI_ := Lib.hid HI_
  replace H6 := Lib.hid H6
  clear hok_
  refine (HI_.out).mono ?_
  rintro e w22 ⟨rfl, h_, hg_⟩
  have X22 := Lib.hid (X21.out.parser h_ hg_)
  clear h_ hg_ HI_ cp
  have cp := X22.out.pcell
  go_upto_if 40 with fail
  go_cut [49] from 41 to 49 (fun _ wx => ∃ v, Sx w wx g b pb xb rb W p6 { St0 with kind := 6, limit := -1, items := is, table := t, join := j, on := jo, wh := wh, group := gr, order := ord, desc := dsc } v)
  case first =>
    cases ok6 with
    | false =>
      obtain ⟨rfl, rfl, rfl⟩ : ord = [] ∧ dsc = false ∧ p6 = p5 := by have := H6.out; rw [if_neg (by simp)] at this; injection this with a c; injection a with a d; exact ⟨a, d, c⟩
      replace X22 := Lib.hid (show Sx w w22 g b pb xb rb W p6 { St0 with kind := 6, limit := -1, items := is, table := t, join := j, on := jo, wh := wh, group := gr } _ from X22.out)
      go_wp2_with fail
      go_meet
      exact ⟨_, X22.out⟩
    | true =>
      have h6 := H6.out
      rw [if_pos rfl] at h6
      have HC := Lib.hid (fun w' (y : Pr w' g W b (mustP W [98, 121] (stepP p5))) => pcol_ y)
      replace HC := HC.out
      obtain ⟨⟨o', q⟩, ej⟩ : ∃ X, colP W (mustP W [98, 121] (stepP p5)) = X := ⟨_, rfl⟩
      rw [ej] at h6 HC
      simp only at h6 HC
      obtain ⟨rfl, hdsc, hp6⟩ : ord = o' ∧ okIs W [100, 101, 115, 99] q = dsc ∧ isP W [100, 101, 115, 99] q = p6 := by injection h6 with a c; injection a with a d; exact ⟨a, d.symm, c.symm⟩
      have HD := Lib.hid (fun w' (y : Pr w' g W b q) => pis_ [100, 101, 115, 99] y)
      replace HD := HD.out
      rw [hdsc, hp6] at HD
      replace HC := Lib.hid HC
      replace HD := Lib.hid HD
      replace X22 := Lib.hid (show Sx w w22 g b pb xb rb W (stepP p5) { St0 with kind := 6, limit := -1, items := is, table := t, join := j, on := jo, wh := wh, group := gr } _ from X22.out)
      clear h6 H6 X21 ej hdsc hp6
      go_wp2_with fail
      obtain ⟨V_w22, hW_, hb_, BS⟩ : ∃ W_, W_ = (w22.alloc (.cells #[.string ⟨#[98, 121]⟩] 9)) ∧ Below w22.heap.size w22 W_ ∧ Blk W_ (w22.heap.size) 9 #[.string ⟨#[98, 121]⟩] :=
        ⟨_, rfl, ((Below.refl _ _).alloc (Nat.le_refl _) _), (blk_new_at w22 (w22.heap.size) _ _ (by simp))⟩
      rw [← hW_]
      clear hW_
      have Xv := Lib.hid (X22.out.ext hb_)
      have hgl_ := X22.out.pr.gl
      have HM := Lib.hid (pmust_ [[98, 121]] (some ⟨w22.heap.size, 0, none⟩) 1 Xv.out.pr (Row.of_blk BS (Nat.zero_le _) 1 1 (Nat.le_refl _)) (by intro b' off e; injection e with e; injection e with e _; rw [← e]; simp; omega) (by decide))
      clear hb_ BS hgl_
      refine (HM.out).mono ?_
      rintro e w23 ⟨rfl, h_, hg_⟩
      have X23 := Lib.hid (Xv.out.parser (q := mustP W [98, 121] (stepP p5)) h_ hg_)
      clear h_ hg_ Xv HM cp
      have cp := X23.out.pcell
      go_wp2_with fail
      refine (HC.out _ X23.out.pr).mono ?_
      rintro e w24 ⟨rfl, h_, hg_⟩
      have X24 := Lib.hid (X23.out.parser h_ hg_)
      clear h_ hg_ cp
      have cp := X24.out.pcell
      have q_ := X24.out.bx.cell 13
      have f_ := X24.out.bx.frozen 13
      have q_ : w24.cell? ⟨xb, 13, none⟩ = some (.string ⟨#[]⟩) := q_
      have R_ := X24.out.rows 13 (.string ⟨ord.toArray⟩)
      have g_ := grown_set w24 ⟨xb, 13, none⟩ (.string ⟨ord.toArray⟩)
      have X25 := Lib.hid (X24.out.set 13 (.string ⟨ord.toArray⟩) (st' := { St0 with kind := 6, limit := -1, items := is, table := t, join := j, on := jo, wh := wh, group := gr, order := ord }) (v' := _) rfl (⟨R_.c, R_.on, R_.n, R_.e, R_.i, R_.w⟩))
      clear R_ g_
      go_upto_region 17 with fail
      clear q_ f_ cp
      generalize hw_ : w24.setCell ⟨xb, 13, none⟩ (.string ⟨ord.toArray⟩) = w25 at *
      clear hw_
      have cp := X25.out.pcell
      go_wp2_with fail
      refine (HD.out _ X25.out.pr).mono ?_
      rintro e w26 ⟨rfl, h_, hg_⟩
      have X26 := Lib.hid (X25.out.parser h_ hg_)
      clear h_ hg_ cp
      have cp := X26.out.pcell
      have q_ := X26.out.bx.cell 14
      have f_ := X26.out.bx.frozen 14
      have q_ : w26.cell? ⟨xb, 14, none⟩ = some (.bool false) := q_
      have R_ := X26.out.rows 14 (.bool dsc)
      have g_ := grown_set w26 ⟨xb, 14, none⟩ (.bool dsc)
      have X27 := Lib.hid (X26.out.set 14 (.bool dsc) (st' := { St0 with kind := 6, limit := -1, items := is, table := t, join := j, on := jo, wh := wh, group := gr, order := ord, desc := dsc }) (v' := _) rfl (⟨R_.c, R_.on, R_.n, R_.e, R_.i, R_.w⟩))
      clear R_ g_
      go_wp2_with fail
      clear q_ f_ cp
      generalize hw_ : w26.setCell ⟨xb, 14, none⟩ (.bool dsc) = w27 at *
      clear hw_
      have cp := X27.out.pcell
      go_meet
      exact ⟨_, X27.out⟩
  clear X21 X22 H6
  obtain ⟨v6, x_⟩ := hcut
  have X28 := Lib.hid x_
  clear x_ cp
  have cp := X28.out.pcell
  generalize wc = w28 at *
  go_wp2_with fail
  have HI_ := Lib.hid (pis_ [108, 105, 109, 105, 116] X28.out.pr)
  replace HI_ := HI_.out
  unfold isP at HI_
  obtain ⟨ok7, hok_⟩ : ∃ o, okIs W [108, 105, 109, 105, 116] p6 = o := ⟨_, rfl⟩
  replace H7 := H7.out
  rw [hok_] at HI_ H7
  replace HI_ := Lib.hid HI_
  replace H7 := Lib.hid H7
  clear hok_
  refine (HI_.out).mono ?_
  rintro e w29 ⟨rfl, h_, hg_⟩
  have X29 := Lib.hid (X28.out.parser h_ hg_)
  clear h_ hg_ HI_ cp
  have cp := X29.out.pcell
  go_upto_if 51 with fail
  go_cut [61] from 52 to 61 (fun _ wx => ∃ v, Sx w wx g b pb xb rb W p7 { St0 with kind := 6, items := is, table := t, join := j, on := jo, wh := wh, group := gr, order := ord, desc := dsc, limit := lim } v)
  case first =>
    cases ok7 with
    | false =>
      obtain ⟨rfl, rfl⟩ : lim = -1 ∧ p7 = p6 := by have := H7.out; rw [if_neg (by simp)] at this; injection this with a c; exact ⟨a, c⟩
      replace X29 := Lib.hid (show Sx w w29 g b pb xb rb W p7 { St0 with kind := 6, items := is, table := t, join := j, on := jo, wh := wh, group := gr, order := ord, desc := dsc, limit := -1 } _ from X29.out)
      go_wp2_with fail
      go_meet
      exact ⟨_, X29.out⟩
    | true =>
      have h7 := H7.out
      rw [if_pos rfl] at h7
      have hnp := (show numP W (stepP p6) = if (cur W (stepP p6)).k = 2 then stepP p6 else failP 6 (stepP p6) from rfl)
      obtain ⟨q, hq⟩ : ∃ q, numP W (stepP p6) = q := ⟨_, rfl⟩
      rw [hq] at h7 hnp
      obtain ⟨hlim, hp7⟩ : (cur W q).n = lim ∧ nextP W q = p7 := by injection h7 with a c; exact ⟨a.symm, c.symm⟩
      have HNX := Lib.hid (fun w' (y : Pr w' g W b q) => pnext_ y)
      replace HNX := HNX.out
      obtain ⟨x2, hx2⟩ : ∃ x, cur W q = x := ⟨_, rfl⟩
      rw [hp7, hx2] at HNX
      rw [hx2] at hlim
      obtain rfl : x2.n = lim := hlim
      replace X29 := Lib.hid (show Sx w w29 g b pb xb rb W (stepP p6) { St0 with kind := 6, limit := -1, items := is, table := t, join := j, on := jo, wh := wh, group := gr, order := ord, desc := dsc } _ from X29.out)
      have HWD := Lib.hid (pword_ X29.out.pr)
      replace HWD := HWD.out
      obtain ⟨x1, hx1⟩ : ∃ x, cur W (stepP p6) = x := ⟨_, rfl⟩
      rw [hx1] at HWD hnp
      replace HWD := Lib.hid HWD
      replace HNX := Lib.hid HNX
      have HNP := Lib.hid hnp
      have fe0 := wfield0
      have fe1 := wfield1
      clear h7 H7 X28 hq hx1 hx2 hp7 hnp
      go_wp2_with fail
      refine (HWD.out).mono ?_
      rintro e w30 ⟨rfl, hb30⟩
      have X30 := Lib.hid (X29.out.ext hb30)
      clear hb30 cp HWD
      have cp := X30.out.pcell
      unfold wordV at *
      by_cases hk : x1.k = 2
      case pos =>
        have hd : (x1.k != 2) = false := by simpa using hk
        obtain rfl : q = stepP p6 := by rw [HNP.out, if_pos hk]
        clear hk
        go_wp2_with fail
        refine (HNX.out _ X30.out.pr).mono ?_
        rintro e w31 ⟨rfl, h_, hg_⟩
        have X31 := Lib.hid (X30.out.parser h_ hg_)
        clear h_ hg_ cp
        have cp := X31.out.pcell
        have q_ := X31.out.bx.cell 15
        have f_ := X31.out.bx.frozen 15
        have q_ : w31.cell? ⟨xb, 15, none⟩ = some (.int .i64 (-1)) := q_
        have R_ := X31.out.rows 15 (.int .i64 x2.n)
        have g_ := grown_set w31 ⟨xb, 15, none⟩ (.int .i64 x2.n)
        have X32 := Lib.hid (X31.out.set 15 (.int .i64 x2.n) (st' := { St0 with kind := 6, items := is, table := t, join := j, on := jo, wh := wh, group := gr, order := ord, desc := dsc, limit := x2.n }) (v' := _) rfl (⟨R_.c, R_.on, R_.n, R_.e, R_.i, R_.w⟩))
        clear R_ g_
        go_wp2_with fail
        clear q_ f_ cp
        generalize hw_ : w31.setCell ⟨xb, 15, none⟩ (.int .i64 x2.n) = w32 at *
        clear hw_
        have cp := X32.out.pcell
        go_meet
        exact ⟨_, X32.out⟩
      case neg =>
        have hd : (x1.k != 2) = true := by simpa using hk
        obtain rfl : q = failP 6 (stepP p6) := by rw [HNP.out, if_neg hk]
        have HFL := Lib.hid (pfail_ 6 X30.out.pr)
        clear hk
        go_wp2_with fail
        refine (HFL.out).mono ?_
        rintro e w35 ⟨rfl, h_, hg_⟩
        have X35 := Lib.hid (X30.out.parser h_ hg_)
        clear h_ hg_ cp
        have cp := X35.out.pcell
        go_wp2_with fail
        refine (HNX.out _ X35.out.pr).mono ?_
        rintro e w31 ⟨rfl, h_, hg_⟩
        have X31 := Lib.hid (X35.out.parser h_ hg_)
        clear h_ hg_ cp
        have cp := X31.out.pcell
        have q_ := X31.out.bx.cell 15
        have f_ := X31.out.bx.frozen 15
        have q_ : w31.cell? ⟨xb, 15, none⟩ = some (.int .i64 (-1)) := q_
        have R_ := X31.out.rows 15 (.int .i64 x2.n)
        have g_ := grown_set w31 ⟨xb, 15, none⟩ (.int .i64 x2.n)
        have X32 := Lib.hid (X31.out.set 15 (.int .i64 x2.n) (st' := { St0 with kind := 6, items := is, table := t, join := j, on := jo, wh := wh, group := gr, order := ord, desc := dsc, limit := x2.n }) (v' := _) rfl (⟨R_.c, R_.on, R_.n, R_.e, R_.i, R_.w⟩))
        clear R_ g_
        go_wp2_with fail
        clear q_ f_ cp
        generalize hw_ : w31.setCell ⟨xb, 15, none⟩ (.int .i64 x2.n) = w32 at *
        clear hw_
        have cp := X32.out.pcell
        go_meet
        exact ⟨_, X32.out⟩
  clear X28 X29 H7
  obtain ⟨v7, x_⟩ := hcut
  have X40 := Lib.hid x_
  clear x_ cp
  have cp := X40.out.pcell
  generalize wc = w40 at *
  have HBRx := Lib.hid X40.out.br
  have HBXx := Lib.hid X40.out.bx
  obtain ⟨wz, hwz, BN, hgz⟩ := Blk.setRow HBRx.out (cellsSt ({ St0 with kind := 6, items := is, table := t, join := j, on := jo, wh := wh, group := gr, order := ord, desc := dsc, limit := lim }) (v7))
  have HWZ := Lib.hid hwz
  have HBN := Lib.hid BN
  have HPZ := Lib.hid (X40.out.pr.grown hgz (by have := X40.out.r0; simp; omega) (by have := X40.out.r0; simp; omega))
  have HGZ := Lib.hid (grown_new X40.out.fr hgz X40.out.r0)
  have HOZ := Lib.hid (X40.out.own.kb HBRx.out notSt hgz)
  have H1Z := Lib.hid (st_one X40.out.own)
  clear BN hgz hwz cp
  go_wp2_with (first | ((with_reducible show wpList _ _ _ (Oper.mk _ (Op.load 34 _) _ _ _ _ :: _) _ _); refine wpList_load_row rfl 34 _ rfl xb rfl 34 (cellsSt ({ St0 with kind := 6, items := is, table := t, join := j, on := jo, wh := wh, group := gr, order := ord, desc := dsc, limit := lim }) (v7)) (0, 0) _ HBXx.out Tryz.underlying34 rfl (by kernel_rfl) ?_) | ((with_reducible show wpList _ _ _ (Oper.mk _ (Op.store 34 _ _) _ _ _ _ :: _) _ _); refine wpList_store_row rfl 34 _ _ rfl rb (cellsSt ({ St0 with kind := 6, items := is, table := t, join := j, on := jo, wh := wh, group := gr, order := ord, desc := dsc, limit := lim }) (v7)) rfl rfl 34 _ HBRx.out (by kernel_rfl) rfl H1Z.out ?_; rw [← HWZ.out]))
  refine bodyPost_ret (v := .agg (cellsSt ({ St0 with kind := 6, items := is, table := t, join := j, on := jo, wh := wh, group := gr, order := ord, desc := dsc, limit := lim }) (v7))) ?_ ?_ ?_
  · exact results_cell_row Tryz.results30 _ wz rb 34 (cellsSt ({ St0 with kind := 6, items := is, table := t, join := j, on := jo, wh := wh, group := gr, order := ord, desc := dsc, limit := lim }) (v7)) (0, 0) _ rfl HBN.out Tryz.underlying34 rfl (by kernel_rfl)
  · rfl
  · exact ⟨_, rfl, HOZ.out, HPZ.out, HGZ.out⟩
end Go.Proofs.YtfnceamkephpjaaGreat.pg
