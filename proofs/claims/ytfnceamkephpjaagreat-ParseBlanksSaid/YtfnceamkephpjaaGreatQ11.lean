/- Statements: update. Printed by genq11.py. -/
import Derived.Test.YtfnceamkephpjaaGreatQ10
namespace Go.Proofs.YtfnceamkephpjaaGreat.pg
open Go.ChangeShapes Go.WideShapes Go.ChangeAt Go.RowKit Go.Proofs.YtfnceamkephpjaaGreat.lib Go.Proofs.YtfnceamkephpjaaGreat.lx
set_option linter.unusedVariables false

set_option maxRecDepth 1000000 in
set_option maxHeartbeats 4000000 in
theorem update_ : StmC 28 (fun g => #[.pointer (some ⟨g, 0, none⟩)]) updateP := by
  intro w g W b p h
  have H := Lib.hid h
  have hgl := h.gl
  have hbl := h.bl
  have hr := (show updateP W p = match nameP W p with
    | (t, p1) => match rowAll W (updDo W) ([], []) (mustP W [115, 101, 116] p1) with
      | (s, p3) => match whereP W p3 with
        | (e, p4) => ({ St0 with kind := 4, table := t, names := s.1, exprs := s.2, wh := e }, p4) from rfl)
  have HN := Lib.hid (fun w' (y : Pr w' g W b p) => pname_ y)
  replace HN := HN.out
  obtain ⟨⟨t, q⟩, hq⟩ : ∃ X, nameP W p = X := ⟨_, rfl⟩
  rw [hq] at hr HN
  simp only at hr HN
  have HRW := Lib.hid (fun (pb xb rb : Nat) (w' : World) (x : IxU w g b pb xb rb W { St0 with kind := 4, table := t } 0 ([], []) (mustP W [115, 101, 116] q) w') => row_ 52 (.pointer (some ⟨xb, 0, none⟩)) (.pointer (some ⟨pb, 0, none⟩)) W (updDo W) (IxU w g b pb xb rb W { St0 with kind := 4, table := t }) g b (enters_of Tryz.func52 (by kernel_rfl) rfl)
    (fun n s p w' h => by obtain ⟨_, _, v, h, _⟩ := h; exact h.pr) (fun n s p q w' w'' h hp hg => by obtain ⟨h0, h1, v, h, hl⟩ := h; exact ⟨h0, h1, v, h.parser hp hg, hl⟩) (fun n s p w' hn h => upd1_ w g b pb xb rb W { St0 with kind := 4, table := t } n s p w' hn h) ([], []) _ w' x)
  replace HRW := HRW.out
  obtain ⟨⟨⟨s1, s2⟩, r⟩, hq2⟩ : ∃ X, rowAll W (updDo W) ([], []) (mustP W [115, 101, 116] q) = X := ⟨_, rfl⟩
  rw [hq2] at hr HRW
  simp only at hr HRW
  have HE := Lib.hid (fun w' (y : Pr w' g W b r) => where_ y)
  replace HE := HE.out
  obtain ⟨⟨es, r2⟩, hq3⟩ : ∃ X, whereP W r = X := ⟨_, rfl⟩
  rw [hq3] at hr HE
  simp only at hr HE
  unfold StmP
  rw [hr]
  replace HN := Lib.hid HN
  replace HRW := Lib.hid HRW
  replace HE := Lib.hid HE
  have hmf : ∀ (fn : Fn) (first cap : Array Value) (w : World), (Instr.makeFunc fn first cap).run Tryz.prog w = .ok (.func fn first cap) w := fun _ _ _ _ => rfl
  clear hr hq hq2 hq3 h
  go_enter Tryz.func28, Tryz.ntmps28
  go_upto_region 1 with fail
  obtain ⟨W1, hW_, hb1, BP, BR⟩ : ∃ W_, W_ = ((w.alloc (.cells #[.pointer (some ⟨g, 0, none⟩)] 50)).alloc (.cells #[.int .i64 0, .string ⟨#[]⟩, .slice none 0 0, .int .i64 0, .bool false, .string ⟨#[]⟩, .string ⟨#[]⟩, .slice none 0 0, .slice none 0 0, .slice none 0 0, .slice none 0 0, .slice none 0 0, .string ⟨#[]⟩, .string ⟨#[]⟩, .bool false, .int .i64 0, .string ⟨#[]⟩] 34)) ∧ Below w.heap.size w W_ ∧ Blk W_ (w.heap.size) 50 #[.pointer (some ⟨g, 0, none⟩)] ∧ Blk W_ (w.heap.size + 1) 34 #[.int .i64 0, .string ⟨#[]⟩, .slice none 0 0, .int .i64 0, .bool false, .string ⟨#[]⟩, .string ⟨#[]⟩, .slice none 0 0, .slice none 0 0, .slice none 0 0, .slice none 0 0, .slice none 0 0, .string ⟨#[]⟩, .string ⟨#[]⟩, .bool false, .int .i64 0, .string ⟨#[]⟩] :=
    ⟨_, rfl, (((Below.refl _ _).alloc (Nat.le_refl _) _).alloc (by simp; try omega) _), ((blk_new_at w (w.heap.size) _ _ (by simp)).alloc _), (blk_new_at (w.alloc (.cells #[.pointer (some ⟨g, 0, none⟩)] 50)) (w.heap.size + 1) _ _ (by simp))⟩
  rw [← hW_]
  clear hW_
  obtain ⟨pb, hpb⟩ : ∃ pb, w.heap.size = pb := ⟨_, rfl⟩
  have HP_w1 := Lib.hid (H.out.ext hb1)
  have HG_w1 := Lib.hid (grown_of hb1 (some g))
  rw [hpb] at BR BP ⊢
  have hwp : w.heap.size ≤ pb := by omega
  have hwr : w.heap.size ≤ pb + 1 := by omega
  have HBP_w1 := Lib.hid BP
  have HBR_w1 := Lib.hid BR
  have hgp : g < pb := by omega
  have hbp : b < pb := by omega
  have hgw := hgl
  have hbw := hbl
  have HLR := Lib.hid BR.lt
  have cp := BP.cell 0
  clear hb1 BR BP hpb H
  generalize W1 = w1 at *
  obtain ⟨rb, hrb⟩ : ∃ rb, rb = pb + 1 := ⟨_, rfl⟩
  rw [← hrb] at HBR_w1 hwr ⊢
  have hgr : g < rb := by omega
  have hbr : b < rb := by omega
  have hpr : pb ≠ rb := by omega
  clear hrb
  go_wp2_with fail
  refine (HN.out _ HP_w1.out).mono ?_
  rintro e w3 ⟨rfl, h_, hg_⟩
  have HBP_w3 := Lib.hid (HBP_w1.out.grown hg_ (by simp; omega))
  have HP_w3 := Lib.hid h_
  have HG_w3 := Lib.hid (HG_w1.out.trans hg_)
  have HBR_w3 := Lib.hid (HBR_w1.out.grown hg_ (by simp; omega))
  clear h_ hg_
  clear cp
  have cp := HBP_w3.out.cell 0
  go_upto_region 2 with fail
  obtain ⟨W4, hW_, hb_, BX⟩ : ∃ W_, W_ = (w3.alloc (.cells #[.int .i64 4, .string ⟨#[]⟩, .slice none 0 0, .int .i64 0, .bool false, .string ⟨t.toArray⟩, .string ⟨#[]⟩, .slice none 0 0, .slice none 0 0, .slice none 0 0, .slice none 0 0, .slice none 0 0, .string ⟨#[]⟩, .string ⟨#[]⟩, .bool false, .int .i64 0, .string ⟨#[]⟩] 34)) ∧ Below w3.heap.size w3 W_ ∧ Blk W_ (w3.heap.size) 34 #[.int .i64 4, .string ⟨#[]⟩, .slice none 0 0, .int .i64 0, .bool false, .string ⟨t.toArray⟩, .string ⟨#[]⟩, .slice none 0 0, .slice none 0 0, .slice none 0 0, .slice none 0 0, .slice none 0 0, .string ⟨#[]⟩, .string ⟨#[]⟩, .bool false, .int .i64 0, .string ⟨#[]⟩] :=
    ⟨_, rfl, ((Below.refl _ _).alloc (Nat.le_refl _) _), (blk_new_at w3 (w3.heap.size) _ _ (by simp))⟩
  rw [← hW_]
  clear hW_
  have X_ := Lib.hid (show Sx w W4 g b pb w3.heap.size rb W q { St0 with kind := 4, table := t } Vs0 from ⟨HG_w3.out.trans (grown_of hb_ _), HP_w3.out.ext hb_, HBP_w3.out.ext hb_, BX, HBR_w3.out.ext hb_, sto_0 _ ⟨rfl, rfl, rfl, rfl, rfl, rfl⟩, hgw, hbw, hwp, HG_w3.out.size, hwr, by have := HBR_w3.out.lt; omega, by have := HBP_w3.out.lt; omega⟩)
  obtain ⟨xb, hxb⟩ : ∃ xb, w3.heap.size = xb := ⟨_, rfl⟩
  replace X_ := X_.out
  rw [hxb] at X_ ⊢
  replace X_ := Lib.hid X_
  clear hb_ BX hxb cp
  have cp := X_.out.pcell
  generalize W4 = w4 at *
  clear HBP_w1 HBR_w1 HP_w1 HBP_w3 HBR_w3 HP_w3 HG_w1 HG_w3 HLR HN hwp hwr hpr
  go_wp2_with fail
  obtain ⟨V_w4, hW_, hb_, BS⟩ : ∃ W_, W_ = (w4.alloc (.cells #[.string ⟨#[115, 101, 116]⟩] 9)) ∧ Below w4.heap.size w4 W_ ∧ Blk W_ (w4.heap.size) 9 #[.string ⟨#[115, 101, 116]⟩] :=
    ⟨_, rfl, ((Below.refl _ _).alloc (Nat.le_refl _) _), (blk_new_at w4 (w4.heap.size) _ _ (by simp))⟩
  rw [← hW_]
  clear hW_
  have Xv := Lib.hid (X_.out.ext hb_)
  have hgl_ := X_.out.pr.gl
  have HM := Lib.hid (pmust_ [[115, 101, 116]] (some ⟨w4.heap.size, 0, none⟩) 1 Xv.out.pr (Row.of_blk BS (Nat.zero_le _) 1 1 (Nat.le_refl _)) (by intro b' off e; injection e with e; injection e with e _; rw [← e]; simp; omega) (by decide))
  clear hb_ BS hgl_
  refine (HM.out).mono ?_
  rintro e w5 ⟨rfl, h_, hg_⟩
  have X5 := Lib.hid (Xv.out.parser (q := mustP W [115, 101, 116] q) h_ hg_)
  clear h_ hg_ Xv HM cp
  have cp := X5.out.pcell
  have HRC := Lib.hid (HRW.out pb xb rb w5 ⟨rfl, rfl, Vs0, X5.out, lo_nil _⟩)
  clear HRW
  go_wp2_with fail
  refine (HRC.out).mono ?_
  rintro e w6 ⟨rfl, n, hix⟩
  obtain ⟨_, _, v, x6, _⟩ := hix
  have X6 := Lib.hid (show Sx w w6 g b pb xb rb W r { St0 with kind := 4, table := t, names := s1, exprs := s2 } v from x6)
  clear x6 cp hmf HRC
  have cp := X6.out.pcell
  have HEC := Lib.hid (HE.out w6 X6.out.pr)
  go_wp2_with fail
  refine (HEC.out).mono ?_
  rintro e w7 ⟨u, rfl, ho, h_, hg_⟩
  obtain ⟨A, c, rfl⟩ := own_sl ho
  obtain ⟨A0, c0, hv⟩ := own_sl X6.out.own.w
  have X7 := Lib.hid (X6.out.parser h_ hg_)
  have HOE := Lib.hid ho
  clear h_ hg_ ho cp
  have cp := X7.out.pcell
  have q_ := X7.out.bx.cell 11
  have f_ := X7.out.bx.frozen 11
  have q_ : w7.cell? ⟨xb, 11, none⟩ = some (.slice A0 0 c0) := q_.trans (congrArg some hv)
  have R_ := X7.out.rows 11 (.slice A es.length c)
  have g_ := grown_set w7 ⟨xb, 11, none⟩ (.slice A es.length c)
  have X8 := Lib.hid (X7.out.set 11 (.slice A es.length c) (st' := { St0 with kind := 4, table := t, names := s1, exprs := s2, wh := es }) (v' := { v with w := .slice A es.length c }) rfl (⟨R_.c, R_.on, R_.n, R_.e, R_.i, HOE.out.kb X7.out.bx notSt g_⟩))
  clear R_ g_
  go_upto_region 5 with fail
  clear q_ f_ cp
  generalize hw_ : w7.setCell ⟨xb, 11, none⟩ (.slice A es.length c) = w8 at *
  clear hw_
  have cp := X8.out.pcell
  have HBRx := Lib.hid X8.out.br
  have HBXx := Lib.hid X8.out.bx
  obtain ⟨wz, hwz, BN, hgz⟩ := Blk.setRow HBRx.out (cellsSt ({ St0 with kind := 4, table := t, names := s1, exprs := s2, wh := es }) ({ v with w := .slice A es.length c }))
  have HWZ := Lib.hid hwz
  have HBN := Lib.hid BN
  have HPZ := Lib.hid (X8.out.pr.grown hgz (by have := X8.out.r0; simp; omega) (by have := X8.out.r0; simp; omega))
  have HGZ := Lib.hid (grown_new X8.out.fr hgz X8.out.r0)
  have HOZ := Lib.hid (X8.out.own.kb HBRx.out notSt hgz)
  have H1Z := Lib.hid (st_one X8.out.own)
  clear BN hgz hwz cp
  go_wp2_with (first | ((with_reducible show wpList _ _ _ (Oper.mk _ (Op.load 34 _) _ _ _ _ :: _) _ _); refine wpList_load_row rfl 34 _ rfl xb rfl 34 (cellsSt ({ St0 with kind := 4, table := t, names := s1, exprs := s2, wh := es }) ({ v with w := .slice A es.length c })) (0, 0) _ HBXx.out Tryz.underlying34 rfl (by kernel_rfl) ?_) | ((with_reducible show wpList _ _ _ (Oper.mk _ (Op.store 34 _ _) _ _ _ _ :: _) _ _); refine wpList_store_row rfl 34 _ _ rfl rb (cellsSt ({ St0 with kind := 4, table := t, names := s1, exprs := s2, wh := es }) ({ v with w := .slice A es.length c })) rfl rfl 34 _ HBRx.out (by kernel_rfl) rfl H1Z.out ?_; rw [← HWZ.out]))
  refine bodyPost_ret (v := .agg (cellsSt ({ St0 with kind := 4, table := t, names := s1, exprs := s2, wh := es }) ({ v with w := .slice A es.length c }))) ?_ ?_ ?_
  · exact results_cell_row Tryz.results28 _ wz rb 34 (cellsSt ({ St0 with kind := 4, table := t, names := s1, exprs := s2, wh := es }) ({ v with w := .slice A es.length c })) (0, 0) _ rfl HBN.out Tryz.underlying34 rfl (by kernel_rfl)
  · rfl
  · exact ⟨_, rfl, HOZ.out, HPZ.out, HGZ.out⟩
end Go.Proofs.YtfnceamkephpjaaGreat.pg
