/- Statements: insert, update; those of one word. Printed by genq10.py. -/
import Derived.Test.YtfnceamkephpjaaGreatQ9
import Derived.Shelf.Abstract
namespace Go.Proofs.YtfnceamkephpjaaGreat.pg
open Go.ChangeShapes Go.WideShapes Go.ChangeAt Go.RowKit Go.Proofs.YtfnceamkephpjaaGreat.lib Go.Proofs.YtfnceamkephpjaaGreat.lx
set_option linter.unusedVariables false

/-- a statement's cells are cells -/
theorem st_one {w : World} {st : St} {v : Vs} (h : StO w st v) : (cellsSt st v).all (·.oneCell') = true := by
  obtain ⟨c, on, n, e, i, wh⟩ := v
  obtain ⟨h1, h2, h3, ⟨_, h4, _⟩, ⟨_, h5, _⟩, h6⟩ := h
  obtain ⟨_, _, rfl⟩ := own_sl h1
  obtain ⟨_, _, rfl⟩ := own_sl h2
  obtain ⟨_, _, rfl⟩ := own_sl h3
  obtain ⟨_, _, rfl⟩ := own_sl h4
  obtain ⟨_, _, rfl⟩ := own_sl h5
  obtain ⟨_, _, rfl⟩ := own_sl h6
  simp [cellsSt, Value.oneCell']
set_option maxRecDepth 1000000 in
theorem bare_ (k : Int) (bx : Nat) {w : World} {g : Nat} {W : List Wd} {b : Nat} {p : Pp} (h : Pr w g W b p) (hc : w.cell? ⟨bx, 0, none⟩ = some (.int .i64 k)) (hx : bx < w.heap.size) :
    Calls Tryz.prog 24 #[.pointer (some ⟨bx, 0, none⟩)] w (StmP (bareP k) g W b p w) := by
  have H := Lib.hid h
  have hgl := h.gl
  have hbl := h.bl
  unfold StmP
  clear h
  go_enter Tryz.func24, Tryz.ntmps24
  go_upto_region 1 with fail
  obtain ⟨W1, hW_, hb1, BR⟩ : ∃ W_, W_ = (w.alloc (.cells #[.int .i64 0, .string ⟨#[]⟩, .slice none 0 0, .int .i64 0, .bool false, .string ⟨#[]⟩, .string ⟨#[]⟩, .slice none 0 0, .slice none 0 0, .slice none 0 0, .slice none 0 0, .slice none 0 0, .string ⟨#[]⟩, .string ⟨#[]⟩, .bool false, .int .i64 0, .string ⟨#[]⟩] 34)) ∧ Below w.heap.size w W_ ∧ Blk W_ (w.heap.size) 34 #[.int .i64 0, .string ⟨#[]⟩, .slice none 0 0, .int .i64 0, .bool false, .string ⟨#[]⟩, .string ⟨#[]⟩, .slice none 0 0, .slice none 0 0, .slice none 0 0, .slice none 0 0, .slice none 0 0, .string ⟨#[]⟩, .string ⟨#[]⟩, .bool false, .int .i64 0, .string ⟨#[]⟩] :=
    ⟨_, rfl, ((Below.refl _ _).alloc (Nat.le_refl _) _), (blk_new_at w (w.heap.size) _ _ (by simp))⟩
  rw [← hW_]
  clear hW_
  obtain ⟨rb, hrb⟩ : ∃ rb, w.heap.size = rb := ⟨_, rfl⟩
  have hcx := (hb1.cell (p := ⟨bx, 0, none⟩) (by exact hx)).trans hc
  have HP_w1 := Lib.hid (H.out.ext hb1)
  have HG_w1 := Lib.hid (grown_of hb1 (some g))
  rw [hrb] at BR ⊢
  have hwr : w.heap.size ≤ rb := by omega
  have HBR_w1 := Lib.hid BR
  have hgr : g < rb := by omega
  have hbr : b < rb := by omega
  have HW1 := Lib.hid BR.lt
  clear hb1 BR hrb hc hx hgl hbl H
  generalize W1 = w1 at *
  obtain ⟨wz, hwz, BN, hgz⟩ := Blk.setRow HBR_w1.out (#[.int .i64 k, .string ⟨#[]⟩, .slice none 0 0, .int .i64 0, .bool false, .string ⟨#[]⟩, .string ⟨#[]⟩, .slice none 0 0, .slice none 0 0, .slice none 0 0, .slice none 0 0, .slice none 0 0, .string ⟨#[]⟩, .string ⟨#[]⟩, .bool false, .int .i64 0, .string ⟨#[]⟩])
  have HWZ := Lib.hid hwz
  have HGW := Lib.hid hgz
  have HBN := Lib.hid BN
  have HPZ := Lib.hid (HP_w1.out.grown hgz (by simp; omega) (by simp; omega))
  have HGZ := Lib.hid (grown_new HG_w1.out hgz hwr)
  clear BN hgz hwz
  go_wp2_with (first | ((with_reducible show wpList _ _ _ (Oper.mk _ (Op.store 34 _ _) _ _ _ _ :: _) _ _); refine wpList_store_row rfl 34 _ _ rfl rb (#[.int .i64 k, .string ⟨#[]⟩, .slice none 0 0, .int .i64 0, .bool false, .string ⟨#[]⟩, .string ⟨#[]⟩, .slice none 0 0, .slice none 0 0, .slice none 0 0, .slice none 0 0, .slice none 0 0, .string ⟨#[]⟩, .string ⟨#[]⟩, .bool false, .int .i64 0, .string ⟨#[]⟩]) rfl rfl 34 _ HBR_w1.out (by kernel_rfl) rfl (by kernel_rfl) ?_; rw [← HWZ.out]))
  refine bodyPost_ret (v := .agg (#[.int .i64 k, .string ⟨#[]⟩, .slice none 0 0, .int .i64 0, .bool false, .string ⟨#[]⟩, .string ⟨#[]⟩, .slice none 0 0, .slice none 0 0, .slice none 0 0, .slice none 0 0, .slice none 0 0, .string ⟨#[]⟩, .string ⟨#[]⟩, .bool false, .int .i64 0, .string ⟨#[]⟩])) ?_ ?_ ?_
  · exact results_cell_row Tryz.results24 _ wz rb 34 (#[.int .i64 k, .string ⟨#[]⟩, .slice none 0 0, .int .i64 0, .bool false, .string ⟨#[]⟩, .string ⟨#[]⟩, .slice none 0 0, .slice none 0 0, .slice none 0 0, .slice none 0 0, .slice none 0 0, .string ⟨#[]⟩, .string ⟨#[]⟩, .bool false, .int .i64 0, .string ⟨#[]⟩]) (0, 0) _ rfl HBN.out Tryz.underlying34 rfl (by kernel_rfl)
  · rfl
  · exact ⟨Vs0, rfl, sto_0 _ ⟨rfl, rfl, rfl, rfl, rfl, rfl⟩, HPZ.out, HGZ.out⟩
set_option maxRecDepth 1000000 in
set_option maxHeartbeats 4000000 in
theorem insert_ : StmC 27 (fun g => #[.pointer (some ⟨g, 0, none⟩)]) insertP := by
  intro w g W b p h
  have H := Lib.hid h
  have hgl := h.gl
  have hbl := h.bl
  have hr := (show insertP W p = match nameP W (mustP W [105, 110, 116, 111] p) with
    | (t, p2) => match rowAll W (insDo W) [] (mustL W [[118, 97, 108, 117, 101, 115], [40]] p2) with
      | (es, p4) => ({ St0 with kind := 3, table := t, exprs := es }, mustP W [41] p4) from rfl)
  have HN := Lib.hid (fun w' (y : Pr w' g W b (mustP W [105, 110, 116, 111] p)) => pname_ y)
  replace HN := HN.out
  obtain ⟨⟨t, q⟩, hq⟩ : ∃ X, nameP W (mustP W [105, 110, 116, 111] p) = X := ⟨_, rfl⟩
  rw [hq] at hr HN
  simp only at hr HN
  have HRW := Lib.hid (fun (pb xb rb : Nat) (w' : World) (x : IxE w g b pb xb rb W { St0 with kind := 3, table := t } 0 [] (mustL W [[118, 97, 108, 117, 101, 115], [40]] q) w') => row_ 51 (.pointer (some ⟨xb, 0, none⟩)) (.pointer (some ⟨pb, 0, none⟩)) W (insDo W) (IxE w g b pb xb rb W { St0 with kind := 3, table := t }) g b (enters_of Tryz.func51 (by kernel_rfl) rfl)
    (fun n s p w' h => by obtain ⟨_, v, h, _⟩ := h; exact h.pr) (fun n s p q w' w'' h hp hg => by obtain ⟨h0, v, h, hl⟩ := h; exact ⟨h0, v, h.parser hp hg, hl⟩) (fun n s p w' hn h => ins1_ w g b pb xb rb W { St0 with kind := 3, table := t } n s p w' hn h) [] _ w' x)
  replace HRW := HRW.out
  obtain ⟨⟨es, r⟩, hq2⟩ : ∃ X, rowAll W (insDo W) [] (mustL W [[118, 97, 108, 117, 101, 115], [40]] q) = X := ⟨_, rfl⟩
  rw [hq2] at hr HRW
  simp only at hr HRW
  unfold StmP
  rw [hr]
  replace HN := Lib.hid HN
  replace HRW := Lib.hid HRW
  have hmf : ∀ (fn : Fn) (first cap : Array Value) (w : World), (Instr.makeFunc fn first cap).run Tryz.prog w = .ok (.func fn first cap) w := fun _ _ _ _ => rfl
  clear hr hq hq2 h
  go_enter Tryz.func27, Tryz.ntmps27
  go_upto_region 1 with fail
  obtain ⟨W1, hW_, hb1, BP, BR⟩ : ∃ W_, W_ = ((w.alloc (.cells #[.pointer (some ⟨g, 0, none⟩)] 50)).alloc (.cells #[.int .i64 0, .string ⟨#[]⟩, .slice none 0 0, .int .i64 0, .bool false, .string ⟨#[]⟩, .string ⟨#[]⟩, .slice none 0 0, .slice none 0 0, .slice none 0 0, .slice none 0 0, .slice none 0 0, .string ⟨#[]⟩, .string ⟨#[]⟩, .bool false, .int .i64 0, .string ⟨#[]⟩] 34)) ∧ Below w.heap.size w W_ ∧ Blk W_ (w.heap.size) 50 #[.pointer (some ⟨g, 0, none⟩)] ∧ Blk W_ (w.heap.size + 1) 34 #[.int .i64 0, .string ⟨#[]⟩, .slice none 0 0, .int .i64 0, .bool false, .string ⟨#[]⟩, .string ⟨#[]⟩, .slice none 0 0, .slice none 0 0, .slice none 0 0, .slice none 0 0, .slice none 0 0, .string ⟨#[]⟩, .string ⟨#[]⟩, .bool false, .int .i64 0, .string ⟨#[]⟩] :=
    ⟨_, rfl, (((Below.refl _ _).alloc (Nat.le_refl _) _).alloc (by simp; try omega) _), ((blk_new_at w (w.heap.size) _ _ (by simp)).alloc _), (blk_new_at (w.alloc (.cells #[.pointer (some ⟨g, 0, none⟩)] 50)) (w.heap.size + 1) _ _ (by simp))⟩
  rw [← hW_]
  clear hW_
  obtain ⟨pb, hpb⟩ : ∃ pb, w.heap.size = pb := ⟨_, rfl⟩
  have HP_w1 := Lib.hid (H.out.ext hb1)
  have HG_w1 := Lib.hid (grown_of hb1 (some g))
  rw [hpb] at BR BP ⊢
  have hwp : w.heap.size ≤ pb := by omega
  have hwr : w.heap.size ≤ pb + 1 := by omega
  have HBP_w1 := Lib.hid BP
  have HBR_w1 := Lib.hid BR
  have hgp : g < pb := by omega
  have hbp : b < pb := by omega
  have hgw := hgl
  have hbw := hbl
  have HLR := Lib.hid BR.lt
  have cp := BP.cell 0
  clear hb1 BR BP hpb H
  generalize W1 = w1 at *
  obtain ⟨rb, hrb⟩ : ∃ rb, rb = pb + 1 := ⟨_, rfl⟩
  rw [← hrb] at HBR_w1 hwr ⊢
  have hgr : g < rb := by omega
  have hbr : b < rb := by omega
  have hpr : pb ≠ rb := by omega
  clear hrb
  go_wp2_with fail
  obtain ⟨V_w1, hW_, hb_, BS⟩ : ∃ W_, W_ = (w1.alloc (.cells #[.string ⟨#[105, 110, 116, 111]⟩] 9)) ∧ Below w1.heap.size w1 W_ ∧ Blk W_ (w1.heap.size) 9 #[.string ⟨#[105, 110, 116, 111]⟩] :=
    ⟨_, rfl, ((Below.refl _ _).alloc (Nat.le_refl _) _), (blk_new_at w1 (w1.heap.size) _ _ (by simp))⟩
  rw [← hW_]
  clear hW_
  have HPv := Lib.hid (HP_w1.out.ext hb_)
  have HBPv := Lib.hid (HBP_w1.out.ext hb_)
  have HBRv := Lib.hid (HBR_w1.out.ext hb_)
  have hgl_ := HP_w1.out.gl
  have HM := Lib.hid (pmust_ [[105, 110, 116, 111]] (some ⟨w1.heap.size, 0, none⟩) 1 HPv.out (Row.of_blk BS (Nat.zero_le _) 1 1 (Nat.le_refl _)) (by intro b' off e; injection e with e; injection e with e _; rw [← e]; simp; omega) (by decide))
  have HGv := Lib.hid (HG_w1.out.trans (grown_of hb_ (some g)))
  clear hb_ BS hgl_
  refine (HM.out).mono ?_
  rintro e w2 ⟨rfl, h_, hg_⟩
  have HP_w2 := Lib.hid (show Pr w2 g W b (mustP W [105, 110, 116, 111] p) from h_)
  have HG_w2 := Lib.hid (HGv.out.trans hg_)
  have HBR_w2 := Lib.hid (HBRv.out.grown hg_ (by simp; omega))
  have HBP_w2 := Lib.hid (HBPv.out.grown hg_ (by simp; omega))
  clear h_ hg_ HBPv HPv HBRv HGv HM
  clear cp
  have cp := HBP_w2.out.cell 0
  go_wp2_with fail
  refine (HN.out _ HP_w2.out).mono ?_
  rintro e w3 ⟨rfl, h_, hg_⟩
  have HBP_w3 := Lib.hid (HBP_w2.out.grown hg_ (by simp; omega))
  have HP_w3 := Lib.hid h_
  have HG_w3 := Lib.hid (HG_w2.out.trans hg_)
  have HBR_w3 := Lib.hid (HBR_w2.out.grown hg_ (by simp; omega))
  clear h_ hg_
  clear cp
  have cp := HBP_w3.out.cell 0
  go_upto_region 3 with fail
  obtain ⟨W4, hW_, hb_, BX⟩ : ∃ W_, W_ = (w3.alloc (.cells #[.int .i64 3, .string ⟨#[]⟩, .slice none 0 0, .int .i64 0, .bool false, .string ⟨t.toArray⟩, .string ⟨#[]⟩, .slice none 0 0, .slice none 0 0, .slice none 0 0, .slice none 0 0, .slice none 0 0, .string ⟨#[]⟩, .string ⟨#[]⟩, .bool false, .int .i64 0, .string ⟨#[]⟩] 34)) ∧ Below w3.heap.size w3 W_ ∧ Blk W_ (w3.heap.size) 34 #[.int .i64 3, .string ⟨#[]⟩, .slice none 0 0, .int .i64 0, .bool false, .string ⟨t.toArray⟩, .string ⟨#[]⟩, .slice none 0 0, .slice none 0 0, .slice none 0 0, .slice none 0 0, .slice none 0 0, .string ⟨#[]⟩, .string ⟨#[]⟩, .bool false, .int .i64 0, .string ⟨#[]⟩] :=
    ⟨_, rfl, ((Below.refl _ _).alloc (Nat.le_refl _) _), (blk_new_at w3 (w3.heap.size) _ _ (by simp))⟩
  rw [← hW_]
  clear hW_
  have X_ := Lib.hid (show Sx w W4 g b pb w3.heap.size rb W q { St0 with kind := 3, table := t } Vs0 from ⟨HG_w3.out.trans (grown_of hb_ _), HP_w3.out.ext hb_, HBP_w3.out.ext hb_, BX, HBR_w3.out.ext hb_, sto_0 _ ⟨rfl, rfl, rfl, rfl, rfl, rfl⟩, hgw, hbw, hwp, HG_w3.out.size, hwr, by have := HBR_w3.out.lt; omega, by have := HBP_w3.out.lt; omega⟩)
  obtain ⟨xb, hxb⟩ : ∃ xb, w3.heap.size = xb := ⟨_, rfl⟩
  replace X_ := X_.out
  rw [hxb] at X_ ⊢
  replace X_ := Lib.hid X_
  clear hb_ BX hxb cp
  have cp := X_.out.pcell
  generalize W4 = w4 at *
  clear HBP_w1 HBR_w1 HP_w1 HBP_w2 HBR_w2 HP_w2 HBP_w3 HBR_w3 HP_w3 HG_w1 HG_w2 HG_w3 HLR HN hwp hwr hpr
  go_wp2_with fail
  obtain ⟨V_w4, hW_, hb_, BS⟩ : ∃ W_, W_ = (w4.alloc (.cells #[.string ⟨#[118, 97, 108, 117, 101, 115]⟩, .string ⟨#[40]⟩] 9)) ∧ Below w4.heap.size w4 W_ ∧ Blk W_ (w4.heap.size) 9 #[.string ⟨#[118, 97, 108, 117, 101, 115]⟩, .string ⟨#[40]⟩] :=
    ⟨_, rfl, ((Below.refl _ _).alloc (Nat.le_refl _) _), (blk_new_at w4 (w4.heap.size) _ _ (by simp))⟩
  rw [← hW_]
  clear hW_
  have Xv := Lib.hid (X_.out.ext hb_)
  have hgl_ := X_.out.pr.gl
  have HM := Lib.hid (pmust_ [[118, 97, 108, 117, 101, 115], [40]] (some ⟨w4.heap.size, 0, none⟩) 2 Xv.out.pr (Row.of_blk BS (Nat.zero_le _) 2 2 (Nat.le_refl _)) (by intro b' off e; injection e with e; injection e with e _; rw [← e]; simp; omega) (by decide))
  clear hb_ BS hgl_
  refine (HM.out).mono ?_
  rintro e w5 ⟨rfl, h_, hg_⟩
  have X5 := Lib.hid (Xv.out.parser (q := mustL W [[118, 97, 108, 117, 101, 115], [40]] q) h_ hg_)
  clear h_ hg_ Xv HM cp
  have cp := X5.out.pcell
  have HRC := Lib.hid (HRW.out pb xb rb w5 ⟨rfl, Vs0, X5.out, lo_nil _⟩)
  clear HRW
  go_wp2_with fail
  refine (HRC.out).mono ?_
  rintro e w6 ⟨rfl, n, hix⟩
  obtain ⟨_, v, x6, _⟩ := hix
  have X6 := Lib.hid x6
  clear x6 cp hmf HRC
  have cp := X6.out.pcell
  go_wp2_with fail
  obtain ⟨V_w6, hW_, hb_, BS⟩ : ∃ W_, W_ = (w6.alloc (.cells #[.string ⟨#[41]⟩] 9)) ∧ Below w6.heap.size w6 W_ ∧ Blk W_ (w6.heap.size) 9 #[.string ⟨#[41]⟩] :=
    ⟨_, rfl, ((Below.refl _ _).alloc (Nat.le_refl _) _), (blk_new_at w6 (w6.heap.size) _ _ (by simp))⟩
  rw [← hW_]
  clear hW_
  have Xv := Lib.hid (X6.out.ext hb_)
  have hgl_ := X6.out.pr.gl
  have HM := Lib.hid (pmust_ [[41]] (some ⟨w6.heap.size, 0, none⟩) 1 Xv.out.pr (Row.of_blk BS (Nat.zero_le _) 1 1 (Nat.le_refl _)) (by intro b' off e; injection e with e; injection e with e _; rw [← e]; simp; omega) (by decide))
  clear hb_ BS hgl_
  refine (HM.out).mono ?_
  rintro e w7 ⟨rfl, h_, hg_⟩
  have X7 := Lib.hid (Xv.out.parser (q := mustP W [41] r) h_ hg_)
  clear h_ hg_ Xv HM cp
  have cp := X7.out.pcell
  have HBRx := Lib.hid X7.out.br
  have HBXx := Lib.hid X7.out.bx
  obtain ⟨wz, hwz, BN, hgz⟩ := Blk.setRow HBRx.out (cellsSt ({ St0 with kind := 3, table := t, exprs := es }) (v))
  have HWZ := Lib.hid hwz
  have HBN := Lib.hid BN
  have HPZ := Lib.hid (X7.out.pr.grown hgz (by have := X7.out.r0; simp; omega) (by have := X7.out.r0; simp; omega))
  have HGZ := Lib.hid (grown_new X7.out.fr hgz X7.out.r0)
  have HOZ := Lib.hid (X7.out.own.kb HBRx.out notSt hgz)
  have H1Z := Lib.hid (st_one X7.out.own)
  clear BN hgz hwz cp
  go_wp2_with (first | ((with_reducible show wpList _ _ _ (Oper.mk _ (Op.load 34 _) _ _ _ _ :: _) _ _); refine wpList_load_row rfl 34 _ rfl xb rfl 34 (cellsSt ({ St0 with kind := 3, table := t, exprs := es }) (v)) (0, 0) _ HBXx.out Tryz.underlying34 rfl (by kernel_rfl) ?_) | ((with_reducible show wpList _ _ _ (Oper.mk _ (Op.store 34 _ _) _ _ _ _ :: _) _ _); refine wpList_store_row rfl 34 _ _ rfl rb (cellsSt ({ St0 with kind := 3, table := t, exprs := es }) (v)) rfl rfl 34 _ HBRx.out (by kernel_rfl) rfl H1Z.out ?_; rw [← HWZ.out]))
  refine bodyPost_ret (v := .agg (cellsSt ({ St0 with kind := 3, table := t, exprs := es }) (v))) ?_ ?_ ?_
  · exact results_cell_row Tryz.results27 _ wz rb 34 (cellsSt ({ St0 with kind := 3, table := t, exprs := es }) (v)) (0, 0) _ rfl HBN.out Tryz.underlying34 rfl (by kernel_rfl)
  · rfl
  · exact ⟨_, rfl, HOZ.out, HPZ.out, HGZ.out⟩
end Go.Proofs.YtfnceamkephpjaaGreat.pg
