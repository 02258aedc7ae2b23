/- Statements: drop, delete, rollback, savepoint; those of one word. Printed by genq9.py. -/
import Derived.Test.YtfnceamkephpjaaGreatQ8
import Derived.Laws.Rows
import Derived.Laws.Tables
namespace Go.Proofs.YtfnceamkephpjaaGreat.pg
open Go.ChangeShapes Go.WideShapes Go.ChangeAt Go.RowKit Go.Proofs.YtfnceamkephpjaaGreat.lib Go.Proofs.YtfnceamkephpjaaGreat.lx
set_option linter.unusedVariables false

theorem Blk.setRow {w : World} {g : Nat} {t : TypeId} {old : Array Value} (h : Blk w g t old) (cs : Array Value) : ∃ w', w' = w.setRow g cs ∧ Blk w' g t cs ∧ w.grownBy w' (some g) :=
  ⟨_, rfl, setRow_heap w g old cs t (0, 0) h, ⟨rfl, rfl, rfl, by simp [World.setRow], fun k hk hne => by
    simp only [World.setRow, Array.getElem?_modify]
    rw [if_neg (fun e => hne (by rw [e]))]⟩⟩
theorem sto_w {w w' : World} {st : St} {A : Option Addr} {c : Nat} {k : Nat} {cs : Array Value} (h0 : st.cols = [] ∧ st.on = [] ∧ st.names = [] ∧ st.exprs = [] ∧ st.items = []) (h : ExO w (.slice A st.wh.length c) st.wh) (hb : Blk w k 34 cs) (hg : w.grownBy w' (some k)) : StO w' st { Vs0 with w := .slice A st.wh.length c } := by
  obtain ⟨h1, h2, h3, h4, h5⟩ := h0
  refine ⟨?_, ?_, ?_, ?_, ?_, h.kb hb notSt hg⟩
  · rw [h1]; exact World.ownsRow_nil _ _ _ _
  · rw [h2]; exact exo_nil _
  · rw [h3]; exact World.ownsRow_nil _ _ _ _
  · rw [h4]; exact ⟨[], World.ownsRow_nil _ _ _ _, rfl, fun i h e a => by cases a⟩
  · rw [h5]; exact ⟨[], World.ownsRow_nil _ _ _ _, rfl, fun i h e a => by cases a⟩
theorem sto_0 (w : World) {st : St} (h0 : st.cols = [] ∧ st.on = [] ∧ st.names = [] ∧ st.exprs = [] ∧ st.items = [] ∧ st.wh = []) : StO w st Vs0 := by
  obtain ⟨h1, h2, h3, h4, h5, h6⟩ := h0
  refine ⟨?_, ?_, ?_, ?_, ?_, ?_⟩
  · rw [h1]; exact World.ownsRow_nil _ _ _ _
  · rw [h2]; exact exo_nil _
  · rw [h3]; exact World.ownsRow_nil _ _ _ _
  · rw [h4]; exact ⟨[], World.ownsRow_nil _ _ _ _, rfl, fun i h e a => by cases a⟩
  · rw [h5]; exact ⟨[], World.ownsRow_nil _ _ _ _, rfl, fun i h e a => by cases a⟩
  · rw [h6]; exact exo_nil _
set_option maxRecDepth 1000000 in
set_option maxHeartbeats 4000000 in
theorem drop_ : StmC 26 (fun g => #[.pointer (some ⟨g, 0, none⟩)]) dropP := by
  intro w g W b p h
  have H := Lib.hid h
  have hgl := h.gl
  have hbl := h.bl
  have hr := (show dropP W p = match nameP W (mustP W [116, 97, 98, 108, 101] p) with | (t, q) => ({ St0 with kind := 2, table := t }, q) from rfl)
  have HN := Lib.hid (fun w' (y : Pr w' g W b (mustP W [116, 97, 98, 108, 101] p)) => pname_ y)
  replace HN := HN.out
  obtain ⟨⟨t, q⟩, hq⟩ : ∃ X, nameP W (mustP W [116, 97, 98, 108, 101] p) = X := ⟨_, rfl⟩
  rw [hq] at hr HN
  simp only at hr HN
  unfold StmP
  rw [hr]
  replace HN := Lib.hid HN
  clear hr hq h
  go_enter Tryz.func26, Tryz.ntmps26
  go_upto_region 1 with fail
  obtain ⟨W1, hW_, hb1, BR⟩ : ∃ W_, W_ = (w.alloc (.cells #[.int .i64 0, .string ⟨#[]⟩, .slice none 0 0, .int .i64 0, .bool false, .string ⟨#[]⟩, .string ⟨#[]⟩, .slice none 0 0, .slice none 0 0, .slice none 0 0, .slice none 0 0, .slice none 0 0, .string ⟨#[]⟩, .string ⟨#[]⟩, .bool false, .int .i64 0, .string ⟨#[]⟩] 34)) ∧ Below w.heap.size w W_ ∧ Blk W_ (w.heap.size) 34 #[.int .i64 0, .string ⟨#[]⟩, .slice none 0 0, .int .i64 0, .bool false, .string ⟨#[]⟩, .string ⟨#[]⟩, .slice none 0 0, .slice none 0 0, .slice none 0 0, .slice none 0 0, .slice none 0 0, .string ⟨#[]⟩, .string ⟨#[]⟩, .bool false, .int .i64 0, .string ⟨#[]⟩] :=
    ⟨_, rfl, ((Below.refl _ _).alloc (Nat.le_refl _) _), (blk_new_at w (w.heap.size) _ _ (by simp))⟩
  rw [← hW_]
  clear hW_
  obtain ⟨rb, hrb⟩ : ∃ rb, w.heap.size = rb := ⟨_, rfl⟩
  have HP_w1 := Lib.hid (H.out.ext hb1)
  have HG_w1 := Lib.hid (grown_of hb1 (some g))
  rw [hrb] at BR ⊢
  have hwr : w.heap.size ≤ rb := by omega
  have HBR_w1 := Lib.hid BR
  have hgr : g < rb := by omega
  have hbr : b < rb := by omega
  have HW1 := Lib.hid BR.lt
  clear hb1 BR hrb hgl hbl H
  generalize W1 = w1 at *
  go_wp2_with fail
  obtain ⟨V_w1, hW_, hb_, BS⟩ : ∃ W_, W_ = (w1.alloc (.cells #[.string ⟨#[116, 97, 98, 108, 101]⟩] 9)) ∧ Below w1.heap.size w1 W_ ∧ Blk W_ (w1.heap.size) 9 #[.string ⟨#[116, 97, 98, 108, 101]⟩] :=
    ⟨_, rfl, ((Below.refl _ _).alloc (Nat.le_refl _) _), (blk_new_at w1 (w1.heap.size) _ _ (by simp))⟩
  rw [← hW_]
  clear hW_
  have HPv := Lib.hid (HP_w1.out.ext hb_)
  have HBRv := Lib.hid (HBR_w1.out.ext hb_)
  have hgl_ := HP_w1.out.gl
  have HM := Lib.hid (pmust_ [[116, 97, 98, 108, 101]] (some ⟨w1.heap.size, 0, none⟩) 1 HPv.out (Row.of_blk BS (Nat.zero_le _) 1 1 (Nat.le_refl _)) (by intro b' off e; injection e with e; injection e with e _; rw [← e]; simp; omega) (by decide))
  have HGv := Lib.hid (HG_w1.out.trans (grown_of hb_ (some g)))
  clear hb_ BS hgl_
  refine (HM.out).mono ?_
  rintro e w2 ⟨rfl, h_, hg_⟩
  have HP_w2 := Lib.hid (show Pr w2 g W b (mustP W [116, 97, 98, 108, 101] p) from h_)
  have HG_w2 := Lib.hid (HGv.out.trans hg_)
  have HBR_w2 := Lib.hid (HBRv.out.grown hg_ (by simp; omega))
  clear h_ hg_ HPv HBRv HGv HM
  go_wp2_with fail
  refine (HN.out _ HP_w2.out).mono ?_
  rintro e w3 ⟨rfl, h_, hg_⟩
  have HP_w3 := Lib.hid h_
  have HG_w3 := Lib.hid (HG_w2.out.trans hg_)
  have HBR_w3 := Lib.hid (HBR_w2.out.grown hg_ (by simp; omega))
  clear h_ hg_
  obtain ⟨wz, hwz, BN, hgz⟩ := Blk.setRow HBR_w3.out (#[.int .i64 2, .string ⟨#[]⟩, .slice none 0 0, .int .i64 0, .bool false, .string ⟨t.toArray⟩, .string ⟨#[]⟩, .slice none 0 0, .slice none 0 0, .slice none 0 0, .slice none 0 0, .slice none 0 0, .string ⟨#[]⟩, .string ⟨#[]⟩, .bool false, .int .i64 0, .string ⟨#[]⟩])
  have HWZ := Lib.hid hwz
  have HGW := Lib.hid hgz
  have HBN := Lib.hid BN
  have HPZ := Lib.hid (HP_w3.out.grown hgz (by simp; omega) (by simp; omega))
  have HGZ := Lib.hid (grown_new HG_w3.out hgz hwr)
  clear BN hgz hwz
  go_wp2_with (first | ((with_reducible show wpList _ _ _ (Oper.mk _ (Op.store 34 _ _) _ _ _ _ :: _) _ _); refine wpList_store_row rfl 34 _ _ rfl rb (#[.int .i64 2, .string ⟨#[]⟩, .slice none 0 0, .int .i64 0, .bool false, .string ⟨t.toArray⟩, .string ⟨#[]⟩, .slice none 0 0, .slice none 0 0, .slice none 0 0, .slice none 0 0, .slice none 0 0, .string ⟨#[]⟩, .string ⟨#[]⟩, .bool false, .int .i64 0, .string ⟨#[]⟩]) rfl rfl 34 _ HBR_w3.out (by kernel_rfl) rfl (by kernel_rfl) ?_; rw [← HWZ.out]))
  refine bodyPost_ret (v := .agg (#[.int .i64 2, .string ⟨#[]⟩, .slice none 0 0, .int .i64 0, .bool false, .string ⟨t.toArray⟩, .string ⟨#[]⟩, .slice none 0 0, .slice none 0 0, .slice none 0 0, .slice none 0 0, .slice none 0 0, .string ⟨#[]⟩, .string ⟨#[]⟩, .bool false, .int .i64 0, .string ⟨#[]⟩])) ?_ ?_ ?_
  · exact results_cell_row Tryz.results26 _ wz rb 34 (#[.int .i64 2, .string ⟨#[]⟩, .slice none 0 0, .int .i64 0, .bool false, .string ⟨t.toArray⟩, .string ⟨#[]⟩, .slice none 0 0, .slice none 0 0, .slice none 0 0, .slice none 0 0, .slice none 0 0, .string ⟨#[]⟩, .string ⟨#[]⟩, .bool false, .int .i64 0, .string ⟨#[]⟩]) (0, 0) _ rfl HBN.out Tryz.underlying34 rfl (by kernel_rfl)
  · rfl
  · exact ⟨Vs0, rfl, sto_0 _ ⟨rfl, rfl, rfl, rfl, rfl, rfl⟩, HPZ.out, HGZ.out⟩
set_option maxRecDepth 1000000 in
set_option maxHeartbeats 4000000 in
theorem save_ : StmC 32 (fun g => #[.pointer (some ⟨g, 0, none⟩)]) saveP := by
  intro w g W b p h
  have H := Lib.hid h
  have hgl := h.gl
  have hbl := h.bl
  have hr := (show saveP W p = match nameP W p with | (n, q) => ({ St0 with kind := 10, name := n }, q) from rfl)
  have HN := Lib.hid (fun w' (y : Pr w' g W b p) => pname_ y)
  replace HN := HN.out
  obtain ⟨⟨t, q⟩, hq⟩ : ∃ X, nameP W p = X := ⟨_, rfl⟩
  rw [hq] at hr HN
  simp only at hr HN
  unfold StmP
  rw [hr]
  replace HN := Lib.hid HN
  clear hr hq h
  go_enter Tryz.func32, Tryz.ntmps32
  go_upto_region 1 with fail
  obtain ⟨W1, hW_, hb1, BR⟩ : ∃ W_, W_ = (w.alloc (.cells #[.int .i64 0, .string ⟨#[]⟩, .slice none 0 0, .int .i64 0, .bool false, .string ⟨#[]⟩, .string ⟨#[]⟩, .slice none 0 0, .slice none 0 0, .slice none 0 0, .slice none 0 0, .slice none 0 0, .string ⟨#[]⟩, .string ⟨#[]⟩, .bool false, .int .i64 0, .string ⟨#[]⟩] 34)) ∧ Below w.heap.size w W_ ∧ Blk W_ (w.heap.size) 34 #[.int .i64 0, .string ⟨#[]⟩, .slice none 0 0, .int .i64 0, .bool false, .string ⟨#[]⟩, .string ⟨#[]⟩, .slice none 0 0, .slice none 0 0, .slice none 0 0, .slice none 0 0, .slice none 0 0, .string ⟨#[]⟩, .string ⟨#[]⟩, .bool false, .int .i64 0, .string ⟨#[]⟩] :=
    ⟨_, rfl, ((Below.refl _ _).alloc (Nat.le_refl _) _), (blk_new_at w (w.heap.size) _ _ (by simp))⟩
  rw [← hW_]
  clear hW_
  obtain ⟨rb, hrb⟩ : ∃ rb, w.heap.size = rb := ⟨_, rfl⟩
  have HP_w1 := Lib.hid (H.out.ext hb1)
  have HG_w1 := Lib.hid (grown_of hb1 (some g))
  rw [hrb] at BR ⊢
  have hwr : w.heap.size ≤ rb := by omega
  have HBR_w1 := Lib.hid BR
  have hgr : g < rb := by omega
  have hbr : b < rb := by omega
  have HW1 := Lib.hid BR.lt
  clear hb1 BR hrb hgl hbl H
  generalize W1 = w1 at *
  go_wp2_with fail
  refine (HN.out _ HP_w1.out).mono ?_
  rintro e w3 ⟨rfl, h_, hg_⟩
  have HP_w3 := Lib.hid h_
  have HG_w3 := Lib.hid (HG_w1.out.trans hg_)
  have HBR_w3 := Lib.hid (HBR_w1.out.grown hg_ (by simp; omega))
  clear h_ hg_
  obtain ⟨wz, hwz, BN, hgz⟩ := Blk.setRow HBR_w3.out (#[.int .i64 10, .string ⟨#[]⟩, .slice none 0 0, .int .i64 0, .bool false, .string ⟨#[]⟩, .string ⟨#[]⟩, .slice none 0 0, .slice none 0 0, .slice none 0 0, .slice none 0 0, .slice none 0 0, .string ⟨#[]⟩, .string ⟨#[]⟩, .bool false, .int .i64 0, .string ⟨t.toArray⟩])
  have HWZ := Lib.hid hwz
  have HGW := Lib.hid hgz
  have HBN := Lib.hid BN
  have HPZ := Lib.hid (HP_w3.out.grown hgz (by simp; omega) (by simp; omega))
  have HGZ := Lib.hid (grown_new HG_w3.out hgz hwr)
  clear BN hgz hwz
  go_wp2_with (first | ((with_reducible show wpList _ _ _ (Oper.mk _ (Op.store 34 _ _) _ _ _ _ :: _) _ _); refine wpList_store_row rfl 34 _ _ rfl rb (#[.int .i64 10, .string ⟨#[]⟩, .slice none 0 0, .int .i64 0, .bool false, .string ⟨#[]⟩, .string ⟨#[]⟩, .slice none 0 0, .slice none 0 0, .slice none 0 0, .slice none 0 0, .slice none 0 0, .string ⟨#[]⟩, .string ⟨#[]⟩, .bool false, .int .i64 0, .string ⟨t.toArray⟩]) rfl rfl 34 _ HBR_w3.out (by kernel_rfl) rfl (by kernel_rfl) ?_; rw [← HWZ.out]))
  refine bodyPost_ret (v := .agg (#[.int .i64 10, .string ⟨#[]⟩, .slice none 0 0, .int .i64 0, .bool false, .string ⟨#[]⟩, .string ⟨#[]⟩, .slice none 0 0, .slice none 0 0, .slice none 0 0, .slice none 0 0, .slice none 0 0, .string ⟨#[]⟩, .string ⟨#[]⟩, .bool false, .int .i64 0, .string ⟨t.toArray⟩])) ?_ ?_ ?_
  · exact results_cell_row Tryz.results32 _ wz rb 34 (#[.int .i64 10, .string ⟨#[]⟩, .slice none 0 0, .int .i64 0, .bool false, .string ⟨#[]⟩, .string ⟨#[]⟩, .slice none 0 0, .slice none 0 0, .slice none 0 0, .slice none 0 0, .slice none 0 0, .string ⟨#[]⟩, .string ⟨#[]⟩, .bool false, .int .i64 0, .string ⟨t.toArray⟩]) (0, 0) _ rfl HBN.out Tryz.underlying34 rfl (by kernel_rfl)
  · rfl
  · exact ⟨Vs0, rfl, sto_0 _ ⟨rfl, rfl, rfl, rfl, rfl, rfl⟩, HPZ.out, HGZ.out⟩
set_option maxRecDepth 1000000 in
set_option maxHeartbeats 4000000 in
theorem roll_ : StmC 31 (fun g => #[.pointer (some ⟨g, 0, none⟩)]) rollP := by
  intro w g W b p h
  have H := Lib.hid h
  have hgl := h.gl
  have hbl := h.bl
  have hr := (show rollP W p = if okIs W [116, 111] p = true then (match nameP W (stepP p) with | (n, q) => ({ St0 with kind := 11, name := n }, q)) else ({ St0 with kind := 9 }, p) from rfl)
  have HI := Lib.hid (fun w' (y : Pr w' g W b p) => pis_ [116, 111] y)
  replace HI := HI.out
  unfold isP at HI
  obtain ⟨ok, hok⟩ : ∃ ok, okIs W [116, 111] p = ok := ⟨_, rfl⟩
  rw [hok] at HI hr
  replace HI := Lib.hid HI
  unfold StmP
  obtain ⟨R, hR⟩ : ∃ R, rollP W p = R := ⟨_, rfl⟩
  rw [hR] at hr ⊢
  have HR := Lib.hid hr
  clear hr hok h hR
  go_enter Tryz.func31, Tryz.ntmps31
  go_upto_region 1 with fail
  obtain ⟨W1, hW_, hb1, BR⟩ : ∃ W_, W_ = (w.alloc (.cells #[.int .i64 0, .string ⟨#[]⟩, .slice none 0 0, .int .i64 0, .bool false, .string ⟨#[]⟩, .string ⟨#[]⟩, .slice none 0 0, .slice none 0 0, .slice none 0 0, .slice none 0 0, .slice none 0 0, .string ⟨#[]⟩, .string ⟨#[]⟩, .bool false, .int .i64 0, .string ⟨#[]⟩] 34)) ∧ Below w.heap.size w W_ ∧ Blk W_ (w.heap.size) 34 #[.int .i64 0, .string ⟨#[]⟩, .slice none 0 0, .int .i64 0, .bool false, .string ⟨#[]⟩, .string ⟨#[]⟩, .slice none 0 0, .slice none 0 0, .slice none 0 0, .slice none 0 0, .slice none 0 0, .string ⟨#[]⟩, .string ⟨#[]⟩, .bool false, .int .i64 0, .string ⟨#[]⟩] :=
    ⟨_, rfl, ((Below.refl _ _).alloc (Nat.le_refl _) _), (blk_new_at w (w.heap.size) _ _ (by simp))⟩
  rw [← hW_]
  clear hW_
  obtain ⟨rb, hrb⟩ : ∃ rb, w.heap.size = rb := ⟨_, rfl⟩
  have HP_w1 := Lib.hid (H.out.ext hb1)
  have HG_w1 := Lib.hid (grown_of hb1 (some g))
  rw [hrb] at BR ⊢
  have hwr : w.heap.size ≤ rb := by omega
  have HBR_w1 := Lib.hid BR
  have hgr : g < rb := by omega
  have hbr : b < rb := by omega
  have HW1 := Lib.hid BR.lt
  clear hb1 BR hrb hgl hbl H
  generalize W1 = w1 at *
  have HIC := Lib.hid (HI.out _ HP_w1.out)
  go_wp2_with fail
  refine (HIC.out).mono ?_
  rintro e w2 ⟨rfl, h_, hg_⟩
  clear HI HIC
  cases ok with
  | false =>
    obtain rfl : R = ({ St0 with kind := 9 }, p) := by rw [HR.out, if_neg (by simp)]
    replace h_ : Pr w2 g W b p := h_
    have HP_w2 := Lib.hid h_
    have HG_w2 := Lib.hid (HG_w1.out.trans hg_)
    have HBR_w2 := Lib.hid (HBR_w1.out.grown hg_ (by simp; omega))
    clear h_ hg_
    obtain ⟨wz, hwz, BN, hgz⟩ := Blk.setRow HBR_w2.out (#[.int .i64 9, .string ⟨#[]⟩, .slice none 0 0, .int .i64 0, .bool false, .string ⟨#[]⟩, .string ⟨#[]⟩, .slice none 0 0, .slice none 0 0, .slice none 0 0, .slice none 0 0, .slice none 0 0, .string ⟨#[]⟩, .string ⟨#[]⟩, .bool false, .int .i64 0, .string ⟨#[]⟩])
    have HWZ := Lib.hid hwz
    have HGW := Lib.hid hgz
    have HBN := Lib.hid BN
    have HPZ := Lib.hid (HP_w2.out.grown hgz (by simp; omega) (by simp; omega))
    have HGZ := Lib.hid (grown_new HG_w2.out hgz hwr)
    clear BN hgz hwz
    go_wp2_with (first | ((with_reducible show wpList _ _ _ (Oper.mk _ (Op.store 34 _ _) _ _ _ _ :: _) _ _); refine wpList_store_row rfl 34 _ _ rfl rb (#[.int .i64 9, .string ⟨#[]⟩, .slice none 0 0, .int .i64 0, .bool false, .string ⟨#[]⟩, .string ⟨#[]⟩, .slice none 0 0, .slice none 0 0, .slice none 0 0, .slice none 0 0, .slice none 0 0, .string ⟨#[]⟩, .string ⟨#[]⟩, .bool false, .int .i64 0, .string ⟨#[]⟩]) rfl rfl 34 _ HBR_w2.out (by kernel_rfl) rfl (by kernel_rfl) ?_; rw [← HWZ.out]))
    refine bodyPost_ret (v := .agg (#[.int .i64 9, .string ⟨#[]⟩, .slice none 0 0, .int .i64 0, .bool false, .string ⟨#[]⟩, .string ⟨#[]⟩, .slice none 0 0, .slice none 0 0, .slice none 0 0, .slice none 0 0, .slice none 0 0, .string ⟨#[]⟩, .string ⟨#[]⟩, .bool false, .int .i64 0, .string ⟨#[]⟩])) ?_ ?_ ?_
    · exact results_cell_row Tryz.results31 _ wz rb 34 (#[.int .i64 9, .string ⟨#[]⟩, .slice none 0 0, .int .i64 0, .bool false, .string ⟨#[]⟩, .string ⟨#[]⟩, .slice none 0 0, .slice none 0 0, .slice none 0 0, .slice none 0 0, .slice none 0 0, .string ⟨#[]⟩, .string ⟨#[]⟩, .bool false, .int .i64 0, .string ⟨#[]⟩]) (0, 0) _ rfl HBN.out Tryz.underlying34 rfl (by kernel_rfl)
    · rfl
    · exact ⟨Vs0, rfl, sto_0 _ ⟨rfl, rfl, rfl, rfl, rfl, rfl⟩, HPZ.out, HGZ.out⟩
  | true =>
    have hr := HR.out
    rw [if_pos rfl] at hr
    have HN := Lib.hid (fun w' (y : Pr w' g W b (stepP p)) => pname_ y)
    replace HN := HN.out
    obtain ⟨⟨t, q⟩, hq⟩ : ∃ X, nameP W (stepP p) = X := ⟨_, rfl⟩
    rw [hq] at hr HN
    simp only at hr HN
    subst hr
    replace HN := Lib.hid HN
    replace h_ : Pr w2 g W b (stepP p) := h_
    clear hq
    have HP_w2 := Lib.hid h_
    have HG_w2 := Lib.hid (HG_w1.out.trans hg_)
    have HBR_w2 := Lib.hid (HBR_w1.out.grown hg_ (by simp; omega))
    clear h_ hg_
    go_wp2_with fail
    refine (HN.out _ HP_w2.out).mono ?_
    rintro e w3 ⟨rfl, h_, hg_⟩
    have HP_w3 := Lib.hid h_
    have HG_w3 := Lib.hid (HG_w2.out.trans hg_)
    have HBR_w3 := Lib.hid (HBR_w2.out.grown hg_ (by simp; omega))
    clear h_ hg_
    obtain ⟨wz, hwz, BN, hgz⟩ := Blk.setRow HBR_w3.out (#[.int .i64 11, .string ⟨#[]⟩, .slice none 0 0, .int .i64 0, .bool false, .string ⟨#[]⟩, .string ⟨#[]⟩, .slice none 0 0, .slice none 0 0, .slice none 0 0, .slice none 0 0, .slice none 0 0, .string ⟨#[]⟩, .string ⟨#[]⟩, .bool false, .int .i64 0, .string ⟨t.toArray⟩])
    have HWZ := Lib.hid hwz
    have HGW := Lib.hid hgz
    have HBN := Lib.hid BN
    have HPZ := Lib.hid (HP_w3.out.grown hgz (by simp; omega) (by simp; omega))
    have HGZ := Lib.hid (grown_new HG_w3.out hgz hwr)
    clear BN hgz hwz
    go_wp2_with (first | ((with_reducible show wpList _ _ _ (Oper.mk _ (Op.store 34 _ _) _ _ _ _ :: _) _ _); refine wpList_store_row rfl 34 _ _ rfl rb (#[.int .i64 11, .string ⟨#[]⟩, .slice none 0 0, .int .i64 0, .bool false, .string ⟨#[]⟩, .string ⟨#[]⟩, .slice none 0 0, .slice none 0 0, .slice none 0 0, .slice none 0 0, .slice none 0 0, .string ⟨#[]⟩, .string ⟨#[]⟩, .bool false, .int .i64 0, .string ⟨t.toArray⟩]) rfl rfl 34 _ HBR_w3.out (by kernel_rfl) rfl (by kernel_rfl) ?_; rw [← HWZ.out]))
    refine bodyPost_ret (v := .agg (#[.int .i64 11, .string ⟨#[]⟩, .slice none 0 0, .int .i64 0, .bool false, .string ⟨#[]⟩, .string ⟨#[]⟩, .slice none 0 0, .slice none 0 0, .slice none 0 0, .slice none 0 0, .slice none 0 0, .string ⟨#[]⟩, .string ⟨#[]⟩, .bool false, .int .i64 0, .string ⟨t.toArray⟩])) ?_ ?_ ?_
    · exact results_cell_row Tryz.results31 _ wz rb 34 (#[.int .i64 11, .string ⟨#[]⟩, .slice none 0 0, .int .i64 0, .bool false, .string ⟨#[]⟩, .string ⟨#[]⟩, .slice none 0 0, .slice none 0 0, .slice none 0 0, .slice none 0 0, .slice none 0 0, .string ⟨#[]⟩, .string ⟨#[]⟩, .bool false, .int .i64 0, .string ⟨t.toArray⟩]) (0, 0) _ rfl HBN.out Tryz.underlying34 rfl (by kernel_rfl)
    · rfl
    · exact ⟨Vs0, rfl, sto_0 _ ⟨rfl, rfl, rfl, rfl, rfl, rfl⟩, HPZ.out, HGZ.out⟩
set_option maxRecDepth 1000000 in
set_option maxHeartbeats 4000000 in
theorem del_ : StmC 29 (fun g => #[.pointer (some ⟨g, 0, none⟩)]) delP := by
  intro w g W b p h
  have H := Lib.hid h
  have hgl := h.gl
  have hbl := h.bl
  have hr := (show delP W p = match nameP W (mustP W [102, 114, 111, 109] p) with | (t, p2) => match whereP W p2 with | (e, p3) => ({ St0 with kind := 5, table := t, wh := e }, p3) from rfl)
  have HN := Lib.hid (fun w' (y : Pr w' g W b (mustP W [102, 114, 111, 109] p)) => pname_ y)
  replace HN := HN.out
  obtain ⟨⟨t, q⟩, hq⟩ : ∃ X, nameP W (mustP W [102, 114, 111, 109] p) = X := ⟨_, rfl⟩
  rw [hq] at hr HN
  simp only at hr HN
  have HE := Lib.hid (fun w' (y : Pr w' g W b q) => where_ y)
  replace HE := HE.out
  obtain ⟨⟨es, r⟩, hq2⟩ : ∃ X, whereP W q = X := ⟨_, rfl⟩
  rw [hq2] at hr HE
  simp only at hr HE
  unfold StmP
  rw [hr]
  replace HN := Lib.hid HN
  replace HE := Lib.hid HE
  clear hr hq hq2 h
  go_enter Tryz.func29, Tryz.ntmps29
  go_upto_region 1 with fail
  obtain ⟨W1, hW_, hb1, BR⟩ : ∃ W_, W_ = (w.alloc (.cells #[.int .i64 0, .string ⟨#[]⟩, .slice none 0 0, .int .i64 0, .bool false, .string ⟨#[]⟩, .string ⟨#[]⟩, .slice none 0 0, .slice none 0 0, .slice none 0 0, .slice none 0 0, .slice none 0 0, .string ⟨#[]⟩, .string ⟨#[]⟩, .bool false, .int .i64 0, .string ⟨#[]⟩] 34)) ∧ Below w.heap.size w W_ ∧ Blk W_ (w.heap.size) 34 #[.int .i64 0, .string ⟨#[]⟩, .slice none 0 0, .int .i64 0, .bool false, .string ⟨#[]⟩, .string ⟨#[]⟩, .slice none 0 0, .slice none 0 0, .slice none 0 0, .slice none 0 0, .slice none 0 0, .string ⟨#[]⟩, .string ⟨#[]⟩, .bool false, .int .i64 0, .string ⟨#[]⟩] :=
    ⟨_, rfl, ((Below.refl _ _).alloc (Nat.le_refl _) _), (blk_new_at w (w.heap.size) _ _ (by simp))⟩
  rw [← hW_]
  clear hW_
  obtain ⟨rb, hrb⟩ : ∃ rb, w.heap.size = rb := ⟨_, rfl⟩
  have HP_w1 := Lib.hid (H.out.ext hb1)
  have HG_w1 := Lib.hid (grown_of hb1 (some g))
  rw [hrb] at BR ⊢
  have hwr : w.heap.size ≤ rb := by omega
  have HBR_w1 := Lib.hid BR
  have hgr : g < rb := by omega
  have hbr : b < rb := by omega
  have HW1 := Lib.hid BR.lt
  clear hb1 BR hrb hgl hbl H
  generalize W1 = w1 at *
  go_wp2_with fail
  obtain ⟨V_w1, hW_, hb_, BS⟩ : ∃ W_, W_ = (w1.alloc (.cells #[.string ⟨#[102, 114, 111, 109]⟩] 9)) ∧ Below w1.heap.size w1 W_ ∧ Blk W_ (w1.heap.size) 9 #[.string ⟨#[102, 114, 111, 109]⟩] :=
    ⟨_, rfl, ((Below.refl _ _).alloc (Nat.le_refl _) _), (blk_new_at w1 (w1.heap.size) _ _ (by simp))⟩
  rw [← hW_]
  clear hW_
  have HPv := Lib.hid (HP_w1.out.ext hb_)
  have HBRv := Lib.hid (HBR_w1.out.ext hb_)
  have hgl_ := HP_w1.out.gl
  have HM := Lib.hid (pmust_ [[102, 114, 111, 109]] (some ⟨w1.heap.size, 0, none⟩) 1 HPv.out (Row.of_blk BS (Nat.zero_le _) 1 1 (Nat.le_refl _)) (by intro b' off e; injection e with e; injection e with e _; rw [← e]; simp; omega) (by decide))
  have HGv := Lib.hid (HG_w1.out.trans (grown_of hb_ (some g)))
  clear hb_ BS hgl_
  refine (HM.out).mono ?_
  rintro e w2 ⟨rfl, h_, hg_⟩
  have HP_w2 := Lib.hid (show Pr w2 g W b (mustP W [102, 114, 111, 109] p) from h_)
  have HG_w2 := Lib.hid (HGv.out.trans hg_)
  have HBR_w2 := Lib.hid (HBRv.out.grown hg_ (by simp; omega))
  clear h_ hg_ HPv HBRv HGv HM
  go_wp2_with fail
  refine (HN.out _ HP_w2.out).mono ?_
  rintro e w3 ⟨rfl, h_, hg_⟩
  have HP_w3 := Lib.hid h_
  have HG_w3 := Lib.hid (HG_w2.out.trans hg_)
  have HBR_w3 := Lib.hid (HBR_w2.out.grown hg_ (by simp; omega))
  clear h_ hg_
  go_wp2_with fail
  refine (HE.out _ HP_w3.out).mono ?_
  rintro e w4 ⟨v, rfl, ho, h_, hg_⟩
  obtain ⟨A, c, rfl⟩ := own_sl ho
  have HO := Lib.hid ho
  clear ho
  have HP_w4 := Lib.hid h_
  have HG_w4 := Lib.hid (HG_w3.out.trans hg_)
  have HBR_w4 := Lib.hid (HBR_w3.out.grown hg_ (by simp; omega))
  clear h_ hg_
  obtain ⟨wz, hwz, BN, hgz⟩ := Blk.setRow HBR_w4.out (#[.int .i64 5, .string ⟨#[]⟩, .slice none 0 0, .int .i64 0, .bool false, .string ⟨t.toArray⟩, .string ⟨#[]⟩, .slice none 0 0, .slice none 0 0, .slice none 0 0, .slice none 0 0, .slice A es.length c, .string ⟨#[]⟩, .string ⟨#[]⟩, .bool false, .int .i64 0, .string ⟨#[]⟩])
  have HWZ := Lib.hid hwz
  have HGW := Lib.hid hgz
  have HBN := Lib.hid BN
  have HPZ := Lib.hid (HP_w4.out.grown hgz (by simp; omega) (by simp; omega))
  have HGZ := Lib.hid (grown_new HG_w4.out hgz hwr)
  clear BN hgz hwz
  go_wp2_with (first | ((with_reducible show wpList _ _ _ (Oper.mk _ (Op.store 34 _ _) _ _ _ _ :: _) _ _); refine wpList_store_row rfl 34 _ _ rfl rb (#[.int .i64 5, .string ⟨#[]⟩, .slice none 0 0, .int .i64 0, .bool false, .string ⟨t.toArray⟩, .string ⟨#[]⟩, .slice none 0 0, .slice none 0 0, .slice none 0 0, .slice none 0 0, .slice A es.length c, .string ⟨#[]⟩, .string ⟨#[]⟩, .bool false, .int .i64 0, .string ⟨#[]⟩]) rfl rfl 34 _ HBR_w4.out (by kernel_rfl) rfl (by kernel_rfl) ?_; rw [← HWZ.out]))
  refine bodyPost_ret (v := .agg (#[.int .i64 5, .string ⟨#[]⟩, .slice none 0 0, .int .i64 0, .bool false, .string ⟨t.toArray⟩, .string ⟨#[]⟩, .slice none 0 0, .slice none 0 0, .slice none 0 0, .slice none 0 0, .slice A es.length c, .string ⟨#[]⟩, .string ⟨#[]⟩, .bool false, .int .i64 0, .string ⟨#[]⟩])) ?_ ?_ ?_
  · exact results_cell_row Tryz.results29 _ wz rb 34 (#[.int .i64 5, .string ⟨#[]⟩, .slice none 0 0, .int .i64 0, .bool false, .string ⟨t.toArray⟩, .string ⟨#[]⟩, .slice none 0 0, .slice none 0 0, .slice none 0 0, .slice none 0 0, .slice A es.length c, .string ⟨#[]⟩, .string ⟨#[]⟩, .bool false, .int .i64 0, .string ⟨#[]⟩]) (0, 0) _ rfl HBN.out Tryz.underlying34 rfl (by kernel_rfl)
  · rfl
  · exact ⟨{ Vs0 with w := .slice A es.length c }, rfl, sto_w (st := { St0 with kind := 5, table := t, wh := es }) ⟨rfl, rfl, rfl, rfl, rfl⟩ HO.out HBR_w4.out HGW.out, HPZ.out, HGZ.out⟩
end Go.Proofs.YtfnceamkephpjaaGreat.pg
