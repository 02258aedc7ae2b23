/- The program's Stmt. Printed by genq15.py. -/
import Derived.Test.YtfnceamkephpjaaGreatQ14
import Derived.Test.YtfnceamkephpjaaGreatS
namespace Go.Proofs.YtfnceamkephpjaaGreat.pg
open Go.ChangeShapes Go.WideShapes Go.ChangeAt Go.RowKit Go.Proofs.YtfnceamkephpjaaGreat.lib Go.Proofs.YtfnceamkephpjaaGreat.lx
set_option linter.unusedVariables false

theorem results_cell2 {P : Program} {fn : Func} {p q : Tmp} {ty : TypeId} (h : fn.results = #[.cell p ty, .tmp q]) (tmps : Array Value) (w : World) (g : Nat) (cs : Array Value) (v : Value) (hp : tmps.getD p undef = .pointer (some ⟨g, 0, none⟩)) (hq : tmps.getD q undef = v) (hl : (loadVar ty ⟨g, 0, none⟩).run P w = .ok (.agg cs) w) :
    (results fn tmps).run P w = .ok (.tuple #[.agg cs, v]) w := by
  have hp' : tmps[p]?.getD undef = .pointer (some ⟨g, 0, none⟩) := by simpa using hp
  have hq' : tmps[q]?.getD undef = v := by simpa using hq
  simp [results, h, hp', hq', asAddr, hl]
/-- what Stmt answers -/
def StmtA (r : Int × St) (w : World) (e : Ending) (w' : World) : Prop := ∃ v, e = .returned (.tuple #[.agg (cellsSt r.2 v), .int .i64 r.1]) ∧ StO w' r.2 v ∧ Below w.heap.size w w'
theorem Pr.first {w : World} {g : Nat} {W : List Wd} {b : Nat} {p : Pp} (h : Pr w g W b p) : w.cell? ⟨b, 0, none⟩ = some (.int .i64 (cur W ⟨0, 0⟩).k) := by
  obtain ⟨a, n, c, y⟩ := h
  obtain ⟨x, hx⟩ : ∃ x, W[0]? = some x := ⟨_, List.getElem?_eq_getElem y.wok.pos⟩
  have := (cellsW_at W 0 x hx).1
  rw [cur0 hx]
  exact y.cells 0 _ this
set_option maxRecDepth 1000000 in
set_option maxHeartbeats 8000000 in
theorem Stmt_ (l : List UInt8) (hl : l.length ≤ 100000) (w : World) :
    Calls Tryz.prog 7 #[.string ⟨l.toArray⟩] w (StmtA (stmtL l) w) := by
  have HW := Lib.hid (fun w => words_ ⟨l.toArray⟩ w (by rw [size_mk]; unfold maxLen; omega))
  replace HW := HW.out
  rw [show (⟨l.toArray⟩ : ByteArray).data.toList = l from rfl] at HW
  replace HW := Lib.hid HW
  obtain ⟨R, hR⟩ : ∃ R, stmtL l = R := ⟨_, rfl⟩
  rw [hR]
  have HR := Lib.hid ((show stmtL l = match wordsL l with | (x, W) => if x = 0 then stmtW W else (x, St0) from rfl).symm.trans hR)
  have HOK := Lib.hid (fun (h : (wordsL l).1 = 0) => wlist_ok h)
  obtain ⟨⟨x, W⟩, hx⟩ : ∃ X, wordsL l = X := ⟨_, rfl⟩
  replace HW := HW.out
  replace HR := HR.out
  replace HOK := HOK.out
  rw [hx] at HW HR HOK
  simp only at HR HOK
  replace HW := Lib.hid HW
  replace HR := Lib.hid HR
  replace HOK := Lib.hid HOK
  clear hx hR hl
  go_enter Tryz.func7, Tryz.ntmps7
  go_upto_region 1 with fail
  obtain ⟨W1, hW_, hb1, BR⟩ : ∃ W_, W_ = (w.alloc (.cells #[.int .i64 0, .string ⟨#[]⟩, .slice none 0 0, .int .i64 0, .bool false, .string ⟨#[]⟩, .string ⟨#[]⟩, .slice none 0 0, .slice none 0 0, .slice none 0 0, .slice none 0 0, .slice none 0 0, .string ⟨#[]⟩, .string ⟨#[]⟩, .bool false, .int .i64 0, .string ⟨#[]⟩] 34)) ∧ Below w.heap.size w W_ ∧ Blk W_ (w.heap.size) 34 #[.int .i64 0, .string ⟨#[]⟩, .slice none 0 0, .int .i64 0, .bool false, .string ⟨#[]⟩, .string ⟨#[]⟩, .slice none 0 0, .slice none 0 0, .slice none 0 0, .slice none 0 0, .slice none 0 0, .string ⟨#[]⟩, .string ⟨#[]⟩, .bool false, .int .i64 0, .string ⟨#[]⟩] :=
    ⟨_, rfl, ((Below.refl _ _).alloc (Nat.le_refl _) _), (blk_new_at w (w.heap.size) _ _ (by simp))⟩
  rw [← hW_]
  clear hW_
  obtain ⟨rb, hrb⟩ : ∃ rb, w.heap.size = rb := ⟨_, rfl⟩
  have HB1 := Lib.hid hb1
  rw [hrb] at BR ⊢
  have hwr : w.heap.size ≤ rb := by omega
  have HBR1 := Lib.hid BR
  have hrl1 := BR.lt
  clear hb1 BR hrb
  generalize W1 = w1 at *
  go_wp2_with fail
  refine (HW.out w1).mono ?_
  rintro e w2 ⟨v, rfl, hown, hb2⟩
  simp only at hown ⊢
  have HBR2 := Lib.hid (HBR1.out.ext hb2)
  have HB2 := Lib.hid (bch0 HB1.out hb2)
  have hlw := HBR1.out.lt
  by_cases he : x = 0
  case neg =>
    have hd : (x != 0) = true := by simpa using he
    obtain rfl : (x, St0) = R := by rw [← HR.out, if_neg he]
    clear he hown hb2
    obtain ⟨wz, hwz, BN, hgz⟩ := Blk.setRow HBR2.out (#[.int .i64 0, .string ⟨#[]⟩, .slice none 0 0, .int .i64 0, .bool false, .string ⟨#[]⟩, .string ⟨#[]⟩, .slice none 0 0, .slice none 0 0, .slice none 0 0, .slice none 0 0, .slice none 0 0, .string ⟨#[]⟩, .string ⟨#[]⟩, .bool false, .int .i64 0, .string ⟨#[]⟩])
    have HWZ := Lib.hid hwz
    have HBN := Lib.hid BN
    have HBZ := Lib.hid (HB2.out.grown hgz HB2.out.size (by intro k hk; injection hk with hk; omega))
    have HGZ := Lib.hid hgz
    clear BN hgz hwz
    go_wp2_with (first | ((with_reducible show wpList _ _ _ (Oper.mk _ (Op.store 34 _ _) _ _ _ _ :: _) _ _); refine wpList_store_row rfl 34 _ _ rfl rb (#[.int .i64 0, .string ⟨#[]⟩, .slice none 0 0, .int .i64 0, .bool false, .string ⟨#[]⟩, .string ⟨#[]⟩, .slice none 0 0, .slice none 0 0, .slice none 0 0, .slice none 0 0, .slice none 0 0, .string ⟨#[]⟩, .string ⟨#[]⟩, .bool false, .int .i64 0, .string ⟨#[]⟩]) rfl rfl 34 _ HBR2.out (by kernel_rfl) rfl (by kernel_rfl) ?_; rw [← HWZ.out]))
    have HLD := run_loadVar_row (P := Tryz.prog) wz rb 34 34 (#[.int .i64 0, .string ⟨#[]⟩, .slice none 0 0, .int .i64 0, .bool false, .string ⟨#[]⟩, .string ⟨#[]⟩, .slice none 0 0, .slice none 0 0, .slice none 0 0, .slice none 0 0, .slice none 0 0, .string ⟨#[]⟩, .string ⟨#[]⟩, .bool false, .int .i64 0, .string ⟨#[]⟩]) (0, 0) _ HBN.out Tryz.underlying34 rfl (by kernel_rfl)
    refine bodyPost_ret (v := .tuple #[.agg (#[.int .i64 0, .string ⟨#[]⟩, .slice none 0 0, .int .i64 0, .bool false, .string ⟨#[]⟩, .string ⟨#[]⟩, .slice none 0 0, .slice none 0 0, .slice none 0 0, .slice none 0 0, .slice none 0 0, .string ⟨#[]⟩, .string ⟨#[]⟩, .bool false, .int .i64 0, .string ⟨#[]⟩]), .int .i64 (x)]) ?_ ?_ ?_
    · exact results_cell2 Tryz.results7 _ wz rb (#[.int .i64 0, .string ⟨#[]⟩, .slice none 0 0, .int .i64 0, .bool false, .string ⟨#[]⟩, .string ⟨#[]⟩, .slice none 0 0, .slice none 0 0, .slice none 0 0, .slice none 0 0, .slice none 0 0, .string ⟨#[]⟩, .string ⟨#[]⟩, .bool false, .int .i64 0, .string ⟨#[]⟩]) _ rfl rfl HLD
    · rfl
    · exact ⟨_, rfl, (show StO wz St0 Vs0 from sto_nil _), HBZ.out⟩
  subst he
  obtain ⟨hwok, hwl, hws⟩ := HOK.out rfl
  have hr := HR.out
  rw [if_pos rfl] at hr
  obtain ⟨b, c, rfl, hb1', hb2'⟩ := hown.form hwok.pos
  have hcm := own_cap hown
  have hbrn : b ≠ rb := by omega
  go_upto_region 5 with fail
  obtain ⟨W3, hW_, hb3, BP⟩ : ∃ W_, W_ = (w2.alloc (.cells #[.slice (some ⟨b, 0, none⟩) W.length c, .int .i64 0] 52)) ∧ Below w2.heap.size w2 W_ ∧ Blk W_ (w2.heap.size) 52 #[.slice (some ⟨b, 0, none⟩) W.length c, .int .i64 0] :=
    ⟨_, rfl, ((Below.refl _ _).alloc (Nat.le_refl _) _), (blk_new_at w2 (w2.heap.size) _ _ (by simp))⟩
  rw [← hW_]
  clear hW_
  have hp := pr_new hown hb3 BP (Nat.le_refl _) hcm hwok hwl hws
  have HP3 := Lib.hid hp
  have HB3 := Lib.hid (bch0 HB2.out hb3)
  have HBR3 := Lib.hid (HBR2.out.ext hb3)
  have hgl := BP.lt
  have hz2 := HB2.out.size
  have hpos := hwok.pos
  have hposi : (0 : Int) < (W.length : Int) := by omega
  have hrl2 := HBR2.out.lt
  obtain ⟨g, hg⟩ : ∃ g, w2.heap.size = g := ⟨_, rfl⟩
  replace HP3 := HP3.out
  rw [hg] at HP3 hgl hrl2 ⊢
  replace HP3 := Lib.hid HP3
  have hwg : w.heap.size ≤ g := by omega
  clear hb3 BP hown hwok hwl hws hb1' hb2' hcm hg hb2 hp HB1 HBR1 HB2 HBR2 hlw HW HOK HR
  generalize W3 = w3 at *
  go_wp2_with fail
  refine (statements_ g w3).mono ?_
  rintro e w4 ⟨m, b7, b8, rfl, hM4, hm4, hc7, hc8, hl7, hl8, hh7, hh8, hb4⟩
  have HP4 := Lib.hid (HP3.out.ext hb4)
  have HB4 := Lib.hid (bch0 HB3.out hb4)
  have HBR4 := Lib.hid (HBR3.out.ext hb4)
  have HM4 := Lib.hid hM4
  have HC4 := Lib.hid (And.intro hc7 (And.intro hc8 (And.intro hh7 hh8)))
  clear hb4 hM4 hc7 hc8 hh7 hh8 HP3 HB3 HBR3
  have fe2 := wfield2
  have HLK := Lib.hid (look_ W g b7 b8 (cur W ⟨0, 0⟩).s)
  have hsw := (show stmtW W = match doP W (cur W ⟨0, 0⟩).s with
    | some f => if (cur W ⟨0, 0⟩).k = 1 then finP W (f (nextP W ⟨0, 0⟩)) else (6, St0)
    | none => (6, St0) from rfl).symm.trans hr
  have HNX := Lib.hid (pnext_ HP4.out)
  obtain ⟨x, hx⟩ : ∃ x, cur W ⟨0, 0⟩ = x := ⟨_, rfl⟩
  replace HLK := HLK.out
  replace HNX := HNX.out
  have HFS := Lib.hid (fun w' q (y : Pr w' g W b q) => y.first)
  replace HFS := HFS.out
  rw [hx] at HLK HNX hsw HFS
  replace HFS := Lib.hid HFS
  replace HNX := Lib.hid HNX
  have HSW := Lib.hid hsw
  clear hsw hr hx
  go_wp2_with fail
  refine (HNX.out).mono ?_
  rintro e w7 ⟨rfl, h_, hg_⟩
  have hgl4 := HP4.out.gl
  have HP7 := Lib.hid h_
  have HB7 := Lib.hid (HB4.out.grown hg_ HB4.out.size (by intro k hk; injection hk with hk; omega))
  have HBR7 := Lib.hid (HBR4.out.grown hg_ (by simp; omega))
  have HM7 := Lib.hid (HM4.out.grown hg_ (by simp; omega))
  have HC7 := Lib.hid (And.intro (box_grown HC4.out.1 HC4.out.2.2.1 hg_ (by omega)) (box_grown HC4.out.2.1 HC4.out.2.2.2 hg_ (by omega)))
  have hfk := HFS.out w7 _ h_
  clear h_ hg_ HP4 HB4 HBR4 HM4 HC4 HNX HFS
  unfold wordV
  have HLO := Lib.hid (rfl : mlook (stmtM g b7 b8) x.s .nilFunc = mlook (stmtM g b7 b8) x.s .nilFunc)
  obtain ⟨ML, hML⟩ : ∃ y, mlook (stmtM g b7 b8) x.s .nilFunc = y := ⟨_, rfl⟩
  rw [hML] at HLK
  have HML := Lib.hid hML
  clear hML HLO
  cases HLK with
  | none hd0 =>
    obtain rfl : (6, St0) = R := by rw [← HSW.out, hd0]
    clear hd0
    obtain ⟨wz, hwz, BN, hgz⟩ := Blk.setRow HBR7.out (#[.int .i64 0, .string ⟨#[]⟩, .slice none 0 0, .int .i64 0, .bool false, .string ⟨#[]⟩, .string ⟨#[]⟩, .slice none 0 0, .slice none 0 0, .slice none 0 0, .slice none 0 0, .slice none 0 0, .string ⟨#[]⟩, .string ⟨#[]⟩, .bool false, .int .i64 0, .string ⟨#[]⟩])
    have HWZ := Lib.hid hwz
    have HBN := Lib.hid BN
    have HBZ := Lib.hid (HB7.out.grown hgz HB7.out.size (by intro k hk; injection hk with hk; omega))
    have HGZ := Lib.hid hgz
    clear BN hgz hwz
    go_wp2_with (first | (at_lookup; refine wpList_look_lit rfl _ _ 55 true rfl 9 53 Tryz.underlying55 Tryz.underlying9 .nilFunc zeroF m (stmtM g b7 b8) rfl HM7.out x.s _ rfl rfl ?_; rw [HML.out]) | ((with_reducible show wpList _ _ _ (Oper.mk _ (Op.store 34 _ _) _ _ _ _ :: _) _ _); refine wpList_store_row rfl 34 _ _ rfl rb (#[.int .i64 0, .string ⟨#[]⟩, .slice none 0 0, .int .i64 0, .bool false, .string ⟨#[]⟩, .string ⟨#[]⟩, .slice none 0 0, .slice none 0 0, .slice none 0 0, .slice none 0 0, .slice none 0 0, .string ⟨#[]⟩, .string ⟨#[]⟩, .bool false, .int .i64 0, .string ⟨#[]⟩]) rfl rfl 34 _ HBR7.out (by kernel_rfl) rfl (by kernel_rfl) ?_; rw [← HWZ.out]))
    have HLD := run_loadVar_row (P := Tryz.prog) wz rb 34 34 (#[.int .i64 0, .string ⟨#[]⟩, .slice none 0 0, .int .i64 0, .bool false, .string ⟨#[]⟩, .string ⟨#[]⟩, .slice none 0 0, .slice none 0 0, .slice none 0 0, .slice none 0 0, .slice none 0 0, .string ⟨#[]⟩, .string ⟨#[]⟩, .bool false, .int .i64 0, .string ⟨#[]⟩]) (0, 0) _ HBN.out Tryz.underlying34 rfl (by kernel_rfl)
    refine bodyPost_ret (v := .tuple #[.agg (#[.int .i64 0, .string ⟨#[]⟩, .slice none 0 0, .int .i64 0, .bool false, .string ⟨#[]⟩, .string ⟨#[]⟩, .slice none 0 0, .slice none 0 0, .slice none 0 0, .slice none 0 0, .slice none 0 0, .string ⟨#[]⟩, .string ⟨#[]⟩, .bool false, .int .i64 0, .string ⟨#[]⟩]), .int .i64 (6)]) ?_ ?_ ?_
    · exact results_cell2 Tryz.results7 _ wz rb (#[.int .i64 0, .string ⟨#[]⟩, .slice none 0 0, .int .i64 0, .bool false, .string ⟨#[]⟩, .string ⟨#[]⟩, .slice none 0 0, .slice none 0 0, .slice none 0 0, .slice none 0 0, .slice none 0 0, .string ⟨#[]⟩, .string ⟨#[]⟩, .bool false, .int .i64 0, .string ⟨#[]⟩]) _ rfl rfl HLD
    · rfl
    · exact ⟨_, rfl, (show StO wz St0 Vs0 from sto_nil _), HBZ.out⟩
  | rule fs f hd0 hc he =>
    have HSW2 := Lib.hid (show (if x.k = 1 then finP W (f W (nextP W ⟨0, 0⟩)) else (6, St0)) = R by rw [← HSW.out, hd0])
    clear hd0 HSW
    by_cases hk : x.k = 1
    case neg =>
      have hk1 : (x.k != 1) = true := by simpa using hk
      obtain rfl : (6, St0) = R := by rw [← HSW2.out, if_neg hk]
      clear hk he hc
      obtain ⟨wz, hwz, BN, hgz⟩ := Blk.setRow HBR7.out (#[.int .i64 0, .string ⟨#[]⟩, .slice none 0 0, .int .i64 0, .bool false, .string ⟨#[]⟩, .string ⟨#[]⟩, .slice none 0 0, .slice none 0 0, .slice none 0 0, .slice none 0 0, .slice none 0 0, .string ⟨#[]⟩, .string ⟨#[]⟩, .bool false, .int .i64 0, .string ⟨#[]⟩])
      have HWZ := Lib.hid hwz
      have HBN := Lib.hid BN
      have HBZ := Lib.hid (HB7.out.grown hgz HB7.out.size (by intro k hk; injection hk with hk; omega))
      have HGZ := Lib.hid hgz
      clear BN hgz hwz
      go_wp2_with (first | (at_lookup; refine wpList_look_lit rfl _ _ 55 true rfl 9 53 Tryz.underlying55 Tryz.underlying9 .nilFunc zeroF m (stmtM g b7 b8) rfl HM7.out x.s _ rfl rfl ?_; rw [HML.out]) | ((with_reducible show wpList _ _ _ (Oper.mk _ (Op.store 34 _ _) _ _ _ _ :: _) _ _); refine wpList_store_row rfl 34 _ _ rfl rb (#[.int .i64 0, .string ⟨#[]⟩, .slice none 0 0, .int .i64 0, .bool false, .string ⟨#[]⟩, .string ⟨#[]⟩, .slice none 0 0, .slice none 0 0, .slice none 0 0, .slice none 0 0, .slice none 0 0, .string ⟨#[]⟩, .string ⟨#[]⟩, .bool false, .int .i64 0, .string ⟨#[]⟩]) rfl rfl 34 _ HBR7.out (by kernel_rfl) rfl (by kernel_rfl) ?_; rw [← HWZ.out]))
      have HLD := run_loadVar_row (P := Tryz.prog) wz rb 34 34 (#[.int .i64 0, .string ⟨#[]⟩, .slice none 0 0, .int .i64 0, .bool false, .string ⟨#[]⟩, .string ⟨#[]⟩, .slice none 0 0, .slice none 0 0, .slice none 0 0, .slice none 0 0, .slice none 0 0, .string ⟨#[]⟩, .string ⟨#[]⟩, .bool false, .int .i64 0, .string ⟨#[]⟩]) (0, 0) _ HBN.out Tryz.underlying34 rfl (by kernel_rfl)
      refine bodyPost_ret (v := .tuple #[.agg (#[.int .i64 0, .string ⟨#[]⟩, .slice none 0 0, .int .i64 0, .bool false, .string ⟨#[]⟩, .string ⟨#[]⟩, .slice none 0 0, .slice none 0 0, .slice none 0 0, .slice none 0 0, .slice none 0 0, .string ⟨#[]⟩, .string ⟨#[]⟩, .bool false, .int .i64 0, .string ⟨#[]⟩]), .int .i64 (6)]) ?_ ?_ ?_
      · exact results_cell2 Tryz.results7 _ wz rb (#[.int .i64 0, .string ⟨#[]⟩, .slice none 0 0, .int .i64 0, .bool false, .string ⟨#[]⟩, .string ⟨#[]⟩, .slice none 0 0, .slice none 0 0, .slice none 0 0, .slice none 0 0, .slice none 0 0, .string ⟨#[]⟩, .string ⟨#[]⟩, .bool false, .int .i64 0, .string ⟨#[]⟩]) _ rfl rfl HLD
      · rfl
      · exact ⟨_, rfl, (show StO wz St0 Vs0 from sto_nil _), HBZ.out⟩
    have hk1 : (x.k != 1) = false := by simpa using hk
    have HFIN := Lib.hid (show finP W (f W (nextP W ⟨0, 0⟩)) = R by rw [← HSW2.out, if_pos hk])
    have HDO := Lib.hid (hc w7 g W b _ HP7.out)
    replace HDO := HDO.out
    unfold StmP at HDO
    obtain ⟨⟨st, q⟩, hfx⟩ : ∃ X, f W (nextP W ⟨0, 0⟩) = X := ⟨_, rfl⟩
    replace HFIN := HFIN.out
    rw [hfx] at HFIN HDO
    simp only at HDO
    replace HFIN := Lib.hid HFIN
    replace HDO := Lib.hid HDO
    clear hk hc hfx HSW2
    go_wp2_with (first | (at_lookup; refine wpList_look_lit rfl _ _ 55 true rfl 9 53 Tryz.underlying55 Tryz.underlying9 .nilFunc zeroF m (stmtM g b7 b8) rfl HM7.out x.s _ rfl rfl ?_; rw [HML.out]))
    refine (HDO.out).mono ?_
    rintro e w8 ⟨v, rfl, ho, h_, hg_⟩
    have hgl7 := HP7.out.gl
    have HO := Lib.hid ho
    have HP8 := Lib.hid h_
    have HB8 := Lib.hid (HB7.out.grown hg_ HB7.out.size (by intro k hk; injection hk with hk; omega))
    have HBR8 := Lib.hid (HBR7.out.grown hg_ (by simp; omega))
    clear ho h_ hg_ HP7 HB7 HBR7 HM7 HC7 hfk HDO HML hk1 he
    obtain ⟨w9, hw9, BX9, hg9⟩ := Blk.setRow (Blk.new w8 34 #[.int .i64 0, .string ⟨#[]⟩, .slice none 0 0, .int .i64 0, .bool false, .string ⟨#[]⟩, .string ⟨#[]⟩, .slice none 0 0, .slice none 0 0, .slice none 0 0, .slice none 0 0, .slice none 0 0, .string ⟨#[]⟩, .string ⟨#[]⟩, .bool false, .int .i64 0, .string ⟨#[]⟩]) (cellsSt st v)
    have HW9 := Lib.hid hw9
    have ha := (Below.refl w8.heap.size w8).alloc (Nat.le_refl _) (.cells #[.int .i64 0, .string ⟨#[]⟩, .slice none 0 0, .int .i64 0, .bool false, .string ⟨#[]⟩, .string ⟨#[]⟩, .slice none 0 0, .slice none 0 0, .slice none 0 0, .slice none 0 0, .slice none 0 0, .string ⟨#[]⟩, .string ⟨#[]⟩, .bool false, .int .i64 0, .string ⟨#[]⟩] 34)
    have hb9 : Below w8.heap.size w8 w9 := ha.grown hg9 (by have := ha.size; omega) (by intro k hk; injection hk with hk; omega)
    have HP9 := Lib.hid (HP8.out.ext hb9)
    have HO9 := Lib.hid (HO.out.ext hb9)
    have HB9 := Lib.hid (bch0 HB8.out hb9)
    have HBR9 := Lib.hid (HBR8.out.ext hb9)
    have hrx := HBR8.out.lt
    have hgx := HP8.out.gl
    obtain ⟨xb, hxb⟩ : ∃ xb, w8.heap.size = xb := ⟨_, rfl⟩
    rw [hxb] at BX9 hrx hgx
    have HBX9 := Lib.hid BX9
    have HXB := Lib.hid hxb
    have H1 := Lib.hid (st_one HO.out)
    clear hw9 BX9 hg9 ha hb9 hxb
    go_wp2_with (first | ((with_reducible show wpList _ _ _ (Oper.mk _ (Op.store 34 _ _) _ _ _ _ :: _) _ _); refine wpList_store_row rfl 34 _ _ rfl w8.heap.size (cellsSt st v) rfl rfl 34 _ (Blk.new w8 34 #[.int .i64 0, .string ⟨#[]⟩, .slice none 0 0, .int .i64 0, .bool false, .string ⟨#[]⟩, .string ⟨#[]⟩, .slice none 0 0, .slice none 0 0, .slice none 0 0, .slice none 0 0, .slice none 0 0, .string ⟨#[]⟩, .string ⟨#[]⟩, .bool false, .int .i64 0, .string ⟨#[]⟩]) (by kernel_rfl) rfl (H1.out) ?_; rw [← HW9.out]))
    refine (pend_ HP9.out).mono ?_
    rintro e w10 ⟨rfl, h_, hg_⟩
    rw [HXB.out]
    have hgz9 := HP9.out.gl
    obtain ⟨_, hbk⟩ := HP9.out.blk
    have HO10 := Lib.hid (HO9.out.kb hbk notP hg_)
    have HP10 := Lib.hid h_
    have HB10 := Lib.hid (HB9.out.grown hg_ HB9.out.size (by intro k hk; injection hk with hk; omega))
    have HBR10 := Lib.hid (HBR9.out.grown hg_ (by simp; omega))
    have HBX10 := Lib.hid (HBX9.out.grown hg_ (by simp; omega))
    have q0 : w10.cell? ⟨xb, 0, none⟩ = some (.int .i64 st.kind) := HBX10.out.cell 0
    have q3 : w10.cell? ⟨xb, 3, none⟩ = some (.int .i64 st.key) := HBX10.out.cell 3
    clear h_ hg_ hbk HP9 HO9 HB9 HBR9 HBX9 HP8 HO HB8 HBR8
    have HFI := Lib.hid ((show finP W (st, q) = match lastP W (st, q) with | q => if q.err = 0 then (0, st) else (q.err, St0) from rfl).symm.trans HFIN.out)
    have HLA := Lib.hid (show lastP W (st, q) = if st.kind = 1 ∧ st.key < 0 then failP 2 (endP W q) else endP W q from rfl)
    obtain ⟨q1, hq1⟩ : ∃ x, endP W q = x := ⟨_, rfl⟩
    obtain ⟨q2, hq2⟩ : ∃ x, lastP W (st, q) = x := ⟨_, rfl⟩
    replace HFI := HFI.out
    replace HLA := HLA.out
    replace HP10 := HP10.out
    rw [hq2] at HFI HLA
    rw [hq1] at HLA HP10
    replace HFI := Lib.hid (show (if q2.err = 0 then (0, st) else (q2.err, St0)) = R from HFI)
    replace HLA := Lib.hid HLA
    replace HP10 := Lib.hid HP10
    clear hq1 hq2 HFIN
    have hcs : (st.kind = 1 ∧ st.key < 0) ∨ (¬ st.kind = 1) ∨ (st.kind = 1 ∧ ¬ st.key < 0) := by omega
    rcases hcs with ⟨ha, hb⟩ | ha | ⟨ha, hb⟩
    · have d1 : (st.kind == 1) = true := by simpa using ha
      have d2 : decide (st.key < 0) = true := by simpa using hb
      obtain rfl : q2 = failP 2 q1 := by rw [HLA.out, if_pos ⟨ha, hb⟩]
      have HF := Lib.hid (pfail_ 2 HP10.out)
      clear ha hb
      go_wp2_with fail
      refine (HF.out).mono ?_
      rintro e w11 ⟨rfl, h_, hg_⟩
      obtain ⟨_, hbk⟩ := HP10.out.blk
      have hgz10 := HP10.out.gl
      have HO11 := Lib.hid (HO10.out.kb hbk notP hg_)
      have HP11 := Lib.hid h_
      have HB11 := Lib.hid (HB10.out.grown hg_ HB10.out.size (by intro k hk; injection hk with hk; omega))
      have HBR11 := Lib.hid (HBR10.out.grown hg_ (by simp; omega))
      have HBX11 := Lib.hid (HBX10.out.grown hg_ (by simp; omega))
      clear h_ hg_ hbk q0 q3 d1 d2 HF HP10 HB10 HBR10 HBX10
      generalize failP 2 q1 = q2 at *
      have ec := HP11.out.ecell
      by_cases he : q2.err = 0
      case pos =>
        have hd : (q2.err != 0) = false := by simpa using he
        obtain rfl : (0, st) = R := by rw [← HFI.out, if_pos he]
        clear he
        obtain ⟨wz, hwz, BN, hgz⟩ := Blk.setRow HBR11.out (cellsSt st v)
        have HWZ := Lib.hid hwz
        have HBN := Lib.hid BN
        have HBZ := Lib.hid (HB11.out.grown hgz HB11.out.size (by intro k hk; injection hk with hk; omega))
        have HGZ := Lib.hid hgz
        clear BN hgz hwz
        have HOZ := Lib.hid (HO11.out.kb HBR11.out notSt HGZ.out)
        go_wp2_with (first | ((with_reducible show wpList _ _ _ (Oper.mk _ (Op.load 34 _) _ _ _ _ :: _) _ _); refine wpList_load_row rfl 34 _ rfl xb rfl 34 (cellsSt st v) (0, 0) _ HBX11.out Tryz.underlying34 rfl (by kernel_rfl) ?_) | ((with_reducible show wpList _ _ _ (Oper.mk _ (Op.store 34 _ _) _ _ _ _ :: _) _ _); refine wpList_store_row rfl 34 _ _ rfl rb (cellsSt st v) rfl rfl 34 _ HBR11.out (by kernel_rfl) rfl (H1.out) ?_; rw [← HWZ.out]))
        have HLD := run_loadVar_row (P := Tryz.prog) wz rb 34 34 (cellsSt st v) (0, 0) _ HBN.out Tryz.underlying34 rfl (by kernel_rfl)
        refine bodyPost_ret (v := .tuple #[.agg (cellsSt st v), .int .i64 (0)]) ?_ ?_ ?_
        · exact results_cell2 Tryz.results7 _ wz rb (cellsSt st v) _ rfl rfl HLD
        · rfl
        · exact ⟨_, rfl, HOZ.out, HBZ.out⟩
      case neg =>
        have hd : (q2.err != 0) = true := by simpa using he
        obtain rfl : (q2.err, St0) = R := by rw [← HFI.out, if_neg he]
        clear he
        go_upto_region 13 with fail
        have HPD := Lib.hid (HP11.out)
        obtain ⟨wz, hwz, BN, hgz⟩ := Blk.setRow (show Blk w11.drew rb 34 #[.int .i64 0, .string ⟨#[]⟩, .slice none 0 0, .int .i64 0, .bool false, .string ⟨#[]⟩, .string ⟨#[]⟩, .slice none 0 0, .slice none 0 0, .slice none 0 0, .slice none 0 0, .slice none 0 0, .string ⟨#[]⟩, .string ⟨#[]⟩, .bool false, .int .i64 0, .string ⟨#[]⟩] from HBR11.out) (#[.int .i64 0, .string ⟨#[]⟩, .slice none 0 0, .int .i64 0, .bool false, .string ⟨#[]⟩, .string ⟨#[]⟩, .slice none 0 0, .slice none 0 0, .slice none 0 0, .slice none 0 0, .slice none 0 0, .string ⟨#[]⟩, .string ⟨#[]⟩, .bool false, .int .i64 0, .string ⟨#[]⟩])
        have HWZ := Lib.hid hwz
        have HBN := Lib.hid BN
        have HBZ := Lib.hid ((HB11.out.drew).grown hgz HB11.out.size (by intro k hk; injection hk with hk; omega))
        have hgz11 := HP11.out.gl
        have hbz11 := HP11.out.bl
        have HEZ := Lib.hid (Pr.ecell ((show Pr w11.drew g W b q2 from HP11.out.ext (Below.drew (Below.refl _ _))).grown hgz (by simp; omega) (by simp; omega)))
        clear BN hgz hwz ec
        have D := fun (w' : World) (h : w'.cell? ⟨g, 1, none⟩ = some (.int .i64 q2.err)) => h
        refine wp_region_oneS (S := fun (w' : World) => w'.cell? ⟨g, 1, none⟩ = some (.int .i64 q2.err)) [(0, true), (1, true), (2, true), (3, true), (4, true), (5, false), (6, true)] (by kernel_rfl) (by kernel_rfl) (by kernel_rfl) (by decide) HPD.out.ecell ?_
        repeat ((with_reducible show wpPerm _ _ _ _ ((_, true) :: _) _ _); (first | (refine wpPerm_on (v := ?_) rfl rfl (wanted_free rfl) (fun w' hS => ?_) ?_; rotate_left; (focus (go_simp; (try with_reducible rfl); done)); try simp only [List.setIfInBounds_toArray, List.set_cons_zero, List.set_cons_succ]) | (refine wpPerm_on (v := ?_) rfl rfl (wanted_yes rfl rfl rfl) (fun w' hS => ?_) ?_; rotate_left; (focus (go_simp; (try with_reducible rfl); done)); try simp only [List.setIfInBounds_toArray, List.set_cons_zero, List.set_cons_succ]) | (refine wpPerm_off rfl rfl (wanted_no rfl rfl rfl) ?_; try simp only [List.setIfInBounds_toArray, List.set_cons_zero, List.set_cons_succ]) | (refine wpPerm_off rfl rfl (wanted_undef rfl rfl rfl) ?_; try simp only [List.setIfInBounds_toArray, List.set_cons_zero, List.set_cons_succ])))
        clear D
        refine wpPerm_do rfl (wanted_free rfl) (fun K hK => ?_)
        refine wp_store_row 34 _ _ rfl rb (#[.int .i64 0, .string ⟨#[]⟩, .slice none 0 0, .int .i64 0, .bool false, .string ⟨#[]⟩, .string ⟨#[]⟩, .slice none 0 0, .slice none 0 0, .slice none 0 0, .slice none 0 0, .slice none 0 0, .string ⟨#[]⟩, .string ⟨#[]⟩, .bool false, .int .i64 0, .string ⟨#[]⟩]) rfl rfl 34 _ (show Blk w11.drew rb 34 #[.int .i64 0, .string ⟨#[]⟩, .slice none 0 0, .int .i64 0, .bool false, .string ⟨#[]⟩, .string ⟨#[]⟩, .slice none 0 0, .slice none 0 0, .slice none 0 0, .slice none 0 0, .slice none 0 0, .string ⟨#[]⟩, .string ⟨#[]⟩, .bool false, .int .i64 0, .string ⟨#[]⟩] from HBR11.out) (by kernel_rfl) rfl (by kernel_rfl) ?_
        rw [← HWZ.out]
        refine hK.out _ _ HEZ.out ?_
        clear hK K
        repeat ((with_reducible show wpPerm _ _ _ _ ((_, true) :: _) _ _); (first | (refine wpPerm_on (v := ?_) rfl rfl (wanted_free rfl) (fun w' hS => ?_) ?_; rotate_left; (focus (go_simp; (try with_reducible rfl); done)); try simp only [List.setIfInBounds_toArray, List.set_cons_zero, List.set_cons_succ]) | (refine wpPerm_on (v := ?_) rfl rfl (wanted_yes rfl rfl rfl) (fun w' hS => ?_) ?_; rotate_left; (focus (go_simp; (try with_reducible rfl); done)); try simp only [List.setIfInBounds_toArray, List.set_cons_zero, List.set_cons_succ]) | (refine wpPerm_off rfl rfl (wanted_no rfl rfl rfl) ?_; try simp only [List.setIfInBounds_toArray, List.set_cons_zero, List.set_cons_succ]) | (refine wpPerm_off rfl rfl (wanted_undef rfl rfl rfl) ?_; try simp only [List.setIfInBounds_toArray, List.set_cons_zero, List.set_cons_succ])))
        refine wpPerm_done ?_
        go_wp2
        have HLD := run_loadVar_row (P := Tryz.prog) wz rb 34 34 (#[.int .i64 0, .string ⟨#[]⟩, .slice none 0 0, .int .i64 0, .bool false, .string ⟨#[]⟩, .string ⟨#[]⟩, .slice none 0 0, .slice none 0 0, .slice none 0 0, .slice none 0 0, .slice none 0 0, .string ⟨#[]⟩, .string ⟨#[]⟩, .bool false, .int .i64 0, .string ⟨#[]⟩]) (0, 0) _ HBN.out Tryz.underlying34 rfl (by kernel_rfl)
        refine bodyPost_ret (v := .tuple #[.agg (#[.int .i64 0, .string ⟨#[]⟩, .slice none 0 0, .int .i64 0, .bool false, .string ⟨#[]⟩, .string ⟨#[]⟩, .slice none 0 0, .slice none 0 0, .slice none 0 0, .slice none 0 0, .slice none 0 0, .string ⟨#[]⟩, .string ⟨#[]⟩, .bool false, .int .i64 0, .string ⟨#[]⟩]), .int .i64 (q2.err)]) ?_ ?_ ?_
        · exact results_cell2 Tryz.results7 _ wz rb (#[.int .i64 0, .string ⟨#[]⟩, .slice none 0 0, .int .i64 0, .bool false, .string ⟨#[]⟩, .string ⟨#[]⟩, .slice none 0 0, .slice none 0 0, .slice none 0 0, .slice none 0 0, .slice none 0 0, .string ⟨#[]⟩, .string ⟨#[]⟩, .bool false, .int .i64 0, .string ⟨#[]⟩]) _ rfl rfl HLD
        · rfl
        · exact ⟨_, rfl, (show StO wz St0 Vs0 from sto_nil _), HBZ.out⟩
    · have d1 : (st.kind == 1) = false := by simpa using ha
      obtain rfl : q2 = q1 := by rw [HLA.out, if_neg (by rintro ⟨h, _⟩; exact ha h)]
      have HO11 := HO10
      have HP11 := HP10
      have HB11 := HB10
      have HBR11 := HBR10
      have HBX11 := HBX10
      clear ha
      generalize w10 = w11 at *
      have ec := HP11.out.ecell
      by_cases he : q2.err = 0
      case pos =>
        have hd : (q2.err != 0) = false := by simpa using he
        obtain rfl : (0, st) = R := by rw [← HFI.out, if_pos he]
        clear he
        obtain ⟨wz, hwz, BN, hgz⟩ := Blk.setRow HBR11.out (cellsSt st v)
        have HWZ := Lib.hid hwz
        have HBN := Lib.hid BN
        have HBZ := Lib.hid (HB11.out.grown hgz HB11.out.size (by intro k hk; injection hk with hk; omega))
        have HGZ := Lib.hid hgz
        clear BN hgz hwz
        have HOZ := Lib.hid (HO11.out.kb HBR11.out notSt HGZ.out)
        go_wp2_with (first | ((with_reducible show wpList _ _ _ (Oper.mk _ (Op.load 34 _) _ _ _ _ :: _) _ _); refine wpList_load_row rfl 34 _ rfl xb rfl 34 (cellsSt st v) (0, 0) _ HBX11.out Tryz.underlying34 rfl (by kernel_rfl) ?_) | ((with_reducible show wpList _ _ _ (Oper.mk _ (Op.store 34 _ _) _ _ _ _ :: _) _ _); refine wpList_store_row rfl 34 _ _ rfl rb (cellsSt st v) rfl rfl 34 _ HBR11.out (by kernel_rfl) rfl (H1.out) ?_; rw [← HWZ.out]))
        have HLD := run_loadVar_row (P := Tryz.prog) wz rb 34 34 (cellsSt st v) (0, 0) _ HBN.out Tryz.underlying34 rfl (by kernel_rfl)
        refine bodyPost_ret (v := .tuple #[.agg (cellsSt st v), .int .i64 (0)]) ?_ ?_ ?_
        · exact results_cell2 Tryz.results7 _ wz rb (cellsSt st v) _ rfl rfl HLD
        · rfl
        · exact ⟨_, rfl, HOZ.out, HBZ.out⟩
      case neg =>
        have hd : (q2.err != 0) = true := by simpa using he
        obtain rfl : (q2.err, St0) = R := by rw [← HFI.out, if_neg he]
        clear he
        go_upto_region 13 with fail
        have HPD := Lib.hid (HP11.out)
        obtain ⟨wz, hwz, BN, hgz⟩ := Blk.setRow (show Blk w11.drew rb 34 #[.int .i64 0, .string ⟨#[]⟩, .slice none 0 0, .int .i64 0, .bool false, .string ⟨#[]⟩, .string ⟨#[]⟩, .slice none 0 0, .slice none 0 0, .slice none 0 0, .slice none 0 0, .slice none 0 0, .string ⟨#[]⟩, .string ⟨#[]⟩, .bool false, .int .i64 0, .string ⟨#[]⟩] from HBR11.out) (#[.int .i64 0, .string ⟨#[]⟩, .slice none 0 0, .int .i64 0, .bool false, .string ⟨#[]⟩, .string ⟨#[]⟩, .slice none 0 0, .slice none 0 0, .slice none 0 0, .slice none 0 0, .slice none 0 0, .string ⟨#[]⟩, .string ⟨#[]⟩, .bool false, .int .i64 0, .string ⟨#[]⟩])
        have HWZ := Lib.hid hwz
        have HBN := Lib.hid BN
        have HBZ := Lib.hid ((HB11.out.drew).grown hgz HB11.out.size (by intro k hk; injection hk with hk; omega))
        have hgz11 := HP11.out.gl
        have hbz11 := HP11.out.bl
        have HEZ := Lib.hid (Pr.ecell ((show Pr w11.drew g W b q2 from HP11.out.ext (Below.drew (Below.refl _ _))).grown hgz (by simp; omega) (by simp; omega)))
        clear BN hgz hwz ec
        have D := fun (w' : World) (h : w'.cell? ⟨g, 1, none⟩ = some (.int .i64 q2.err)) => h
        refine wp_region_oneS (S := fun (w' : World) => w'.cell? ⟨g, 1, none⟩ = some (.int .i64 q2.err)) [(0, true), (1, true), (2, true), (3, true), (4, true), (5, false), (6, true)] (by kernel_rfl) (by kernel_rfl) (by kernel_rfl) (by decide) HPD.out.ecell ?_
        repeat ((with_reducible show wpPerm _ _ _ _ ((_, true) :: _) _ _); (first | (refine wpPerm_on (v := ?_) rfl rfl (wanted_free rfl) (fun w' hS => ?_) ?_; rotate_left; (focus (go_simp; (try with_reducible rfl); done)); try simp only [List.setIfInBounds_toArray, List.set_cons_zero, List.set_cons_succ]) | (refine wpPerm_on (v := ?_) rfl rfl (wanted_yes rfl rfl rfl) (fun w' hS => ?_) ?_; rotate_left; (focus (go_simp; (try with_reducible rfl); done)); try simp only [List.setIfInBounds_toArray, List.set_cons_zero, List.set_cons_succ]) | (refine wpPerm_off rfl rfl (wanted_no rfl rfl rfl) ?_; try simp only [List.setIfInBounds_toArray, List.set_cons_zero, List.set_cons_succ]) | (refine wpPerm_off rfl rfl (wanted_undef rfl rfl rfl) ?_; try simp only [List.setIfInBounds_toArray, List.set_cons_zero, List.set_cons_succ])))
        clear D
        refine wpPerm_do rfl (wanted_free rfl) (fun K hK => ?_)
        refine wp_store_row 34 _ _ rfl rb (#[.int .i64 0, .string ⟨#[]⟩, .slice none 0 0, .int .i64 0, .bool false, .string ⟨#[]⟩, .string ⟨#[]⟩, .slice none 0 0, .slice none 0 0, .slice none 0 0, .slice none 0 0, .slice none 0 0, .string ⟨#[]⟩, .string ⟨#[]⟩, .bool false, .int .i64 0, .string ⟨#[]⟩]) rfl rfl 34 _ (show Blk w11.drew rb 34 #[.int .i64 0, .string ⟨#[]⟩, .slice none 0 0, .int .i64 0, .bool false, .string ⟨#[]⟩, .string ⟨#[]⟩, .slice none 0 0, .slice none 0 0, .slice none 0 0, .slice none 0 0, .slice none 0 0, .string ⟨#[]⟩, .string ⟨#[]⟩, .bool false, .int .i64 0, .string ⟨#[]⟩] from HBR11.out) (by kernel_rfl) rfl (by kernel_rfl) ?_
        rw [← HWZ.out]
        refine hK.out _ _ HEZ.out ?_
        clear hK K
        repeat ((with_reducible show wpPerm _ _ _ _ ((_, true) :: _) _ _); (first | (refine wpPerm_on (v := ?_) rfl rfl (wanted_free rfl) (fun w' hS => ?_) ?_; rotate_left; (focus (go_simp; (try with_reducible rfl); done)); try simp only [List.setIfInBounds_toArray, List.set_cons_zero, List.set_cons_succ]) | (refine wpPerm_on (v := ?_) rfl rfl (wanted_yes rfl rfl rfl) (fun w' hS => ?_) ?_; rotate_left; (focus (go_simp; (try with_reducible rfl); done)); try simp only [List.setIfInBounds_toArray, List.set_cons_zero, List.set_cons_succ]) | (refine wpPerm_off rfl rfl (wanted_no rfl rfl rfl) ?_; try simp only [List.setIfInBounds_toArray, List.set_cons_zero, List.set_cons_succ]) | (refine wpPerm_off rfl rfl (wanted_undef rfl rfl rfl) ?_; try simp only [List.setIfInBounds_toArray, List.set_cons_zero, List.set_cons_succ])))
        refine wpPerm_done ?_
        go_wp2
        have HLD := run_loadVar_row (P := Tryz.prog) wz rb 34 34 (#[.int .i64 0, .string ⟨#[]⟩, .slice none 0 0, .int .i64 0, .bool false, .string ⟨#[]⟩, .string ⟨#[]⟩, .slice none 0 0, .slice none 0 0, .slice none 0 0, .slice none 0 0, .slice none 0 0, .string ⟨#[]⟩, .string ⟨#[]⟩, .bool false, .int .i64 0, .string ⟨#[]⟩]) (0, 0) _ HBN.out Tryz.underlying34 rfl (by kernel_rfl)
        refine bodyPost_ret (v := .tuple #[.agg (#[.int .i64 0, .string ⟨#[]⟩, .slice none 0 0, .int .i64 0, .bool false, .string ⟨#[]⟩, .string ⟨#[]⟩, .slice none 0 0, .slice none 0 0, .slice none 0 0, .slice none 0 0, .slice none 0 0, .string ⟨#[]⟩, .string ⟨#[]⟩, .bool false, .int .i64 0, .string ⟨#[]⟩]), .int .i64 (q2.err)]) ?_ ?_ ?_
        · exact results_cell2 Tryz.results7 _ wz rb (#[.int .i64 0, .string ⟨#[]⟩, .slice none 0 0, .int .i64 0, .bool false, .string ⟨#[]⟩, .string ⟨#[]⟩, .slice none 0 0, .slice none 0 0, .slice none 0 0, .slice none 0 0, .slice none 0 0, .string ⟨#[]⟩, .string ⟨#[]⟩, .bool false, .int .i64 0, .string ⟨#[]⟩]) _ rfl rfl HLD
        · rfl
        · exact ⟨_, rfl, (show StO wz St0 Vs0 from sto_nil _), HBZ.out⟩
    · have d1 : (st.kind == 1) = true := by simpa using ha
      have d2 : decide (st.key < 0) = false := by simpa using hb
      obtain rfl : q2 = q1 := by rw [HLA.out, if_neg (by rintro ⟨_, h⟩; exact hb h)]
      have HO11 := HO10
      have HP11 := HP10
      have HB11 := HB10
      have HBR11 := HBR10
      have HBX11 := HBX10
      clear ha hb
      generalize w10 = w11 at *
      have ec := HP11.out.ecell
      by_cases he : q2.err = 0
      case pos =>
        have hd : (q2.err != 0) = false := by simpa using he
        obtain rfl : (0, st) = R := by rw [← HFI.out, if_pos he]
        clear he
        obtain ⟨wz, hwz, BN, hgz⟩ := Blk.setRow HBR11.out (cellsSt st v)
        have HWZ := Lib.hid hwz
        have HBN := Lib.hid BN
        have HBZ := Lib.hid (HB11.out.grown hgz HB11.out.size (by intro k hk; injection hk with hk; omega))
        have HGZ := Lib.hid hgz
        clear BN hgz hwz
        have HOZ := Lib.hid (HO11.out.kb HBR11.out notSt HGZ.out)
        go_wp2_with (first | ((with_reducible show wpList _ _ _ (Oper.mk _ (Op.load 34 _) _ _ _ _ :: _) _ _); refine wpList_load_row rfl 34 _ rfl xb rfl 34 (cellsSt st v) (0, 0) _ HBX11.out Tryz.underlying34 rfl (by kernel_rfl) ?_) | ((with_reducible show wpList _ _ _ (Oper.mk _ (Op.store 34 _ _) _ _ _ _ :: _) _ _); refine wpList_store_row rfl 34 _ _ rfl rb (cellsSt st v) rfl rfl 34 _ HBR11.out (by kernel_rfl) rfl (H1.out) ?_; rw [← HWZ.out]))
        have HLD := run_loadVar_row (P := Tryz.prog) wz rb 34 34 (cellsSt st v) (0, 0) _ HBN.out Tryz.underlying34 rfl (by kernel_rfl)
        refine bodyPost_ret (v := .tuple #[.agg (cellsSt st v), .int .i64 (0)]) ?_ ?_ ?_
        · exact results_cell2 Tryz.results7 _ wz rb (cellsSt st v) _ rfl rfl HLD
        · rfl
        · exact ⟨_, rfl, HOZ.out, HBZ.out⟩
      case neg =>
        have hd : (q2.err != 0) = true := by simpa using he
        obtain rfl : (q2.err, St0) = R := by rw [← HFI.out, if_neg he]
        clear he
        go_upto_region 13 with fail
        have HPD := Lib.hid (HP11.out)
        obtain ⟨wz, hwz, BN, hgz⟩ := Blk.setRow (show Blk w11.drew rb 34 #[.int .i64 0, .string ⟨#[]⟩, .slice none 0 0, .int .i64 0, .bool false, .string ⟨#[]⟩, .string ⟨#[]⟩, .slice none 0 0, .slice none 0 0, .slice none 0 0, .slice none 0 0, .slice none 0 0, .string ⟨#[]⟩, .string ⟨#[]⟩, .bool false, .int .i64 0, .string ⟨#[]⟩] from HBR11.out) (#[.int .i64 0, .string ⟨#[]⟩, .slice none 0 0, .int .i64 0, .bool false, .string ⟨#[]⟩, .string ⟨#[]⟩, .slice none 0 0, .slice none 0 0, .slice none 0 0, .slice none 0 0, .slice none 0 0, .string ⟨#[]⟩, .string ⟨#[]⟩, .bool false, .int .i64 0, .string ⟨#[]⟩])
        have HWZ := Lib.hid hwz
        have HBN := Lib.hid BN
        have HBZ := Lib.hid ((HB11.out.drew).grown hgz HB11.out.size (by intro k hk; injection hk with hk; omega))
        have hgz11 := HP11.out.gl
        have hbz11 := HP11.out.bl
        have HEZ := Lib.hid (Pr.ecell ((show Pr w11.drew g W b q2 from HP11.out.ext (Below.drew (Below.refl _ _))).grown hgz (by simp; omega) (by simp; omega)))
        clear BN hgz hwz ec
        have D := fun (w' : World) (h : w'.cell? ⟨g, 1, none⟩ = some (.int .i64 q2.err)) => h
        refine wp_region_oneS (S := fun (w' : World) => w'.cell? ⟨g, 1, none⟩ = some (.int .i64 q2.err)) [(0, true), (1, true), (2, true), (3, true), (4, true), (5, false), (6, true)] (by kernel_rfl) (by kernel_rfl) (by kernel_rfl) (by decide) HPD.out.ecell ?_
        repeat ((with_reducible show wpPerm _ _ _ _ ((_, true) :: _) _ _); (first | (refine wpPerm_on (v := ?_) rfl rfl (wanted_free rfl) (fun w' hS => ?_) ?_; rotate_left; (focus (go_simp; (try with_reducible rfl); done)); try simp only [List.setIfInBounds_toArray, List.set_cons_zero, List.set_cons_succ]) | (refine wpPerm_on (v := ?_) rfl rfl (wanted_yes rfl rfl rfl) (fun w' hS => ?_) ?_; rotate_left; (focus (go_simp; (try with_reducible rfl); done)); try simp only [List.setIfInBounds_toArray, List.set_cons_zero, List.set_cons_succ]) | (refine wpPerm_off rfl rfl (wanted_no rfl rfl rfl) ?_; try simp only [List.setIfInBounds_toArray, List.set_cons_zero, List.set_cons_succ]) | (refine wpPerm_off rfl rfl (wanted_undef rfl rfl rfl) ?_; try simp only [List.setIfInBounds_toArray, List.set_cons_zero, List.set_cons_succ])))
        clear D
        refine wpPerm_do rfl (wanted_free rfl) (fun K hK => ?_)
        refine wp_store_row 34 _ _ rfl rb (#[.int .i64 0, .string ⟨#[]⟩, .slice none 0 0, .int .i64 0, .bool false, .string ⟨#[]⟩, .string ⟨#[]⟩, .slice none 0 0, .slice none 0 0, .slice none 0 0, .slice none 0 0, .slice none 0 0, .string ⟨#[]⟩, .string ⟨#[]⟩, .bool false, .int .i64 0, .string ⟨#[]⟩]) rfl rfl 34 _ (show Blk w11.drew rb 34 #[.int .i64 0, .string ⟨#[]⟩, .slice none 0 0, .int .i64 0, .bool false, .string ⟨#[]⟩, .string ⟨#[]⟩, .slice none 0 0, .slice none 0 0, .slice none 0 0, .slice none 0 0, .slice none 0 0, .string ⟨#[]⟩, .string ⟨#[]⟩, .bool false, .int .i64 0, .string ⟨#[]⟩] from HBR11.out) (by kernel_rfl) rfl (by kernel_rfl) ?_
        rw [← HWZ.out]
        refine hK.out _ _ HEZ.out ?_
        clear hK K
        repeat ((with_reducible show wpPerm _ _ _ _ ((_, true) :: _) _ _); (first | (refine wpPerm_on (v := ?_) rfl rfl (wanted_free rfl) (fun w' hS => ?_) ?_; rotate_left; (focus (go_simp; (try with_reducible rfl); done)); try simp only [List.setIfInBounds_toArray, List.set_cons_zero, List.set_cons_succ]) | (refine wpPerm_on (v := ?_) rfl rfl (wanted_yes rfl rfl rfl) (fun w' hS => ?_) ?_; rotate_left; (focus (go_simp; (try with_reducible rfl); done)); try simp only [List.setIfInBounds_toArray, List.set_cons_zero, List.set_cons_succ]) | (refine wpPerm_off rfl rfl (wanted_no rfl rfl rfl) ?_; try simp only [List.setIfInBounds_toArray, List.set_cons_zero, List.set_cons_succ]) | (refine wpPerm_off rfl rfl (wanted_undef rfl rfl rfl) ?_; try simp only [List.setIfInBounds_toArray, List.set_cons_zero, List.set_cons_succ])))
        refine wpPerm_done ?_
        go_wp2
        have HLD := run_loadVar_row (P := Tryz.prog) wz rb 34 34 (#[.int .i64 0, .string ⟨#[]⟩, .slice none 0 0, .int .i64 0, .bool false, .string ⟨#[]⟩, .string ⟨#[]⟩, .slice none 0 0, .slice none 0 0, .slice none 0 0, .slice none 0 0, .slice none 0 0, .string ⟨#[]⟩, .string ⟨#[]⟩, .bool false, .int .i64 0, .string ⟨#[]⟩]) (0, 0) _ HBN.out Tryz.underlying34 rfl (by kernel_rfl)
        refine bodyPost_ret (v := .tuple #[.agg (#[.int .i64 0, .string ⟨#[]⟩, .slice none 0 0, .int .i64 0, .bool false, .string ⟨#[]⟩, .string ⟨#[]⟩, .slice none 0 0, .slice none 0 0, .slice none 0 0, .slice none 0 0, .slice none 0 0, .string ⟨#[]⟩, .string ⟨#[]⟩, .bool false, .int .i64 0, .string ⟨#[]⟩]), .int .i64 (q2.err)]) ?_ ?_ ?_
        · exact results_cell2 Tryz.results7 _ wz rb (#[.int .i64 0, .string ⟨#[]⟩, .slice none 0 0, .int .i64 0, .bool false, .string ⟨#[]⟩, .string ⟨#[]⟩, .slice none 0 0, .slice none 0 0, .slice none 0 0, .slice none 0 0, .slice none 0 0, .string ⟨#[]⟩, .string ⟨#[]⟩, .bool false, .int .i64 0, .string ⟨#[]⟩]) _ rfl rfl HLD
        · rfl
        · exact ⟨_, rfl, (show StO wz St0 Vs0 from sto_nil _), HBZ.out⟩
  | bare k bx hd0 hbx =>
    have hbc : w7.cell? ⟨bx, 0, none⟩ = some (.int .i64 k) ∧ bx < w7.heap.size := by
      rcases hbx with ⟨rfl, rfl⟩ | ⟨rfl, rfl⟩
      · exact HC7.out.1
      · exact HC7.out.2
    have HSW2 := Lib.hid (show (if x.k = 1 then finP W (bareP k (nextP W ⟨0, 0⟩)) else (6, St0)) = R by rw [← HSW.out, hd0])
    clear hd0 HSW hbx
    by_cases hk : x.k = 1
    case neg =>
      have hk1 : (x.k != 1) = true := by simpa using hk
      obtain rfl : (6, St0) = R := by rw [← HSW2.out, if_neg hk]
      clear hk
      obtain ⟨wz, hwz, BN, hgz⟩ := Blk.setRow HBR7.out (#[.int .i64 0, .string ⟨#[]⟩, .slice none 0 0, .int .i64 0, .bool false, .string ⟨#[]⟩, .string ⟨#[]⟩, .slice none 0 0, .slice none 0 0, .slice none 0 0, .slice none 0 0, .slice none 0 0, .string ⟨#[]⟩, .string ⟨#[]⟩, .bool false, .int .i64 0, .string ⟨#[]⟩])
      have HWZ := Lib.hid hwz
      have HBN := Lib.hid BN
      have HBZ := Lib.hid (HB7.out.grown hgz HB7.out.size (by intro k hk; injection hk with hk; omega))
      have HGZ := Lib.hid hgz
      clear BN hgz hwz
      go_wp2_with (first | (at_lookup; refine wpList_look_lit rfl _ _ 55 true rfl 9 53 Tryz.underlying55 Tryz.underlying9 .nilFunc zeroF m (stmtM g b7 b8) rfl HM7.out x.s _ rfl rfl ?_; rw [HML.out]) | ((with_reducible show wpList _ _ _ (Oper.mk _ (Op.store 34 _ _) _ _ _ _ :: _) _ _); refine wpList_store_row rfl 34 _ _ rfl rb (#[.int .i64 0, .string ⟨#[]⟩, .slice none 0 0, .int .i64 0, .bool false, .string ⟨#[]⟩, .string ⟨#[]⟩, .slice none 0 0, .slice none 0 0, .slice none 0 0, .slice none 0 0, .slice none 0 0, .string ⟨#[]⟩, .string ⟨#[]⟩, .bool false, .int .i64 0, .string ⟨#[]⟩]) rfl rfl 34 _ HBR7.out (by kernel_rfl) rfl (by kernel_rfl) ?_; rw [← HWZ.out]))
      have HLD := run_loadVar_row (P := Tryz.prog) wz rb 34 34 (#[.int .i64 0, .string ⟨#[]⟩, .slice none 0 0, .int .i64 0, .bool false, .string ⟨#[]⟩, .string ⟨#[]⟩, .slice none 0 0, .slice none 0 0, .slice none 0 0, .slice none 0 0, .slice none 0 0, .string ⟨#[]⟩, .string ⟨#[]⟩, .bool false, .int .i64 0, .string ⟨#[]⟩]) (0, 0) _ HBN.out Tryz.underlying34 rfl (by kernel_rfl)
      refine bodyPost_ret (v := .tuple #[.agg (#[.int .i64 0, .string ⟨#[]⟩, .slice none 0 0, .int .i64 0, .bool false, .string ⟨#[]⟩, .string ⟨#[]⟩, .slice none 0 0, .slice none 0 0, .slice none 0 0, .slice none 0 0, .slice none 0 0, .string ⟨#[]⟩, .string ⟨#[]⟩, .bool false, .int .i64 0, .string ⟨#[]⟩]), .int .i64 (6)]) ?_ ?_ ?_
      · exact results_cell2 Tryz.results7 _ wz rb (#[.int .i64 0, .string ⟨#[]⟩, .slice none 0 0, .int .i64 0, .bool false, .string ⟨#[]⟩, .string ⟨#[]⟩, .slice none 0 0, .slice none 0 0, .slice none 0 0, .slice none 0 0, .slice none 0 0, .string ⟨#[]⟩, .string ⟨#[]⟩, .bool false, .int .i64 0, .string ⟨#[]⟩]) _ rfl rfl HLD
      · rfl
      · exact ⟨_, rfl, (show StO wz St0 Vs0 from sto_nil _), HBZ.out⟩
    have hk1 : (x.k != 1) = false := by simpa using hk
    have HFIN := Lib.hid (show finP W (bareP k (nextP W ⟨0, 0⟩)) = R by rw [← HSW2.out, if_pos hk])
    have HDO := Lib.hid (show Calls Tryz.prog 24 #[.pointer (some ⟨bx, 0, none⟩)] w7 (StmP (bareP k) g W b (nextP W ⟨0, 0⟩) w7) from bare_ k bx HP7.out hbc.1 hbc.2)
    replace HDO := HDO.out
    unfold StmP at HDO
    obtain ⟨⟨st, q⟩, hfx⟩ : ∃ X, bareP k (nextP W ⟨0, 0⟩) = X := ⟨_, rfl⟩
    replace HFIN := HFIN.out
    rw [hfx] at HFIN HDO
    simp only at HDO
    replace HFIN := Lib.hid HFIN
    replace HDO := Lib.hid HDO
    clear hk hfx HSW2 hbc
    go_wp2_with (first | (at_lookup; refine wpList_look_lit rfl _ _ 55 true rfl 9 53 Tryz.underlying55 Tryz.underlying9 .nilFunc zeroF m (stmtM g b7 b8) rfl HM7.out x.s _ rfl rfl ?_; rw [HML.out]))
    refine (HDO.out).mono ?_
    rintro e w8 ⟨v, rfl, ho, h_, hg_⟩
    have hgl7 := HP7.out.gl
    have HO := Lib.hid ho
    have HP8 := Lib.hid h_
    have HB8 := Lib.hid (HB7.out.grown hg_ HB7.out.size (by intro k hk; injection hk with hk; omega))
    have HBR8 := Lib.hid (HBR7.out.grown hg_ (by simp; omega))
    clear ho h_ hg_ HP7 HB7 HBR7 HM7 HC7 hfk HDO HML hk1
    obtain ⟨w9, hw9, BX9, hg9⟩ := Blk.setRow (Blk.new w8 34 #[.int .i64 0, .string ⟨#[]⟩, .slice none 0 0, .int .i64 0, .bool false, .string ⟨#[]⟩, .string ⟨#[]⟩, .slice none 0 0, .slice none 0 0, .slice none 0 0, .slice none 0 0, .slice none 0 0, .string ⟨#[]⟩, .string ⟨#[]⟩, .bool false, .int .i64 0, .string ⟨#[]⟩]) (cellsSt st v)
    have HW9 := Lib.hid hw9
    have ha := (Below.refl w8.heap.size w8).alloc (Nat.le_refl _) (.cells #[.int .i64 0, .string ⟨#[]⟩, .slice none 0 0, .int .i64 0, .bool false, .string ⟨#[]⟩, .string ⟨#[]⟩, .slice none 0 0, .slice none 0 0, .slice none 0 0, .slice none 0 0, .slice none 0 0, .string ⟨#[]⟩, .string ⟨#[]⟩, .bool false, .int .i64 0, .string ⟨#[]⟩] 34)
    have hb9 : Below w8.heap.size w8 w9 := ha.grown hg9 (by have := ha.size; omega) (by intro k hk; injection hk with hk; omega)
    have HP9 := Lib.hid (HP8.out.ext hb9)
    have HO9 := Lib.hid (HO.out.ext hb9)
    have HB9 := Lib.hid (bch0 HB8.out hb9)
    have HBR9 := Lib.hid (HBR8.out.ext hb9)
    have hrx := HBR8.out.lt
    have hgx := HP8.out.gl
    obtain ⟨xb, hxb⟩ : ∃ xb, w8.heap.size = xb := ⟨_, rfl⟩
    rw [hxb] at BX9 hrx hgx
    have HBX9 := Lib.hid BX9
    have HXB := Lib.hid hxb
    have H1 := Lib.hid (st_one HO.out)
    clear hw9 BX9 hg9 ha hb9 hxb
    go_wp2_with (first | ((with_reducible show wpList _ _ _ (Oper.mk _ (Op.store 34 _ _) _ _ _ _ :: _) _ _); refine wpList_store_row rfl 34 _ _ rfl w8.heap.size (cellsSt st v) rfl rfl 34 _ (Blk.new w8 34 #[.int .i64 0, .string ⟨#[]⟩, .slice none 0 0, .int .i64 0, .bool false, .string ⟨#[]⟩, .string ⟨#[]⟩, .slice none 0 0, .slice none 0 0, .slice none 0 0, .slice none 0 0, .slice none 0 0, .string ⟨#[]⟩, .string ⟨#[]⟩, .bool false, .int .i64 0, .string ⟨#[]⟩]) (by kernel_rfl) rfl (H1.out) ?_; rw [← HW9.out]))
    refine (pend_ HP9.out).mono ?_
    rintro e w10 ⟨rfl, h_, hg_⟩
    rw [HXB.out]
    have hgz9 := HP9.out.gl
    obtain ⟨_, hbk⟩ := HP9.out.blk
    have HO10 := Lib.hid (HO9.out.kb hbk notP hg_)
    have HP10 := Lib.hid h_
    have HB10 := Lib.hid (HB9.out.grown hg_ HB9.out.size (by intro k hk; injection hk with hk; omega))
    have HBR10 := Lib.hid (HBR9.out.grown hg_ (by simp; omega))
    have HBX10 := Lib.hid (HBX9.out.grown hg_ (by simp; omega))
    have q0 : w10.cell? ⟨xb, 0, none⟩ = some (.int .i64 st.kind) := HBX10.out.cell 0
    have q3 : w10.cell? ⟨xb, 3, none⟩ = some (.int .i64 st.key) := HBX10.out.cell 3
    clear h_ hg_ hbk HP9 HO9 HB9 HBR9 HBX9 HP8 HO HB8 HBR8
    have HFI := Lib.hid ((show finP W (st, q) = match lastP W (st, q) with | q => if q.err = 0 then (0, st) else (q.err, St0) from rfl).symm.trans HFIN.out)
    have HLA := Lib.hid (show lastP W (st, q) = if st.kind = 1 ∧ st.key < 0 then failP 2 (endP W q) else endP W q from rfl)
    obtain ⟨q1, hq1⟩ : ∃ x, endP W q = x := ⟨_, rfl⟩
    obtain ⟨q2, hq2⟩ : ∃ x, lastP W (st, q) = x := ⟨_, rfl⟩
    replace HFI := HFI.out
    replace HLA := HLA.out
    replace HP10 := HP10.out
    rw [hq2] at HFI HLA
    rw [hq1] at HLA HP10
    replace HFI := Lib.hid (show (if q2.err = 0 then (0, st) else (q2.err, St0)) = R from HFI)
    replace HLA := Lib.hid HLA
    replace HP10 := Lib.hid HP10
    clear hq1 hq2 HFIN
    have hcs : (st.kind = 1 ∧ st.key < 0) ∨ (¬ st.kind = 1) ∨ (st.kind = 1 ∧ ¬ st.key < 0) := by omega
    rcases hcs with ⟨ha, hb⟩ | ha | ⟨ha, hb⟩
    · have d1 : (st.kind == 1) = true := by simpa using ha
      have d2 : decide (st.key < 0) = true := by simpa using hb
      obtain rfl : q2 = failP 2 q1 := by rw [HLA.out, if_pos ⟨ha, hb⟩]
      have HF := Lib.hid (pfail_ 2 HP10.out)
      clear ha hb
      go_wp2_with fail
      refine (HF.out).mono ?_
      rintro e w11 ⟨rfl, h_, hg_⟩
      obtain ⟨_, hbk⟩ := HP10.out.blk
      have hgz10 := HP10.out.gl
      have HO11 := Lib.hid (HO10.out.kb hbk notP hg_)
      have HP11 := Lib.hid h_
      have HB11 := Lib.hid (HB10.out.grown hg_ HB10.out.size (by intro k hk; injection hk with hk; omega))
      have HBR11 := Lib.hid (HBR10.out.grown hg_ (by simp; omega))
      have HBX11 := Lib.hid (HBX10.out.grown hg_ (by simp; omega))
      clear h_ hg_ hbk q0 q3 d1 d2 HF HP10 HB10 HBR10 HBX10
      generalize failP 2 q1 = q2 at *
      have ec := HP11.out.ecell
      by_cases he : q2.err = 0
      case pos =>
        have hd : (q2.err != 0) = false := by simpa using he
        obtain rfl : (0, st) = R := by rw [← HFI.out, if_pos he]
        clear he
        obtain ⟨wz, hwz, BN, hgz⟩ := Blk.setRow HBR11.out (cellsSt st v)
        have HWZ := Lib.hid hwz
        have HBN := Lib.hid BN
        have HBZ := Lib.hid (HB11.out.grown hgz HB11.out.size (by intro k hk; injection hk with hk; omega))
        have HGZ := Lib.hid hgz
        clear BN hgz hwz
        have HOZ := Lib.hid (HO11.out.kb HBR11.out notSt HGZ.out)
        go_wp2_with (first | ((with_reducible show wpList _ _ _ (Oper.mk _ (Op.load 34 _) _ _ _ _ :: _) _ _); refine wpList_load_row rfl 34 _ rfl xb rfl 34 (cellsSt st v) (0, 0) _ HBX11.out Tryz.underlying34 rfl (by kernel_rfl) ?_) | ((with_reducible show wpList _ _ _ (Oper.mk _ (Op.store 34 _ _) _ _ _ _ :: _) _ _); refine wpList_store_row rfl 34 _ _ rfl rb (cellsSt st v) rfl rfl 34 _ HBR11.out (by kernel_rfl) rfl (H1.out) ?_; rw [← HWZ.out]))
        have HLD := run_loadVar_row (P := Tryz.prog) wz rb 34 34 (cellsSt st v) (0, 0) _ HBN.out Tryz.underlying34 rfl (by kernel_rfl)
        refine bodyPost_ret (v := .tuple #[.agg (cellsSt st v), .int .i64 (0)]) ?_ ?_ ?_
        · exact results_cell2 Tryz.results7 _ wz rb (cellsSt st v) _ rfl rfl HLD
        · rfl
        · exact ⟨_, rfl, HOZ.out, HBZ.out⟩
      case neg =>
        have hd : (q2.err != 0) = true := by simpa using he
        obtain rfl : (q2.err, St0) = R := by rw [← HFI.out, if_neg he]
        clear he
        go_upto_region 13 with fail
        have HPD := Lib.hid (HP11.out)
        obtain ⟨wz, hwz, BN, hgz⟩ := Blk.setRow (show Blk w11.drew rb 34 #[.int .i64 0, .string ⟨#[]⟩, .slice none 0 0, .int .i64 0, .bool false, .string ⟨#[]⟩, .string ⟨#[]⟩, .slice none 0 0, .slice none 0 0, .slice none 0 0, .slice none 0 0, .slice none 0 0, .string ⟨#[]⟩, .string ⟨#[]⟩, .bool false, .int .i64 0, .string ⟨#[]⟩] from HBR11.out) (#[.int .i64 0, .string ⟨#[]⟩, .slice none 0 0, .int .i64 0, .bool false, .string ⟨#[]⟩, .string ⟨#[]⟩, .slice none 0 0, .slice none 0 0, .slice none 0 0, .slice none 0 0, .slice none 0 0, .string ⟨#[]⟩, .string ⟨#[]⟩, .bool false, .int .i64 0, .string ⟨#[]⟩])
        have HWZ := Lib.hid hwz
        have HBN := Lib.hid BN
        have HBZ := Lib.hid ((HB11.out.drew).grown hgz HB11.out.size (by intro k hk; injection hk with hk; omega))
        have hgz11 := HP11.out.gl
        have hbz11 := HP11.out.bl
        have HEZ := Lib.hid (Pr.ecell ((show Pr w11.drew g W b q2 from HP11.out.ext (Below.drew (Below.refl _ _))).grown hgz (by simp; omega) (by simp; omega)))
        clear BN hgz hwz ec
        have D := fun (w' : World) (h : w'.cell? ⟨g, 1, none⟩ = some (.int .i64 q2.err)) => h
        refine wp_region_oneS (S := fun (w' : World) => w'.cell? ⟨g, 1, none⟩ = some (.int .i64 q2.err)) [(0, true), (1, true), (2, true), (3, true), (4, true), (5, false), (6, true)] (by kernel_rfl) (by kernel_rfl) (by kernel_rfl) (by decide) HPD.out.ecell ?_
        repeat ((with_reducible show wpPerm _ _ _ _ ((_, true) :: _) _ _); (first | (refine wpPerm_on (v := ?_) rfl rfl (wanted_free rfl) (fun w' hS => ?_) ?_; rotate_left; (focus (go_simp; (try with_reducible rfl); done)); try simp only [List.setIfInBounds_toArray, List.set_cons_zero, List.set_cons_succ]) | (refine wpPerm_on (v := ?_) rfl rfl (wanted_yes rfl rfl rfl) (fun w' hS => ?_) ?_; rotate_left; (focus (go_simp; (try with_reducible rfl); done)); try simp only [List.setIfInBounds_toArray, List.set_cons_zero, List.set_cons_succ]) | (refine wpPerm_off rfl rfl (wanted_no rfl rfl rfl) ?_; try simp only [List.setIfInBounds_toArray, List.set_cons_zero, List.set_cons_succ]) | (refine wpPerm_off rfl rfl (wanted_undef rfl rfl rfl) ?_; try simp only [List.setIfInBounds_toArray, List.set_cons_zero, List.set_cons_succ])))
        clear D
        refine wpPerm_do rfl (wanted_free rfl) (fun K hK => ?_)
        refine wp_store_row 34 _ _ rfl rb (#[.int .i64 0, .string ⟨#[]⟩, .slice none 0 0, .int .i64 0, .bool false, .string ⟨#[]⟩, .string ⟨#[]⟩, .slice none 0 0, .slice none 0 0, .slice none 0 0, .slice none 0 0, .slice none 0 0, .string ⟨#[]⟩, .string ⟨#[]⟩, .bool false, .int .i64 0, .string ⟨#[]⟩]) rfl rfl 34 _ (show Blk w11.drew rb 34 #[.int .i64 0, .string ⟨#[]⟩, .slice none 0 0, .int .i64 0, .bool false, .string ⟨#[]⟩, .string ⟨#[]⟩, .slice none 0 0, .slice none 0 0, .slice none 0 0, .slice none 0 0, .slice none 0 0, .string ⟨#[]⟩, .string ⟨#[]⟩, .bool false, .int .i64 0, .string ⟨#[]⟩] from HBR11.out) (by kernel_rfl) rfl (by kernel_rfl) ?_
        rw [← HWZ.out]
        refine hK.out _ _ HEZ.out ?_
        clear hK K
        repeat ((with_reducible show wpPerm _ _ _ _ ((_, true) :: _) _ _); (first | (refine wpPerm_on (v := ?_) rfl rfl (wanted_free rfl) (fun w' hS => ?_) ?_; rotate_left; (focus (go_simp; (try with_reducible rfl); done)); try simp only [List.setIfInBounds_toArray, List.set_cons_zero, List.set_cons_succ]) | (refine wpPerm_on (v := ?_) rfl rfl (wanted_yes rfl rfl rfl) (fun w' hS => ?_) ?_; rotate_left; (focus (go_simp; (try with_reducible rfl); done)); try simp only [List.setIfInBounds_toArray, List.set_cons_zero, List.set_cons_succ]) | (refine wpPerm_off rfl rfl (wanted_no rfl rfl rfl) ?_; try simp only [List.setIfInBounds_toArray, List.set_cons_zero, List.set_cons_succ]) | (refine wpPerm_off rfl rfl (wanted_undef rfl rfl rfl) ?_; try simp only [List.setIfInBounds_toArray, List.set_cons_zero, List.set_cons_succ])))
        refine wpPerm_done ?_
        go_wp2
        have HLD := run_loadVar_row (P := Tryz.prog) wz rb 34 34 (#[.int .i64 0, .string ⟨#[]⟩, .slice none 0 0, .int .i64 0, .bool false, .string ⟨#[]⟩, .string ⟨#[]⟩, .slice none 0 0, .slice none 0 0, .slice none 0 0, .slice none 0 0, .slice none 0 0, .string ⟨#[]⟩, .string ⟨#[]⟩, .bool false, .int .i64 0, .string ⟨#[]⟩]) (0, 0) _ HBN.out Tryz.underlying34 rfl (by kernel_rfl)
        refine bodyPost_ret (v := .tuple #[.agg (#[.int .i64 0, .string ⟨#[]⟩, .slice none 0 0, .int .i64 0, .bool false, .string ⟨#[]⟩, .string ⟨#[]⟩, .slice none 0 0, .slice none 0 0, .slice none 0 0, .slice none 0 0, .slice none 0 0, .string ⟨#[]⟩, .string ⟨#[]⟩, .bool false, .int .i64 0, .string ⟨#[]⟩]), .int .i64 (q2.err)]) ?_ ?_ ?_
        · exact results_cell2 Tryz.results7 _ wz rb (#[.int .i64 0, .string ⟨#[]⟩, .slice none 0 0, .int .i64 0, .bool false, .string ⟨#[]⟩, .string ⟨#[]⟩, .slice none 0 0, .slice none 0 0, .slice none 0 0, .slice none 0 0, .slice none 0 0, .string ⟨#[]⟩, .string ⟨#[]⟩, .bool false, .int .i64 0, .string ⟨#[]⟩]) _ rfl rfl HLD
        · rfl
        · exact ⟨_, rfl, (show StO wz St0 Vs0 from sto_nil _), HBZ.out⟩
    · have d1 : (st.kind == 1) = false := by simpa using ha
      obtain rfl : q2 = q1 := by rw [HLA.out, if_neg (by rintro ⟨h, _⟩; exact ha h)]
      have HO11 := HO10
      have HP11 := HP10
      have HB11 := HB10
      have HBR11 := HBR10
      have HBX11 := HBX10
      clear ha
      generalize w10 = w11 at *
      have ec := HP11.out.ecell
      by_cases he : q2.err = 0
      case pos =>
        have hd : (q2.err != 0) = false := by simpa using he
        obtain rfl : (0, st) = R := by rw [← HFI.out, if_pos he]
        clear he
        obtain ⟨wz, hwz, BN, hgz⟩ := Blk.setRow HBR11.out (cellsSt st v)
        have HWZ := Lib.hid hwz
        have HBN := Lib.hid BN
        have HBZ := Lib.hid (HB11.out.grown hgz HB11.out.size (by intro k hk; injection hk with hk; omega))
        have HGZ := Lib.hid hgz
        clear BN hgz hwz
        have HOZ := Lib.hid (HO11.out.kb HBR11.out notSt HGZ.out)
        go_wp2_with (first | ((with_reducible show wpList _ _ _ (Oper.mk _ (Op.load 34 _) _ _ _ _ :: _) _ _); refine wpList_load_row rfl 34 _ rfl xb rfl 34 (cellsSt st v) (0, 0) _ HBX11.out Tryz.underlying34 rfl (by kernel_rfl) ?_) | ((with_reducible show wpList _ _ _ (Oper.mk _ (Op.store 34 _ _) _ _ _ _ :: _) _ _); refine wpList_store_row rfl 34 _ _ rfl rb (cellsSt st v) rfl rfl 34 _ HBR11.out (by kernel_rfl) rfl (H1.out) ?_; rw [← HWZ.out]))
        have HLD := run_loadVar_row (P := Tryz.prog) wz rb 34 34 (cellsSt st v) (0, 0) _ HBN.out Tryz.underlying34 rfl (by kernel_rfl)
        refine bodyPost_ret (v := .tuple #[.agg (cellsSt st v), .int .i64 (0)]) ?_ ?_ ?_
        · exact results_cell2 Tryz.results7 _ wz rb (cellsSt st v) _ rfl rfl HLD
        · rfl
        · exact ⟨_, rfl, HOZ.out, HBZ.out⟩
      case neg =>
        have hd : (q2.err != 0) = true := by simpa using he
        obtain rfl : (q2.err, St0) = R := by rw [← HFI.out, if_neg he]
        clear he
        go_upto_region 13 with fail
        have HPD := Lib.hid (HP11.out)
        obtain ⟨wz, hwz, BN, hgz⟩ := Blk.setRow (show Blk w11.drew rb 34 #[.int .i64 0, .string ⟨#[]⟩, .slice none 0 0, .int .i64 0, .bool false, .string ⟨#[]⟩, .string ⟨#[]⟩, .slice none 0 0, .slice none 0 0, .slice none 0 0, .slice none 0 0, .slice none 0 0, .string ⟨#[]⟩, .string ⟨#[]⟩, .bool false, .int .i64 0, .string ⟨#[]⟩] from HBR11.out) (#[.int .i64 0, .string ⟨#[]⟩, .slice none 0 0, .int .i64 0, .bool false, .string ⟨#[]⟩, .string ⟨#[]⟩, .slice none 0 0, .slice none 0 0, .slice none 0 0, .slice none 0 0, .slice none 0 0, .string ⟨#[]⟩, .string ⟨#[]⟩, .bool false, .int .i64 0, .string ⟨#[]⟩])
        have HWZ := Lib.hid hwz
        have HBN := Lib.hid BN
        have HBZ := Lib.hid ((HB11.out.drew).grown hgz HB11.out.size (by intro k hk; injection hk with hk; omega))
        have hgz11 := HP11.out.gl
        have hbz11 := HP11.out.bl
        have HEZ := Lib.hid (Pr.ecell ((show Pr w11.drew g W b q2 from HP11.out.ext (Below.drew (Below.refl _ _))).grown hgz (by simp; omega) (by simp; omega)))
        clear BN hgz hwz ec
        have D := fun (w' : World) (h : w'.cell? ⟨g, 1, none⟩ = some (.int .i64 q2.err)) => h
        refine wp_region_oneS (S := fun (w' : World) => w'.cell? ⟨g, 1, none⟩ = some (.int .i64 q2.err)) [(0, true), (1, true), (2, true), (3, true), (4, true), (5, false), (6, true)] (by kernel_rfl) (by kernel_rfl) (by kernel_rfl) (by decide) HPD.out.ecell ?_
        repeat ((with_reducible show wpPerm _ _ _ _ ((_, true) :: _) _ _); (first | (refine wpPerm_on (v := ?_) rfl rfl (wanted_free rfl) (fun w' hS => ?_) ?_; rotate_left; (focus (go_simp; (try with_reducible rfl); done)); try simp only [List.setIfInBounds_toArray, List.set_cons_zero, List.set_cons_succ]) | (refine wpPerm_on (v := ?_) rfl rfl (wanted_yes rfl rfl rfl) (fun w' hS => ?_) ?_; rotate_left; (focus (go_simp; (try with_reducible rfl); done)); try simp only [List.setIfInBounds_toArray, List.set_cons_zero, List.set_cons_succ]) | (refine wpPerm_off rfl rfl (wanted_no rfl rfl rfl) ?_; try simp only [List.setIfInBounds_toArray, List.set_cons_zero, List.set_cons_succ]) | (refine wpPerm_off rfl rfl (wanted_undef rfl rfl rfl) ?_; try simp only [List.setIfInBounds_toArray, List.set_cons_zero, List.set_cons_succ])))
        clear D
        refine wpPerm_do rfl (wanted_free rfl) (fun K hK => ?_)
        refine wp_store_row 34 _ _ rfl rb (#[.int .i64 0, .string ⟨#[]⟩, .slice none 0 0, .int .i64 0, .bool false, .string ⟨#[]⟩, .string ⟨#[]⟩, .slice none 0 0, .slice none 0 0, .slice none 0 0, .slice none 0 0, .slice none 0 0, .string ⟨#[]⟩, .string ⟨#[]⟩, .bool false, .int .i64 0, .string ⟨#[]⟩]) rfl rfl 34 _ (show Blk w11.drew rb 34 #[.int .i64 0, .string ⟨#[]⟩, .slice none 0 0, .int .i64 0, .bool false, .string ⟨#[]⟩, .string ⟨#[]⟩, .slice none 0 0, .slice none 0 0, .slice none 0 0, .slice none 0 0, .slice none 0 0, .string ⟨#[]⟩, .string ⟨#[]⟩, .bool false, .int .i64 0, .string ⟨#[]⟩] from HBR11.out) (by kernel_rfl) rfl (by kernel_rfl) ?_
        rw [← HWZ.out]
        refine hK.out _ _ HEZ.out ?_
        clear hK K
        repeat ((with_reducible show wpPerm _ _ _ _ ((_, true) :: _) _ _); (first | (refine wpPerm_on (v := ?_) rfl rfl (wanted_free rfl) (fun w' hS => ?_) ?_; rotate_left; (focus (go_simp; (try with_reducible rfl); done)); try simp only [List.setIfInBounds_toArray, List.set_cons_zero, List.set_cons_succ]) | (refine wpPerm_on (v := ?_) rfl rfl (wanted_yes rfl rfl rfl) (fun w' hS => ?_) ?_; rotate_left; (focus (go_simp; (try with_reducible rfl); done)); try simp only [List.setIfInBounds_toArray, List.set_cons_zero, List.set_cons_succ]) | (refine wpPerm_off rfl rfl (wanted_no rfl rfl rfl) ?_; try simp only [List.setIfInBounds_toArray, List.set_cons_zero, List.set_cons_succ]) | (refine wpPerm_off rfl rfl (wanted_undef rfl rfl rfl) ?_; try simp only [List.setIfInBounds_toArray, List.set_cons_zero, List.set_cons_succ])))
        refine wpPerm_done ?_
        go_wp2
        have HLD := run_loadVar_row (P := Tryz.prog) wz rb 34 34 (#[.int .i64 0, .string ⟨#[]⟩, .slice none 0 0, .int .i64 0, .bool false, .string ⟨#[]⟩, .string ⟨#[]⟩, .slice none 0 0, .slice none 0 0, .slice none 0 0, .slice none 0 0, .slice none 0 0, .string ⟨#[]⟩, .string ⟨#[]⟩, .bool false, .int .i64 0, .string ⟨#[]⟩]) (0, 0) _ HBN.out Tryz.underlying34 rfl (by kernel_rfl)
        refine bodyPost_ret (v := .tuple #[.agg (#[.int .i64 0, .string ⟨#[]⟩, .slice none 0 0, .int .i64 0, .bool false, .string ⟨#[]⟩, .string ⟨#[]⟩, .slice none 0 0, .slice none 0 0, .slice none 0 0, .slice none 0 0, .slice none 0 0, .string ⟨#[]⟩, .string ⟨#[]⟩, .bool false, .int .i64 0, .string ⟨#[]⟩]), .int .i64 (q2.err)]) ?_ ?_ ?_
        · exact results_cell2 Tryz.results7 _ wz rb (#[.int .i64 0, .string ⟨#[]⟩, .slice none 0 0, .int .i64 0, .bool false, .string ⟨#[]⟩, .string ⟨#[]⟩, .slice none 0 0, .slice none 0 0, .slice none 0 0, .slice none 0 0, .slice none 0 0, .string ⟨#[]⟩, .string ⟨#[]⟩, .bool false, .int .i64 0, .string ⟨#[]⟩]) _ rfl rfl HLD
        · rfl
        · exact ⟨_, rfl, (show StO wz St0 Vs0 from sto_nil _), HBZ.out⟩
    · have d1 : (st.kind == 1) = true := by simpa using ha
      have d2 : decide (st.key < 0) = false := by simpa using hb
      obtain rfl : q2 = q1 := by rw [HLA.out, if_neg (by rintro ⟨_, h⟩; exact hb h)]
      have HO11 := HO10
      have HP11 := HP10
      have HB11 := HB10
      have HBR11 := HBR10
      have HBX11 := HBX10
      clear ha hb
      generalize w10 = w11 at *
      have ec := HP11.out.ecell
      by_cases he : q2.err = 0
      case pos =>
        have hd : (q2.err != 0) = false := by simpa using he
        obtain rfl : (0, st) = R := by rw [← HFI.out, if_pos he]
        clear he
        obtain ⟨wz, hwz, BN, hgz⟩ := Blk.setRow HBR11.out (cellsSt st v)
        have HWZ := Lib.hid hwz
        have HBN := Lib.hid BN
        have HBZ := Lib.hid (HB11.out.grown hgz HB11.out.size (by intro k hk; injection hk with hk; omega))
        have HGZ := Lib.hid hgz
        clear BN hgz hwz
        have HOZ := Lib.hid (HO11.out.kb HBR11.out notSt HGZ.out)
        go_wp2_with (first | ((with_reducible show wpList _ _ _ (Oper.mk _ (Op.load 34 _) _ _ _ _ :: _) _ _); refine wpList_load_row rfl 34 _ rfl xb rfl 34 (cellsSt st v) (0, 0) _ HBX11.out Tryz.underlying34 rfl (by kernel_rfl) ?_) | ((with_reducible show wpList _ _ _ (Oper.mk _ (Op.store 34 _ _) _ _ _ _ :: _) _ _); refine wpList_store_row rfl 34 _ _ rfl rb (cellsSt st v) rfl rfl 34 _ HBR11.out (by kernel_rfl) rfl (H1.out) ?_; rw [← HWZ.out]))
        have HLD := run_loadVar_row (P := Tryz.prog) wz rb 34 34 (cellsSt st v) (0, 0) _ HBN.out Tryz.underlying34 rfl (by kernel_rfl)
        refine bodyPost_ret (v := .tuple #[.agg (cellsSt st v), .int .i64 (0)]) ?_ ?_ ?_
        · exact results_cell2 Tryz.results7 _ wz rb (cellsSt st v) _ rfl rfl HLD
        · rfl
        · exact ⟨_, rfl, HOZ.out, HBZ.out⟩
      case neg =>
        have hd : (q2.err != 0) = true := by simpa using he
        obtain rfl : (q2.err, St0) = R := by rw [← HFI.out, if_neg he]
        clear he
        go_upto_region 13 with fail
        have HPD := Lib.hid (HP11.out)
        obtain ⟨wz, hwz, BN, hgz⟩ := Blk.setRow (show Blk w11.drew rb 34 #[.int .i64 0, .string ⟨#[]⟩, .slice none 0 0, .int .i64 0, .bool false, .string ⟨#[]⟩, .string ⟨#[]⟩, .slice none 0 0, .slice none 0 0, .slice none 0 0, .slice none 0 0, .slice none 0 0, .string ⟨#[]⟩, .string ⟨#[]⟩, .bool false, .int .i64 0, .string ⟨#[]⟩] from HBR11.out) (#[.int .i64 0, .string ⟨#[]⟩, .slice none 0 0, .int .i64 0, .bool false, .string ⟨#[]⟩, .string ⟨#[]⟩, .slice none 0 0, .slice none 0 0, .slice none 0 0, .slice none 0 0, .slice none 0 0, .string ⟨#[]⟩, .string ⟨#[]⟩, .bool false, .int .i64 0, .string ⟨#[]⟩])
        have HWZ := Lib.hid hwz
        have HBN := Lib.hid BN
        have HBZ := Lib.hid ((HB11.out.drew).grown hgz HB11.out.size (by intro k hk; injection hk with hk; omega))
        have hgz11 := HP11.out.gl
        have hbz11 := HP11.out.bl
        have HEZ := Lib.hid (Pr.ecell ((show Pr w11.drew g W b q2 from HP11.out.ext (Below.drew (Below.refl _ _))).grown hgz (by simp; omega) (by simp; omega)))
        clear BN hgz hwz ec
        have D := fun (w' : World) (h : w'.cell? ⟨g, 1, none⟩ = some (.int .i64 q2.err)) => h
        refine wp_region_oneS (S := fun (w' : World) => w'.cell? ⟨g, 1, none⟩ = some (.int .i64 q2.err)) [(0, true), (1, true), (2, true), (3, true), (4, true), (5, false), (6, true)] (by kernel_rfl) (by kernel_rfl) (by kernel_rfl) (by decide) HPD.out.ecell ?_
        repeat ((with_reducible show wpPerm _ _ _ _ ((_, true) :: _) _ _); (first | (refine wpPerm_on (v := ?_) rfl rfl (wanted_free rfl) (fun w' hS => ?_) ?_; rotate_left; (focus (go_simp; (try with_reducible rfl); done)); try simp only [List.setIfInBounds_toArray, List.set_cons_zero, List.set_cons_succ]) | (refine wpPerm_on (v := ?_) rfl rfl (wanted_yes rfl rfl rfl) (fun w' hS => ?_) ?_; rotate_left; (focus (go_simp; (try with_reducible rfl); done)); try simp only [List.setIfInBounds_toArray, List.set_cons_zero, List.set_cons_succ]) | (refine wpPerm_off rfl rfl (wanted_no rfl rfl rfl) ?_; try simp only [List.setIfInBounds_toArray, List.set_cons_zero, List.set_cons_succ]) | (refine wpPerm_off rfl rfl (wanted_undef rfl rfl rfl) ?_; try simp only [List.setIfInBounds_toArray, List.set_cons_zero, List.set_cons_succ])))
        clear D
        refine wpPerm_do rfl (wanted_free rfl) (fun K hK => ?_)
        refine wp_store_row 34 _ _ rfl rb (#[.int .i64 0, .string ⟨#[]⟩, .slice none 0 0, .int .i64 0, .bool false, .string ⟨#[]⟩, .string ⟨#[]⟩, .slice none 0 0, .slice none 0 0, .slice none 0 0, .slice none 0 0, .slice none 0 0, .string ⟨#[]⟩, .string ⟨#[]⟩, .bool false, .int .i64 0, .string ⟨#[]⟩]) rfl rfl 34 _ (show Blk w11.drew rb 34 #[.int .i64 0, .string ⟨#[]⟩, .slice none 0 0, .int .i64 0, .bool false, .string ⟨#[]⟩, .string ⟨#[]⟩, .slice none 0 0, .slice none 0 0, .slice none 0 0, .slice none 0 0, .slice none 0 0, .string ⟨#[]⟩, .string ⟨#[]⟩, .bool false, .int .i64 0, .string ⟨#[]⟩] from HBR11.out) (by kernel_rfl) rfl (by kernel_rfl) ?_
        rw [← HWZ.out]
        refine hK.out _ _ HEZ.out ?_
        clear hK K
        repeat ((with_reducible show wpPerm _ _ _ _ ((_, true) :: _) _ _); (first | (refine wpPerm_on (v := ?_) rfl rfl (wanted_free rfl) (fun w' hS => ?_) ?_; rotate_left; (focus (go_simp; (try with_reducible rfl); done)); try simp only [List.setIfInBounds_toArray, List.set_cons_zero, List.set_cons_succ]) | (refine wpPerm_on (v := ?_) rfl rfl (wanted_yes rfl rfl rfl) (fun w' hS => ?_) ?_; rotate_left; (focus (go_simp; (try with_reducible rfl); done)); try simp only [List.setIfInBounds_toArray, List.set_cons_zero, List.set_cons_succ]) | (refine wpPerm_off rfl rfl (wanted_no rfl rfl rfl) ?_; try simp only [List.setIfInBounds_toArray, List.set_cons_zero, List.set_cons_succ]) | (refine wpPerm_off rfl rfl (wanted_undef rfl rfl rfl) ?_; try simp only [List.setIfInBounds_toArray, List.set_cons_zero, List.set_cons_succ])))
        refine wpPerm_done ?_
        go_wp2
        have HLD := run_loadVar_row (P := Tryz.prog) wz rb 34 34 (#[.int .i64 0, .string ⟨#[]⟩, .slice none 0 0, .int .i64 0, .bool false, .string ⟨#[]⟩, .string ⟨#[]⟩, .slice none 0 0, .slice none 0 0, .slice none 0 0, .slice none 0 0, .slice none 0 0, .string ⟨#[]⟩, .string ⟨#[]⟩, .bool false, .int .i64 0, .string ⟨#[]⟩]) (0, 0) _ HBN.out Tryz.underlying34 rfl (by kernel_rfl)
        refine bodyPost_ret (v := .tuple #[.agg (#[.int .i64 0, .string ⟨#[]⟩, .slice none 0 0, .int .i64 0, .bool false, .string ⟨#[]⟩, .string ⟨#[]⟩, .slice none 0 0, .slice none 0 0, .slice none 0 0, .slice none 0 0, .slice none 0 0, .string ⟨#[]⟩, .string ⟨#[]⟩, .bool false, .int .i64 0, .string ⟨#[]⟩]), .int .i64 (q2.err)]) ?_ ?_ ?_
        · exact results_cell2 Tryz.results7 _ wz rb (#[.int .i64 0, .string ⟨#[]⟩, .slice none 0 0, .int .i64 0, .bool false, .string ⟨#[]⟩, .string ⟨#[]⟩, .slice none 0 0, .slice none 0 0, .slice none 0 0, .slice none 0 0, .slice none 0 0, .string ⟨#[]⟩, .string ⟨#[]⟩, .bool false, .int .i64 0, .string ⟨#[]⟩]) _ rfl rfl HLD
        · rfl
        · exact ⟨_, rfl, (show StO wz St0 Vs0 from sto_nil _), HBZ.out⟩
end Go.Proofs.YtfnceamkephpjaaGreat.pg
