/- ParseSelects: the walk. Printed by genselw.py. -/
import Derived.Test.YtfnceamkephpjaaSelPlain
import Derived.Test.YtfnceamkephpjaaR1
import Derived.Test.YtfnceamkephpjaaManyWalk
namespace Go.Proofs.Ytfnceamkephpjaa.pg
open Go.ChangeShapes Go.WideShapes Go.ChangeAt Go.RowKit Go.Proofs.Ytfnceamkephpjaa.lib Go.Proofs.Ytfnceamkephpjaa.lx
set_option linter.unusedVariables false

theorem kI (x : Int × Value) : (encI x).length = 2 := rfl
/-- the three items -/
theorem its_sel {w : World} {v : Value} {a b c r : List Nd} {n : Nd} (h : ItsO w v [(0, a), (1, b), (4, c)]) (hb : b = []) (hc : c = n :: r) :
    ∃ gi ci A1 c1 ge lc ce, v = .slice (some ⟨gi, 0, none⟩) 3 ci ∧ 1 ≤ lc ∧ w.cell? ⟨gi, 0, none⟩ = some (.int .i64 0) ∧ w.cell? ⟨gi, 2, none⟩ = some (.int .i64 1) ∧ w.cell? ⟨gi, 3, none⟩ = some (.slice A1 0 c1)
      ∧ w.cell? ⟨gi, 4, none⟩ = some (.int .i64 4) ∧ w.cell? ⟨gi, 5, none⟩ = some (.slice (some ⟨ge, 0, none⟩) lc ce) ∧ w.cell? ⟨ge, 6, none⟩ = some (.string ⟨n.nm.toArray⟩) := by
  subst hb hc
  obtain ⟨hs, h1, h2, h3⟩ := h
  obtain ⟨x0, x1, x2, rfl⟩ : ∃ x0 x1 x2, hs = [x0, x1, x2] := by
    rcases hs with _ | ⟨x0, _ | ⟨x1, _ | ⟨x2, _ | ⟨x3, l⟩⟩⟩⟩
    · cases h2
    · cases h2
    · cases h2
    · exact ⟨x0, x1, x2, rfl⟩
    · simp at h2
  obtain ⟨e0, o0⟩ := h3 0 x0 _ rfl rfl
  obtain ⟨e1, o1⟩ := h3 1 x1 _ rfl rfl
  obtain ⟨e2, o2⟩ := h3 2 x2 _ rfl rfl
  obtain ⟨x00, x01⟩ := x0
  obtain ⟨x10, x11⟩ := x1
  obtain ⟨x20, x21⟩ := x2
  simp only at e0 e1 e2 o0 o1 o2
  subst e0 e1 e2
  obtain ⟨A1, c1, rfl⟩ := own_sl o1
  obtain ⟨ge, ce, rfl, _⟩ := o2.form (by simp)
  obtain ⟨gi, ci, rfl, _⟩ := h1.form (by simp)
  have hr := Row.of_own h1
  have q0 := hr.at_ (flatK_at encI 2 kI [(0, x01), (1, .slice A1 0 c1), (4, .slice (some ⟨ge, 0, none⟩) (n :: r).length ce)] 0 _ 0 _ rfl rfl)
  have q2 := hr.at_ (flatK_at encI 2 kI [(0, x01), (1, .slice A1 0 c1), (4, .slice (some ⟨ge, 0, none⟩) (n :: r).length ce)] 1 _ 0 _ rfl rfl)
  have q3 := hr.at_ (flatK_at encI 2 kI [(0, x01), (1, .slice A1 0 c1), (4, .slice (some ⟨ge, 0, none⟩) (n :: r).length ce)] 1 _ 1 _ rfl rfl)
  have q4 := hr.at_ (flatK_at encI 2 kI [(0, x01), (1, .slice A1 0 c1), (4, .slice (some ⟨ge, 0, none⟩) (n :: r).length ce)] 2 _ 0 _ rfl rfl)
  have q5 := hr.at_ (flatK_at encI 2 kI [(0, x01), (1, .slice A1 0 c1), (4, .slice (some ⟨ge, 0, none⟩) (n :: r).length ce)] 2 _ 1 _ rfl rfl)
  have q6 := own_node o2 0 n rfl 6 _ rfl
  exact ⟨gi, ci, A1, c1, ge, (n :: r).length, ce, rfl, by simp, q0, q2, q3, q4, q5, q6⟩
theorem selJ_len (b : Bool) : (selJ b).length ≤ 16 := by cases b <;> decide
theorem selW_len (b : Bool) : (selW b).length ≤ 16 := by cases b <;> decide
theorem selG_len (b : Bool) : (selG b).length ≤ 13 := by cases b <;> decide
theorem selO_len (b d : Bool) : (selO b d).length ≤ 20 := by cases b <;> cases d <;> decide
theorem sel0_len : sel0.length = 35 := by decide
set_option maxRecDepth 1000000 in
set_option maxHeartbeats 16000000 in
theorem sel_walk (j wh g o d : Bool) (a : Int) (w : World) (ha : ok64 a) :
    Calls Try.prog 6 #[.bool j, .bool wh, .bool g, .bool o, .bool d, .int .i64 a] w fun e w' => e = .returned (.bool true) ∧ Below w.heap.size w w' := by
  obtain ⟨n, hn, hna⟩ := mod_nat a 50 (by decide)
  have HN := Lib.hid (fun W => within_ a 50 W (by decide) (by decide) ha)
  replace HN := HN.out
  rw [show a % 50 = (n : Int) from hna] at HN
  replace HN := Lib.hid HN
  clear ha hna
  have hsel := sel_ok j wh g o d n (by omega)
  have HSEL := Lib.hid hsel
  clear hsel
  go_enter Try.func6, Try.ntmps6
  go_wp2_with fail
  refine (known_ _).mono ?_
  rintro e w1 ⟨rfl, hb1⟩
  have HB1 := Lib.hid hb1
  clear hb1
  have HU0 := Lib.hid (IsT.lit sel0)
  have HU0' := Lib.hid (show IsT (⟨#[115, 101, 108, 101, 99, 116, 32, 120, 44, 32, 99, 111, 117, 110, 116, 40, 42, 41, 44, 32, 109, 97, 120, 40, 116, 46, 121, 41, 32, 102, 114, 111, 109, 32, 116]⟩ : ByteArray) sel0 from ⟨rfl⟩)
  clear HU0
  go_upto_region 4 with fail
  obtain ⟨u0, hu0⟩ : ∃ u : ByteArray, (⟨#[115, 101, 108, 101, 99, 116, 32, 120, 44, 32, 99, 111, 117, 110, 116, 40, 42, 41, 44, 32, 109, 97, 120, 40, 116, 46, 121, 41, 32, 102, 114, 111, 109, 32, 116]⟩ : ByteArray) = u := ⟨_, rfl⟩
  replace HU0' := HU0'.out
  rw [hu0] at HU0' ⊢
  have zu0 : u0.size ≤ 35 := by rw [HU0'.size]; decide
  have HU := Lib.hid HU0'
  clear hu0 HU0'
  go_upto_if 19 with fail
  go_cut [13] from 19 to 21 (fun s wx => ∃ t : ByteArray, s = .string t ∧ IsT t (sel0 ++ selJ j) ∧ w1 = wx)
  case first =>
    cases j with
    | false =>
      go_wp2_with fail
      go_meet
      exact ⟨_, rfl, by have h := HU.out; simpa [selJ] using h, rfl⟩
    | true =>
      have zz : (u0 ++ (⟨#[32, 106, 111, 105, 110, 32, 117, 32, 111, 110, 32, 97, 32, 61, 32, 98]⟩ : ByteArray)).size ≤ 51 := by rw [ByteArray.size_append, show (⟨#[32, 106, 111, 105, 110, 32, 117, 32, 111, 110, 32, 97, 32, 61, 32, 98]⟩ : ByteArray).size = 16 from rfl]; omega
      go_wp2_with fail
      go_meet
      exact ⟨_, rfl, HU.out.app (IsT.lit [32, 106, 111, 105, 110, 32, 117, 32, 111, 110, 32, 97, 32, 61, 32, 98]) (by simp [selJ]), rfl⟩
  obtain ⟨u1, rfl, h_, rfl⟩ := hcut
  have HU1 := Lib.hid h_
  have zu1 : u1.size ≤ 51 := by have k0 := sel0_len; have k1 := selJ_len j; have k2 := selW_len wh; have k3 := selG_len g; have k4 := selO_len o d; rw [h_.size]; simp only [List.length_append]; omega
  clear h_ HU
  go_upto_if 22 with fail
  go_cut [13] from 22 to 24 (fun s wx => ∃ t : ByteArray, s = .string t ∧ IsT t (sel0 ++ (selJ j ++ selW wh)) ∧ w1 = wx)
  case first =>
    cases wh with
    | false =>
      go_wp2_with fail
      go_meet
      exact ⟨_, rfl, by have h := HU1.out; simpa [selW] using h, rfl⟩
    | true =>
      have zz : (u1 ++ (⟨#[32, 119, 104, 101, 114, 101, 32, 99, 32, 105, 115, 32, 110, 117, 108, 108]⟩ : ByteArray)).size ≤ 67 := by rw [ByteArray.size_append, show (⟨#[32, 119, 104, 101, 114, 101, 32, 99, 32, 105, 115, 32, 110, 117, 108, 108]⟩ : ByteArray).size = 16 from rfl]; omega
      go_wp2_with fail
      go_meet
      exact ⟨_, rfl, HU1.out.app (IsT.lit [32, 119, 104, 101, 114, 101, 32, 99, 32, 105, 115, 32, 110, 117, 108, 108]) (by simp [selW]), rfl⟩
  obtain ⟨u2, rfl, h_, rfl⟩ := hcut
  have HU2 := Lib.hid h_
  have zu2 : u2.size ≤ 67 := by have k0 := sel0_len; have k1 := selJ_len j; have k2 := selW_len wh; have k3 := selG_len g; have k4 := selO_len o d; rw [h_.size]; simp only [List.length_append]; omega
  clear h_ HU1
  go_upto_if 25 with fail
  go_cut [13] from 25 to 27 (fun s wx => ∃ t : ByteArray, s = .string t ∧ IsT t (sel0 ++ (selJ j ++ (selW wh ++ selG g))) ∧ w1 = wx)
  case first =>
    cases g with
    | false =>
      go_wp2_with fail
      go_meet
      exact ⟨_, rfl, by have h := HU2.out; simpa [selG] using h, rfl⟩
    | true =>
      have zz : (u2 ++ (⟨#[32, 103, 114, 111, 117, 112, 32, 98, 121, 32, 116, 46, 103]⟩ : ByteArray)).size ≤ 80 := by rw [ByteArray.size_append, show (⟨#[32, 103, 114, 111, 117, 112, 32, 98, 121, 32, 116, 46, 103]⟩ : ByteArray).size = 13 from rfl]; omega
      go_wp2_with fail
      go_meet
      exact ⟨_, rfl, HU2.out.app (IsT.lit [32, 103, 114, 111, 117, 112, 32, 98, 121, 32, 116, 46, 103]) (by simp [selG]), rfl⟩
  obtain ⟨u3, rfl, h_, rfl⟩ := hcut
  have HU3 := Lib.hid h_
  have zu3 : u3.size ≤ 80 := by have k0 := sel0_len; have k1 := selJ_len j; have k2 := selW_len wh; have k3 := selG_len g; have k4 := selO_len o d; rw [h_.size]; simp only [List.length_append]; omega
  clear h_ HU2
  go_upto_if 28 with fail
  go_cut [13] from 28 to 33 (fun s wx => ∃ t : ByteArray, s = .string t ∧ IsT t (sel0 ++ (selJ j ++ (selW wh ++ (selG g ++ selO o d)))) ∧ w1 = wx)
  case first =>
    cases o with
    | false =>
      go_wp2_with fail
      go_meet
      exact ⟨_, rfl, by have h := HU3.out; simpa [selO] using h, rfl⟩
    | true =>
      have zz : (u3 ++ (⟨#[32, 111, 114, 100, 101, 114, 32, 98, 121, 32, 111]⟩ : ByteArray)).size ≤ 94 := by rw [ByteArray.size_append, show (⟨#[32, 111, 114, 100, 101, 114, 32, 98, 121, 32, 111]⟩ : ByteArray).size = 11 from rfl]; omega
      cases d with
      | false =>
        go_wp2_with fail
        go_meet
        exact ⟨_, rfl, HU3.out.app (IsT.lit [32, 111, 114, 100, 101, 114, 32, 98, 121, 32, 111]) (by simp [selO]), rfl⟩
      | true =>
        have zz2 : (u3 ++ (⟨#[32, 111, 114, 100, 101, 114, 32, 98, 121, 32, 111]⟩ : ByteArray) ++ (⟨#[32, 100, 101, 115, 99]⟩ : ByteArray)).size ≤ 99 := by rw [ByteArray.size_append, show (⟨#[32, 100, 101, 115, 99]⟩ : ByteArray).size = 5 from rfl]; omega
        go_wp2_with fail
        go_meet
        exact ⟨_, rfl, (HU3.out.app (IsT.lit [32, 111, 114, 100, 101, 114, 32, 98, 121, 32, 111]) rfl).app (IsT.lit [32, 100, 101, 115, 99]) (by simp [selO]), rfl⟩
  obtain ⟨u4, rfl, h_, rfl⟩ := hcut
  have HU4 := Lib.hid h_
  have zu4 : u4.size ≤ 103 := by have k0 := sel0_len; have k1 := selJ_len j; have k2 := selW_len wh; have k3 := selG_len g; have k4 := selO_len o d; rw [h_.size]; simp only [List.length_append]; omega
  clear h_ HU3
  go_wp2_with fail
  refine (HN.out _).mono ?_
  rintro e w2 ⟨rfl, rfl⟩
  obtain ⟨L, hL, hL0, hL1⟩ : ∃ L : Int, (n : Int) - 1 = L ∧ -1 ≤ L ∧ L ≤ 48 := ⟨(n : Int) - 1, rfl, by omega, by omega⟩
  go_upto_if 38 with fail
  have HL := Lib.hid hL
  clear hL
  go_cut [13] from 37 to 43 (fun s wx => ∃ t : ByteArray, s = .string t ∧ IsT t (selText j wh g o d n) ∧ Below w1.heap.size w1 wx)
  case first =>
    cases n with
    | zero =>
      obtain rfl : L = -1 := by have := HL.out; omega
      go_wp2_with fail
      go_meet
      exact ⟨_, rfl, by have h := HU4.out; simpa [selText, selL] using h, Below.refl _ _⟩
    | succ k =>
      obtain rfl : L = (k : Int) := by have := HL.out; omega
      have c0 : decide ((0 : Int) ≤ (k : Int)) = true := by simp
      have HD := Lib.hid (rdigits_ k w1 (by omega))
      have zd : (⟨(digs k).toArray⟩ : ByteArray).size ≤ 19 := by rw [size_mk]; exact digs_19 k (by omega)
      have HTD := Lib.hid ((HU4.out.app (IsT.lit [32, 108, 105, 109, 105, 116, 32]) rfl).app (IsT.lit (digs k)) (show _ ++ [32, 108, 105, 109, 105, 116, 32] ++ digs k = selText j wh g o d (k + 1) by simp [selText, selL]))
      obtain ⟨dd, hdd⟩ : ∃ x : ByteArray, (⟨(digs k).toArray⟩ : ByteArray) = x := ⟨_, rfl⟩
      replace HD := HD.out
      replace HTD := HTD.out
      rw [hdd] at HD HTD zd
      replace HD := Lib.hid HD
      replace HTD := Lib.hid HTD
      have zz : (u4 ++ (⟨#[32, 108, 105, 109, 105, 116, 32]⟩ : ByteArray)).size ≤ 110 := by rw [ByteArray.size_append, show (⟨#[32, 108, 105, 109, 105, 116, 32]⟩ : ByteArray).size = 7 from rfl]; omega
      have zz2 : (u4 ++ (⟨#[32, 108, 105, 109, 105, 116, 32]⟩ : ByteArray) ++ dd).size ≤ 129 := by rw [ByteArray.size_append]; omega
      clear hdd
      go_wp2_with fail
      refine (HD.out).mono ?_
      rintro e w3 ⟨rfl, hb3⟩
      go_wp2_with fail
      go_meet
      exact ⟨_, rfl, HTD.out, hb3⟩
  obtain ⟨u5, rfl, h_, hb_⟩ := hcut
  have HB2 := Lib.hid (bch0 HB1.out hb_)
  clear hb_ HU4 HN HB1
  generalize wc = W3 at *
  obtain ⟨st, hst, hR⟩ := HSEL.out
  have HST := Lib.hid (Stmt_ (selText j wh g o d n) (by have := sel_len j wh g o d n (by omega); omega) W3)
  replace HST := HST.out
  rw [hst, ← h_.eq] at HST
  replace HST := Lib.hid HST
  have HR := Lib.hid hR
  clear hst hR h_ HSEL
  go_wp2_with fail
  refine (HST.out).mono ?_
  rintro e w4 ⟨v, rfl, ho, hb4⟩
  have HB4 := Lib.hid (bch0 HB2.out hb4)
  simp only
  obtain ⟨w9, hw9, BX9, hg9⟩ := Blk.setRow (Blk.new w4 44 #[.int .i64 0, .string ⟨#[]⟩, .slice none 0 0, .int .i64 0, .bool false, .string ⟨#[]⟩, .string ⟨#[]⟩, .slice none 0 0, .slice none 0 0, .slice none 0 0, .slice none 0 0, .slice none 0 0, .string ⟨#[]⟩, .string ⟨#[]⟩, .bool false, .int .i64 0, .string ⟨#[]⟩]) (cellsSt st v)
  have HW9 := Lib.hid hw9
  have hal := (Below.refl w4.heap.size w4).alloc (Nat.le_refl _) (.cells #[.int .i64 0, .string ⟨#[]⟩, .slice none 0 0, .int .i64 0, .bool false, .string ⟨#[]⟩, .string ⟨#[]⟩, .slice none 0 0, .slice none 0 0, .slice none 0 0, .slice none 0 0, .slice none 0 0, .string ⟨#[]⟩, .string ⟨#[]⟩, .bool false, .int .i64 0, .string ⟨#[]⟩] 44)
  have hb9 := hal.grown hg9 (by have := hal.size; omega) (by intro k hk; injection hk with hk; omega)
  have HB9 := Lib.hid (bch0 HB4.out hb9)
  have H1 := Lib.hid (st_one ho)
  have ho9 := ho.ext hb9
  have R := HR.out
  obtain ⟨Aon, con, hvon⟩ := own_sl ho9.on
  obtain ⟨Aw, cw, hvw⟩ := own_sl ho9.w
  obtain ⟨ia, ib, ic, nd, ir, hitems, hib, hic, hnm⟩ := R.items
  have hio := ho9.i
  rw [hitems] at hio
  obtain ⟨gi, ci, A1, c1, ge, lc, ce, hvi, hlc, q70, q72, q73, q74, q75, q76⟩ := its_sel hio hib hic
  rw [hnm] at q76
  have q0 : w9.cell? ⟨w4.heap.size, 0, none⟩ = some (.int .i64 6) := (BX9.cell 0).trans (by show some (Value.int .i64 st.kind) = _; rw [R.kind])
  have q5 : w9.cell? ⟨w4.heap.size, 5, none⟩ = some (.string ⟨#[116]⟩) := (BX9.cell 5).trans (by show some (Value.string ⟨st.table.toArray⟩) = _; rw [R.table])
  obtain ⟨jn, hjn⟩ : ∃ x : ByteArray, (⟨st.join.toArray⟩ : ByteArray) = x := ⟨_, rfl⟩
  obtain ⟨gn, hgn⟩ : ∃ x : ByteArray, (⟨st.group.toArray⟩ : ByteArray) = x := ⟨_, rfl⟩
  obtain ⟨on, hon⟩ : ∃ x : ByteArray, (⟨st.order.toArray⟩ : ByteArray) = x := ⟨_, rfl⟩
  obtain ⟨ln, hln⟩ : ∃ x, st.on.length = x := ⟨_, rfl⟩
  obtain ⟨lw, hlw⟩ : ∃ x, st.wh.length = x := ⟨_, rfl⟩
  have q6 : w9.cell? ⟨w4.heap.size, 6, none⟩ = some (.string jn) := (BX9.cell 6).trans (by rw [← hjn]; rfl)
  have q7 : w9.cell? ⟨w4.heap.size, 7, none⟩ = some (.slice Aon ln con) := (BX9.cell 7).trans (by rw [← hln]; exact congrArg some hvon)
  have q10 : w9.cell? ⟨w4.heap.size, 10, none⟩ = some (.slice (some ⟨gi, 0, none⟩) 3 ci) := (BX9.cell 10).trans (congrArg some hvi)
  have q11 : w9.cell? ⟨w4.heap.size, 11, none⟩ = some (.slice Aw lw cw) := (BX9.cell 11).trans (by rw [← hlw]; exact congrArg some hvw)
  have q12 : w9.cell? ⟨w4.heap.size, 12, none⟩ = some (.string gn) := (BX9.cell 12).trans (by rw [← hgn]; rfl)
  have q13 : w9.cell? ⟨w4.heap.size, 13, none⟩ = some (.string on) := (BX9.cell 13).trans (by rw [← hon]; rfl)
  have q14 : w9.cell? ⟨w4.heap.size, 14, none⟩ = some (.bool (o && d)) := (BX9.cell 14).trans (by show some (Value.bool st.desc) = _; rw [R.desc])
  have q15 : w9.cell? ⟨w4.heap.size, 15, none⟩ = some (.int .i64 L) := (BX9.cell 15).trans (by show some (Value.int .i64 st.limit) = _; rw [R.limit, HL.out])
  have f1 : (jn.toList == [117]) = j := by rw [← hjn, R.join]; cases j <;> decide +kernel
  have f2 : (jn.toList == []) = !j := by rw [← hjn, R.join]; cases j <;> decide +kernel
  have f3 : ((ln : Int) == 3) = j := by rw [← hln, R.on]; cases j <;> decide +kernel
  have f4 : ((lw : Int) == 2) = wh := by rw [← hlw, R.wh]; cases wh <;> decide +kernel
  have f5 : ((lw : Int) == 0) = !wh := by rw [← hlw, R.wh]; cases wh <;> decide +kernel
  have f6 : (gn.toList == [116, 46, 103]) = g := by rw [← hgn, R.group]; cases g <;> decide +kernel
  have f7 : (on.toList == [111]) = o := by rw [← hon, R.order]; cases o <;> decide +kernel
  have zln : ln ≤ 3 := by rw [← hln, R.on]; cases j <;> decide
  have zlw : lw ≤ 3 := by rw [← hlw, R.wh]; cases wh <;> decide
  clear hw9 BX9 hg9 hal hb9 ho9 ho hb4 R hvon hvw hitems hib hic hnm hio hvi hjn hgn hon hln hlw HR HL
  go_wp2_with (first | ((with_reducible show wpList _ _ _ (Oper.mk _ (Op.store 44 _ _) _ _ _ _ :: _) _ _); refine wpList_store_row rfl 44 _ _ rfl w4.heap.size (cellsSt st v) rfl rfl 44 _ (Blk.new w4 44 #[.int .i64 0, .string ⟨#[]⟩, .slice none 0 0, .int .i64 0, .bool false, .string ⟨#[]⟩, .string ⟨#[]⟩, .slice none 0 0, .slice none 0 0, .slice none 0 0, .slice none 0 0, .slice none 0 0, .string ⟨#[]⟩, .string ⟨#[]⟩, .bool false, .int .i64 0, .string ⟨#[]⟩]) (by kernel_rfl) rfl (H1.out) ?_; rw [← HW9.out]))
  all_goals (go_ret; exact ⟨rfl, HB9.out⟩)
end Go.Proofs.Ytfnceamkephpjaa.pg
