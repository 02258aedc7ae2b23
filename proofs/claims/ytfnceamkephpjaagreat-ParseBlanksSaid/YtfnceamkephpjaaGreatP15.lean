/- The program's parser: constants, one. Printed by gen15.py. -/
import Derived.Test.YtfnceamkephpjaaGreatP14
namespace Go.Proofs.YtfnceamkephpjaaGreat.pg
open Go.ChangeShapes Go.WideShapes Go.ChangeAt Go.RowKit Go.Proofs.YtfnceamkephpjaaGreat.lib Go.Proofs.YtfnceamkephpjaaGreat.lx
set_option linter.unusedVariables false

def constM : List (List UInt8 × Value) := [([116, 114, 117, 101], Value.agg #[.int .i64 1, .int .i64 1, .string ⟨#[]⟩]), ([102, 97, 108, 115, 101], Value.agg #[.int .i64 1, .int .i64 0, .string ⟨#[]⟩]), ([110, 117, 108, 108], Value.agg #[.int .i64 0, .int .i64 0, .string ⟨#[]⟩])]
theorem zeroV (w : World) : (zeroValue 43).run Tryz.prog w = .ok (Value.agg #[.int .i64 0, .int .i64 0, .string ⟨#[]⟩]) w := by kernel_rfl
theorem const_look (l : List UInt8) : ∃ (kk nn : Int) (is : Bool), mlook constM l (Value.agg #[.int .i64 0, .int .i64 0, .string ⟨#[]⟩]) = (Value.agg #[.int .i64 kk, .int .i64 nn, .string ⟨#[]⟩], is) ∧ consts l = if is = true then some (ndV kk nn []) else none := by
  unfold consts
  by_cases h1 : l = [116, 114, 117, 101]
  · subst h1
    exact ⟨1, 1, true, rfl, rfl⟩
  by_cases h2 : l = [102, 97, 108, 115, 101]
  · subst h2
    exact ⟨1, 0, true, rfl, rfl⟩
  by_cases h3 : l = [110, 117, 108, 108]
  · subst h3
    exact ⟨0, 0, true, rfl, rfl⟩
  refine ⟨0, 0, false, ?_, by rw [if_neg h1, if_neg h2, if_neg h3, if_neg (by simp)]⟩
  unfold mlook constM
  rw [List.find?_cons_of_neg (by simpa using fun e => h1 e.symm), List.find?_cons_of_neg (by simpa using fun e => h2 e.symm), List.find?_cons_of_neg (by simpa using fun e => h3 e.symm)]
  rfl
set_option maxRecDepth 100000 in
theorem constants_ (w : World) : Calls Tryz.prog 103 #[] w fun e w' => ∃ m, e = .returned (.map (some m)) ∧ MapAt w' m constM ∧ w.heap.size ≤ m ∧ Below w.heap.size w w' := by
  have hmm := @run_makeMap Tryz.prog
  go_enter Tryz.func103, Tryz.ntmps103
  go_wp2_with (first | ((with_reducible show wpList _ _ _ (Oper.mk _ (Op.insert _ _ _ _) _ _ _ _ :: _) _ _); refine wpList_put_lit rfl _ _ _ 139 (.inl rfl) 9 43 Tryz.underlying139 Tryz.underlying9 w.heap.size [] rfl (MapAt.new _) [116, 114, 117, 101] (Value.agg #[.int .i64 1, .int .i64 1, .string ⟨#[]⟩]) rfl rfl (by rfl) ?_; intro v1 hM1 hg1) | ((with_reducible show wpList _ _ _ (Oper.mk _ (Op.insert _ _ _ _) _ _ _ _ :: _) _ _); refine wpList_put_lit rfl _ _ _ 139 (.inl rfl) 9 43 Tryz.underlying139 Tryz.underlying9 w.heap.size [([116, 114, 117, 101], Value.agg #[.int .i64 1, .int .i64 1, .string ⟨#[]⟩])] rfl hM1 [102, 97, 108, 115, 101] (Value.agg #[.int .i64 1, .int .i64 0, .string ⟨#[]⟩]) rfl rfl (by rfl) ?_; intro v2 hM2 hg2) | ((with_reducible show wpList _ _ _ (Oper.mk _ (Op.insert _ _ _ _) _ _ _ _ :: _) _ _); refine wpList_put_lit rfl _ _ _ 139 (.inl rfl) 9 43 Tryz.underlying139 Tryz.underlying9 w.heap.size [([116, 114, 117, 101], Value.agg #[.int .i64 1, .int .i64 1, .string ⟨#[]⟩]), ([102, 97, 108, 115, 101], Value.agg #[.int .i64 1, .int .i64 0, .string ⟨#[]⟩])] rfl hM2 [110, 117, 108, 108] (Value.agg #[.int .i64 0, .int .i64 0, .string ⟨#[]⟩]) rfl rfl (by rfl) ?_; intro v3 hM3 hg3))
  have hM : MapAt v3 w.heap.size constM := hM3
  have hbw : Below w.heap.size w v3 := (((((Below.refl w.heap.size w).alloc (Nat.le_refl _) (.map #[] 0)).grown hg1 (by have := MapAt.new w; have := this.lt; omega) (by intro k hk; injection hk with hk; omega)).grown hg2 (by have := hM1; have := this.lt; omega) (by intro k hk; injection hk with hk; omega)).grown hg3 (by have := hM2; have := this.lt; omega) (by intro k hk; injection hk with hk; omega))
  have H := Lib.hid (And.intro hM hbw)
  clear hM hbw hM1 hM2 hM3 hg1 hg2 hg3 hmm
  go_ret
  exact ⟨_, rfl, H.out.1, Nat.le_refl _, H.out.2⟩
set_option maxRecDepth 1000000 in
set_option maxHeartbeats 4000000 in
theorem bone_ (W : List Wd) (f : Nat) (hs : RuleB 34 W 0 f) : RuleB 102 W 7 (f + 1) := by
  intro w g h b B x hn
  have HS := Lib.hid hs
  have hlt := x.pr.lt
  have hW := Lib.hid x.pr.wok
  obtain ⟨R, hR⟩ : ∃ R, pr W (f + 1) 7 B = R := ⟨_, rfl⟩
  have hr := (show oneP W (pr W f 0) B = R by
    rw [← hR]
    conv => rhs; unfold pr)
  rw [hR]
  obtain ⟨x1, hx1⟩ : ∃ y, cur W B.p = y := ⟨_, rfl⟩
  unfold oneP constAt at hr
  rw [hx1] at hr
  have HR := Lib.hid hr
  have HX := Lib.hid hx1
  have HWD := Lib.hid (pword_ x.pr)
  have c0 := x.cell
  have X := Lib.hid x
  have hgl := x.pr.gl
  have hhl := x.hl
  clear hs x hR hr hx1
  go_enter Tryz.func102, Tryz.ntmps102
  go_wp2_with fail
  refine (HWD.out).mono ?_
  rintro e w2 ⟨rfl, hb2⟩
  rw [HX.out]
  unfold wordV
  go_upto_region 2 with fail
  obtain ⟨W3, hW_, hb3, BX⟩ : ∃ W_, W_ = (w2.alloc (.cells #[.int .i64 x1.k, .int .i64 x1.n, .string ⟨x1.s.toArray⟩] 57)) ∧ Below w2.heap.size w2 W_ ∧ Blk W_ (w2.heap.size) 57 #[.int .i64 x1.k, .int .i64 x1.n, .string ⟨x1.s.toArray⟩] :=
    ⟨_, rfl, ((Below.refl _ _).alloc (Nat.le_refl _) _), (blk_new_at w2 (w2.heap.size) _ _ (by simp))⟩
  rw [← hW_]
  clear hW_
  have X3 := Lib.hid (X.out.ext (bch0 hb2 hb3))
  have HF3 := Lib.hid (Fr.of_below (g := g) (h := h) (bch0 hb2 hb3))
  have hz2 := hb2.size
  have hlv : w2.heap.size < W3.heap.size := BX.lt
  obtain ⟨v, hv⟩ : ∃ v, w2.heap.size = v := ⟨_, rfl⟩
  rw [hv] at BX hlv hz2 ⊢
  have HBX := Lib.hid BX
  have D := fun w' (h : Below W3.heap.size W3.drew w') => BX.three (Below.trans (Below.refl _ _).drew h)
  obtain ⟨kk, nn, is, hml, hcs⟩ := const_look x1.s
  have HML := Lib.hid hml
  replace HR := HR.out
  rw [hcs] at HR
  replace HR := Lib.hid HR
  clear c0 hb2 hb3 hv BX hml hcs X
  refine wp_region_mix1 ⟨7, 4, fun g => .pointer (some ⟨g, 0, none⟩), .cells #[.int .i64 0, .int .i64 0, .string ⟨#[]⟩] 43⟩
    [(1, true), (2, true)] [(0, false), (3, false), (4, true), (5, true), (6, true)] [(8, false), (9, true)] (by kernel_rfl) (by kernel_rfl) ?_
  repeat ((with_reducible show wpI _ _ _ _ _ ((_, true) :: _) _ _); (first | (refine wpI_on (v := ?_) rfl rfl (wanted_free rfl) (fun w' hS => ?_) ?_; rotate_left; (focus (go_simp; (try with_reducible rfl); done)); try simp only [List.setIfInBounds_toArray, List.set_cons_zero, List.set_cons_succ]) | (refine wpI_on (v := ?_) rfl rfl (wanted_yes rfl rfl rfl) (fun w' hS => ?_) ?_; rotate_left; (focus (go_simp; (try with_reducible rfl); done)); try simp only [List.setIfInBounds_toArray, List.set_cons_zero, List.set_cons_succ]) | (refine wpI_off rfl rfl (wanted_no rfl rfl rfl) ?_; try simp only [List.setIfInBounds_toArray, List.set_cons_zero, List.set_cons_succ]) | (refine wpI_off rfl rfl (wanted_undef rfl rfl rfl) ?_; try simp only [List.setIfInBounds_toArray, List.set_cons_zero, List.set_cons_succ])))
  refine wpI_done ⟨?_, ?_⟩
  · intro y hy
    simp only [List.mem_cons, List.not_mem_nil, or_false] at hy
    subst hy
    exact ⟨_, rfl, rfl, wanted_free rfl, fun w => by go_simp⟩
  clear D
  refine wpI_do rfl (wanted_free rfl) (fun wI hI hSI K hK => ?_); go_simp
  refine (constants_ _).mono ?_
  rintro e w4 ⟨m, rfl, hM4, _, hb4⟩
  refine hK.out _ _ hb4 ?_
  clear hK K hb4 hI hSI
  have HLK := fun w' (hI : Ext w4 w') => (look_lit (P := Tryz.prog) true Tryz.underlying139 Tryz.underlying9 (zeroV w') (MapAt.ext hM4 hI) x1.s)
  rw [HML.out] at HLK
  simp only [if_true] at HLK
  refine wpI_do rfl (wanted_free rfl) (fun wI hI hSI K hK => ?_)
  have HLKI := HLK wI hI
  go_simp
  refine hK.out _ _ (Below.refl _ _) ?_
  clear hK K HLK HLKI hI hSI hM4
  repeat ((with_reducible show wpI _ _ _ _ _ ((_, true) :: _) _ _); (first | (refine wpI_on (v := ?_) rfl rfl (wanted_free rfl) (fun w' hS => ?_) ?_; rotate_left; (focus (go_simp; (try with_reducible rfl); done)); try simp only [List.setIfInBounds_toArray, List.set_cons_zero, List.set_cons_succ]) | (refine wpI_on (v := ?_) rfl rfl (wanted_yes rfl rfl rfl) (fun w' hS => ?_) ?_; rotate_left; (focus (go_simp; (try with_reducible rfl); done)); try simp only [List.setIfInBounds_toArray, List.set_cons_zero, List.set_cons_succ]) | (refine wpI_off rfl rfl (wanted_no rfl rfl rfl) ?_; try simp only [List.setIfInBounds_toArray, List.set_cons_zero, List.set_cons_succ]) | (refine wpI_off rfl rfl (wanted_undef rfl rfl rfl) ?_; try simp only [List.setIfInBounds_toArray, List.set_cons_zero, List.set_cons_succ])))
  refine wpI_done ?_
  intro g1 wf he hb hlo1 hhi1 hat1
  try simp only [List.setIfInBounds_toArray, List.set_cons_zero, List.set_cons_succ]
  have B5 : Blk wf g1 43 #[.int .i64 0, .int .i64 0, .string ⟨#[]⟩] := hat1
  clear hat1 he
  have f0 := B5.frozen 0
  have f1 := B5.frozen 1
  have f2 := B5.frozen 2
  have q0 := B5.cell 0
  have q1 := B5.cell 1
  have q2 := B5.cell 2
  refine wpPerm_do rfl (wanted_free rfl) (fun K hK => ?_); go_simp
  clear f0 f1 f2 q0 q1 q2
  obtain ⟨w5, hw5, B5', hlow, _, _⟩ := Blk.set3 B5 (.int .i64 kk) (.int .i64 nn) (.string ⟨#[]⟩)
  rw [← hw5]
  clear hw5 B5
  have hbx := Below.trans hb (hlow _ hlo1)
  refine hK.out _ _ hbx ?_
  clear hK K
  repeat ((with_reducible show wpPerm _ _ _ _ ((_, true) :: _) _ _); (first | (refine wpPerm_on (v := ?_) rfl rfl (wanted_free rfl) (fun w' hS => ?_) ?_; rotate_left; (focus (go_simp; (try with_reducible rfl); done)); try simp only [List.setIfInBounds_toArray, List.set_cons_zero, List.set_cons_succ]) | (refine wpPerm_on (v := ?_) rfl rfl (wanted_yes rfl rfl rfl) (fun w' hS => ?_) ?_; rotate_left; (focus (go_simp; (try with_reducible rfl); done)); try simp only [List.setIfInBounds_toArray, List.set_cons_zero, List.set_cons_succ]) | (refine wpPerm_off rfl rfl (wanted_no rfl rfl rfl) ?_; try simp only [List.setIfInBounds_toArray, List.set_cons_zero, List.set_cons_succ]) | (refine wpPerm_off rfl rfl (wanted_undef rfl rfl rfl) ?_; try simp only [List.setIfInBounds_toArray, List.set_cons_zero, List.set_cons_succ])))
  refine wpPerm_done ?_
  have hb6 := Below.trans (Below.refl _ _).drew hbx
  have X6 := Lib.hid (X3.out.ext hb6)
  have HF6 := Lib.hid (HF3.out.tr (Fr.of_below hb6))
  have HX6 := Lib.hid (HBX.out.ext hb6)
  have HV6 := Lib.hid B5'
  have qx := HX6.out.three (Below.refl _ _)
  have qv := HV6.out.three (Below.refl _ _)
  have c0 := X6.out.cell
  have hvg : v ≠ g := by omega
  have hvh : v ≠ h := by omega
  have h1g : g1 ≠ g := by omega
  have h1h : g1 ≠ h := by omega
  clear hb hbx hb6 hlow X3 HF3 HBX B5'
  by_cases hk : x1.k = 2
  case pos =>
    have k2 : (x1.k == 2) = true := by simpa using hk
    have hr := HR.out
    rw [if_pos hk] at hr
    have hnx : nextP W B.p = stepP B.p := by unfold nextP; rw [if_neg (by rw [HX.out]; omega)]
    have HNX := Lib.hid (pnext_ X6.out.pr)
    replace HNX := HNX.out
    rw [hnx] at HNX
    replace HNX := Lib.hid HNX
    clear hnx hk
    go_wp2_with fail
    refine (HNX.out).mono ?_
    rintro e w7 ⟨rfl, h7, hg7⟩
    have X7 := Lib.hid (show Br w7 g h W b (stepB B) from X6.out.parser h7 hg7)
    have HF7 := Lib.hid (HF6.out.tr (Fr.of_g hg7))
    have qx := HX6.out.grown hg7 (by simp; omega)
    have qv := HV6.out.grown hg7 (by simp; omega)
    have qx := qx.three (Below.refl _ _)
    have qv := qv.three (Below.refl _ _)
    have HP := Lib.hid (put_ (ndV 2 x1.n []) X7.out)
    replace HP := HP.out
    rw [hr] at HP
    replace HP := Lib.hid HP
    clear h7 hg7 c0 hr
    go_wp2_with fail
    refine (HP.out).mono ?_
    rintro e w8 ⟨rfl, h8, hf8⟩
    have H8 := Lib.hid h8
    have HF8 := Lib.hid (HF7.out.tr hf8)
    clear h8 hf8
    go_wp2
    go_ret
    exact ⟨rfl, H8.out, HF8.out⟩
  have k2 : (x1.k == 2) = false := by simpa using hk
  replace HR := HR.out
  rw [if_neg hk] at HR
  replace HR := Lib.hid HR
  clear hk
  by_cases hk : x1.k = 3
  case pos =>
    have k3 : (x1.k == 3) = true := by simpa using hk
    have hr := HR.out
    rw [if_pos hk] at hr
    have hnx : nextP W B.p = stepP B.p := by unfold nextP; rw [if_neg (by rw [HX.out]; omega)]
    have HNX := Lib.hid (pnext_ X6.out.pr)
    replace HNX := HNX.out
    rw [hnx] at HNX
    replace HNX := Lib.hid HNX
    clear hnx hk
    go_wp2_with fail
    refine (HNX.out).mono ?_
    rintro e w7 ⟨rfl, h7, hg7⟩
    have X7 := Lib.hid (show Br w7 g h W b (stepB B) from X6.out.parser h7 hg7)
    have HF7 := Lib.hid (HF6.out.tr (Fr.of_g hg7))
    have qx := HX6.out.grown hg7 (by simp; omega)
    have qv := HV6.out.grown hg7 (by simp; omega)
    have qx := qx.three (Below.refl _ _)
    have qv := qv.three (Below.refl _ _)
    have HP := Lib.hid (put_ (ndV 3 0 x1.s) X7.out)
    replace HP := HP.out
    rw [hr] at HP
    replace HP := Lib.hid HP
    clear h7 hg7 c0 hr
    go_wp2_with fail
    refine (HP.out).mono ?_
    rintro e w8 ⟨rfl, h8, hf8⟩
    have H8 := Lib.hid h8
    have HF8 := Lib.hid (HF7.out.tr hf8)
    clear h8 hf8
    go_wp2
    go_ret
    exact ⟨rfl, H8.out, HF8.out⟩
  have k3 : (x1.k == 3) = false := by simpa using hk
  replace HR := HR.out
  rw [if_neg hk] at HR
  replace HR := Lib.hid HR
  clear hk
  by_cases hk : x1.k = 1
  case neg =>
    have k1 : (x1.k == 1) = false := by simpa using hk
    replace HR := HR.out
    rw [if_neg hk] at HR
    replace HR := Lib.hid HR
    clear hk
    have HI := Lib.hid (pis_ [40] X6.out.pr)
    replace HI := HI.out
    unfold isP at HI
    obtain ⟨ok, hok⟩ : ∃ ok, okIs W [40] B.p = ok := ⟨_, rfl⟩
    have HK := Lib.hid (fun (e : ok = true) => (okIs_k (W := W) (s := [40]) (p := B.p) (by rw [hok, e])))
    replace HR := HR.out
    simp only at HR
    rw [hok] at HI HR
    replace HI := Lib.hid HI
    replace HR := Lib.hid HR
    clear hok
    go_wp2_with fail
    refine (HI.out).mono ?_
    rintro e w7 ⟨rfl, h7, hg7⟩
    have X7 := Lib.hid (X6.out.parser h7 hg7)
    have HF7 := Lib.hid (HF6.out.tr (Fr.of_g hg7))
    clear h7 hg7 c0 qx qv
    have c0 := X7.out.cell
    cases ok with
    | true =>
      have hk0 := HK.out (by first | rfl | trivial)
      have hsl := stepP_lt hW.out hk0
      have hr := HR.out
      rw [if_pos rfl] at hr
      have hc := HS.out w7 g h b (stepB B) X7.out (by show (W.length - (B.p.at_ + 1)) * 9 + (9 - 0) ≤ f; have : B.p.at_ + 1 < W.length := hsl; omega)
      obtain ⟨⟨a, q⟩, hq⟩ : ∃ X, pr W f 0 (stepB B) = X := ⟨_, rfl⟩
      rw [hq] at hr hc
      simp only at hr hc
      subst hr
      have HC := Lib.hid hc
      clear hc hq hsl hk0 c0 HR
      go_wp2_with fail
      refine (HC.out).mono ?_
      rintro e w8 ⟨rfl, h8, hf8⟩
      have X8 := Lib.hid h8
      have HF8 := Lib.hid (HF7.out.tr hf8)
      have c0 := h8.cell
      have hgl8 := h8.pr.gl
      clear h8 hf8
      go_wp2_with fail
      obtain ⟨W9, hW_, hb9, BS⟩ : ∃ W_, W_ = (w8.alloc (.cells #[.string ⟨#[41]⟩] 9)) ∧ Below w8.heap.size w8 W_ ∧ Blk W_ (w8.heap.size) 9 #[.string ⟨#[41]⟩] :=
        ⟨_, rfl, ((Below.refl _ _).alloc (Nat.le_refl _) _), (blk_new_at w8 (w8.heap.size) _ _ (by simp))⟩
      rw [← hW_]
      clear hW_
      have X9 := Lib.hid (X8.out.ext hb9)
      have HF9 := Lib.hid (HF8.out.tr (Fr.of_below hb9))
      have HM := Lib.hid (pmust_ [[41]] (some ⟨w8.heap.size, 0, none⟩) 1 X9.out.pr (Row.of_blk BS (Nat.zero_le _) 1 1 (Nat.le_refl _)) (by intro b' off e; injection e with e; injection e with e _; rw [← e]; simp; omega) (by decide))
      clear hb9 BS c0
      refine (HM.out).mono ?_
      rintro e w10 ⟨rfl, h10, hg10⟩
      have X10 := Lib.hid (show Br w10 g h W b ⟨mustP W [41] q.p, q.e⟩ from X9.out.parser h10 hg10)
      have HF10 := Lib.hid (HF9.out.tr (Fr.of_g hg10))
      clear h10 hg10
      go_wp2
      go_ret
      exact ⟨rfl, X10.out, HF10.out⟩
    | false =>
      replace X7 := Lib.hid (show Br w7 g h W b B from X7.out)
      have hr := HR.out
      rw [if_neg (by simp)] at hr
      have HC := Lib.hid (pcol_ X7.out.pr)
      replace HC := HC.out
      obtain ⟨⟨s, q⟩, hq⟩ : ∃ X, colP W B.p = X := ⟨_, rfl⟩
      rw [hq] at hr HC
      simp only at hr HC
      replace HC := Lib.hid HC
      replace HR := Lib.hid hr
      clear hr hq
      go_wp2_with fail
      refine (HC.out).mono ?_
      rintro e w8 ⟨rfl, h8, hg8⟩
      have X8 := Lib.hid (show Br w8 g h W b ⟨q, B.e⟩ from X7.out.parser h8 hg8)
      have HF8 := Lib.hid (HF7.out.tr (Fr.of_g hg8))
      clear h8 hg8 c0
      have c0 := X8.out.cell
      have c1 := X8.out.ecell
      by_cases he : q.err = 0
      case neg =>
        have hd : (q.err != 0) = true := by simpa using he
        obtain rfl : (0, ⟨q, B.e⟩) = R := by rw [← HR.out, if_neg he]
        clear he
        go_wp2
        go_ret
        exact ⟨rfl, X8.out, HF8.out⟩
      have hd : (q.err != 0) = false := by simpa using he
      replace HR := HR.out
      rw [if_pos he] at HR
      have HP := Lib.hid (put_ (ndC s) X8.out)
      replace HP := HP.out
      rw [HR] at HP
      replace HP := Lib.hid HP
      clear he HR
      go_wp2_with fail
      refine (HP.out).mono ?_
      rintro e w9 ⟨rfl, h9, hf9⟩
      have H9 := Lib.hid h9
      have HF9 := Lib.hid (HF8.out.tr hf9)
      clear h9 hf9 c0 c1
      go_wp2
      go_ret
      exact ⟨rfl, H9.out, HF9.out⟩
  have k1 : (x1.k == 1) = true := by simpa using hk
  replace HR := HR.out
  rw [if_pos hk] at HR
  replace HR := Lib.hid HR
  cases is with
  | true =>
    have hr := HR.out
    rw [if_pos rfl] at hr
    simp only at hr
    have hnx : nextP W B.p = stepP B.p := by unfold nextP; rw [if_neg (by rw [HX.out]; omega)]
    have HNX := Lib.hid (pnext_ X6.out.pr)
    replace HNX := HNX.out
    rw [hnx] at HNX
    replace HNX := Lib.hid HNX
    clear hnx hk
    go_wp2_with fail
    refine (HNX.out).mono ?_
    rintro e w7 ⟨rfl, h7, hg7⟩
    have X7 := Lib.hid (show Br w7 g h W b (stepB B) from X6.out.parser h7 hg7)
    have HF7 := Lib.hid (HF6.out.tr (Fr.of_g hg7))
    have qx := HX6.out.grown hg7 (by simp; omega)
    have qv := HV6.out.grown hg7 (by simp; omega)
    have qx := qx.three (Below.refl _ _)
    have qv := qv.three (Below.refl _ _)
    have HP := Lib.hid (put_ (ndV kk nn []) X7.out)
    replace HP := HP.out
    rw [hr] at HP
    replace HP := Lib.hid HP
    clear h7 hg7 c0 hr
    go_wp2_with fail
    refine (HP.out).mono ?_
    rintro e w8 ⟨rfl, h8, hf8⟩
    have H8 := Lib.hid h8
    have HF8 := Lib.hid (HF7.out.tr hf8)
    clear h8 hf8
    go_wp2
    go_ret
    exact ⟨rfl, H8.out, HF8.out⟩
  | false =>
    replace HR := HR.out
    rw [if_neg (by simp)] at HR
    replace HR := Lib.hid HR
    clear hk
    have HI := Lib.hid (pis_ [40] X6.out.pr)
    replace HI := HI.out
    unfold isP at HI
    obtain ⟨ok, hok⟩ : ∃ ok, okIs W [40] B.p = ok := ⟨_, rfl⟩
    have HK := Lib.hid (fun (e : ok = true) => (okIs_k (W := W) (s := [40]) (p := B.p) (by rw [hok, e])))
    replace HR := HR.out
    simp only at HR
    rw [hok] at HI HR
    replace HI := Lib.hid HI
    replace HR := Lib.hid HR
    clear hok
    go_wp2_with fail
    refine (HI.out).mono ?_
    rintro e w7 ⟨rfl, h7, hg7⟩
    have X7 := Lib.hid (X6.out.parser h7 hg7)
    have HF7 := Lib.hid (HF6.out.tr (Fr.of_g hg7))
    clear h7 hg7 c0 qx qv
    have c0 := X7.out.cell
    cases ok with
    | true =>
      have hk0 := HK.out (by first | rfl | trivial)
      have hsl := stepP_lt hW.out hk0
      have hr := HR.out
      rw [if_pos rfl] at hr
      have hc := HS.out w7 g h b (stepB B) X7.out (by show (W.length - (B.p.at_ + 1)) * 9 + (9 - 0) ≤ f; have : B.p.at_ + 1 < W.length := hsl; omega)
      obtain ⟨⟨a, q⟩, hq⟩ : ∃ X, pr W f 0 (stepB B) = X := ⟨_, rfl⟩
      rw [hq] at hr hc
      simp only at hr hc
      subst hr
      have HC := Lib.hid hc
      clear hc hq hsl hk0 c0 HR
      go_wp2_with fail
      refine (HC.out).mono ?_
      rintro e w8 ⟨rfl, h8, hf8⟩
      have X8 := Lib.hid h8
      have HF8 := Lib.hid (HF7.out.tr hf8)
      have c0 := h8.cell
      have hgl8 := h8.pr.gl
      clear h8 hf8
      go_wp2_with fail
      obtain ⟨W9, hW_, hb9, BS⟩ : ∃ W_, W_ = (w8.alloc (.cells #[.string ⟨#[41]⟩] 9)) ∧ Below w8.heap.size w8 W_ ∧ Blk W_ (w8.heap.size) 9 #[.string ⟨#[41]⟩] :=
        ⟨_, rfl, ((Below.refl _ _).alloc (Nat.le_refl _) _), (blk_new_at w8 (w8.heap.size) _ _ (by simp))⟩
      rw [← hW_]
      clear hW_
      have X9 := Lib.hid (X8.out.ext hb9)
      have HF9 := Lib.hid (HF8.out.tr (Fr.of_below hb9))
      have HM := Lib.hid (pmust_ [[41]] (some ⟨w8.heap.size, 0, none⟩) 1 X9.out.pr (Row.of_blk BS (Nat.zero_le _) 1 1 (Nat.le_refl _)) (by intro b' off e; injection e with e; injection e with e _; rw [← e]; simp; omega) (by decide))
      clear hb9 BS c0
      refine (HM.out).mono ?_
      rintro e w10 ⟨rfl, h10, hg10⟩
      have X10 := Lib.hid (show Br w10 g h W b ⟨mustP W [41] q.p, q.e⟩ from X9.out.parser h10 hg10)
      have HF10 := Lib.hid (HF9.out.tr (Fr.of_g hg10))
      clear h10 hg10
      go_wp2
      go_ret
      exact ⟨rfl, X10.out, HF10.out⟩
    | false =>
      replace X7 := Lib.hid (show Br w7 g h W b B from X7.out)
      have hr := HR.out
      rw [if_neg (by simp)] at hr
      have HC := Lib.hid (pcol_ X7.out.pr)
      replace HC := HC.out
      obtain ⟨⟨s, q⟩, hq⟩ : ∃ X, colP W B.p = X := ⟨_, rfl⟩
      rw [hq] at hr HC
      simp only at hr HC
      replace HC := Lib.hid HC
      replace HR := Lib.hid hr
      clear hr hq
      go_wp2_with fail
      refine (HC.out).mono ?_
      rintro e w8 ⟨rfl, h8, hg8⟩
      have X8 := Lib.hid (show Br w8 g h W b ⟨q, B.e⟩ from X7.out.parser h8 hg8)
      have HF8 := Lib.hid (HF7.out.tr (Fr.of_g hg8))
      clear h8 hg8 c0
      have c0 := X8.out.cell
      have c1 := X8.out.ecell
      by_cases he : q.err = 0
      case neg =>
        have hd : (q.err != 0) = true := by simpa using he
        obtain rfl : (0, ⟨q, B.e⟩) = R := by rw [← HR.out, if_neg he]
        clear he
        go_wp2
        go_ret
        exact ⟨rfl, X8.out, HF8.out⟩
      have hd : (q.err != 0) = false := by simpa using he
      replace HR := HR.out
      rw [if_pos he] at HR
      have HP := Lib.hid (put_ (ndC s) X8.out)
      replace HP := HP.out
      rw [HR] at HP
      replace HP := Lib.hid HP
      clear he HR
      go_wp2_with fail
      refine (HP.out).mono ?_
      rintro e w9 ⟨rfl, h9, hf9⟩
      have H9 := Lib.hid h9
      have HF9 := Lib.hid (HF8.out.tr hf9)
      clear h9 hf9 c0 c1
      go_wp2
      go_ret
      exact ⟨rfl, H9.out, HF9.out⟩
end Go.Proofs.YtfnceamkephpjaaGreat.pg
