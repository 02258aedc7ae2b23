/- IndexFrom: the walk. Printed by genlaw11.py. -/
import Derived.Test.YtnlmbjmgmofeiaaI20
import Derived.Lib.MinMax
import Derived.Test.YtnlmbjmgmofeiaaTArg
namespace Go.Proofs.Ytnlmbjmgmofeiaa.ix
open Go.ChangeShapes Go.WideShapes Go.ChangeAt Go.RowKit Go.Proofs.Ytnlmbjmgmofeiaa.lib Go.Proofs.Ytnlmbjmgmofeiaa.val Go.Proofs.Ytnlmbjmgmofeiaa.tb
set_option linter.unusedVariables false

set_option maxRecDepth 1000000 in
set_option maxHeartbeats 8000000 in
theorem from_walk (s : ByteArray) (A : Option Addr) (n c : Nat) (l : List Col) (key : Int) (only : Bool) (Ai : Option Addr) (ni ci : Nat) (zs : List Int) (pc pn pm : Int) (w : World) (hs : s.size ≤ maxLen) (hC : Cs w 0 A n c l) (hn : n ≤ maxLen) (hp : ∀ x ∈ l, RawC x) (hkey : ok64 key) (hI : Row w 0 Ai ni ci (flatK encI zs)) (hni : zs.length = ni) (hi2 : ni ≤ maxLen) (hz : ∀ x ∈ zs, ok64 x) (hpc : ok64 pc) (hpn : ok64 pn) (hpm : ok64 pm) :
    Calls Try.prog 4 #[.agg #[.string s, .slice A n c, .int .i64 key, .bool only], .slice Ai ni ci, .int .i64 pc, .int .i64 pn, .int .i64 pm] w fun e W' => e = .returned (.bool true) ∧ Below w.heap.size w W' := by
  go_enter Try.func4, Try.ntmps4
  go_upto_region 1 with fail
  obtain ⟨W0, hW_, hbW0, BS⟩ : ∃ W_, W_ = (w.alloc (.cells #[.string s, .slice A n c, .int .i64 key, .bool only] 24)) ∧ Below w.heap.size w W_ ∧ Blk W_ (w.heap.size) 24 #[.string s, .slice A n c, .int .i64 key, .bool only] :=
    ⟨_, rfl, ((Below.refl _ _).alloc (Nat.le_refl _) _), (blk_new_at w (w.heap.size) _ _ (by simp))⟩
  rw [← hW_]
  clear hW_
  go_wp2_with fail
  refine (known11_ _).mono ?_
  rintro e w1 ⟨rfl, hb1⟩
  have hbw1 := Below.trans hbW0 (Below.mono hb1 hbW0.size)
  have BS := BS.ext hb1
  clear hbW0 hb1
  have q := four BS (Below.refl _ _)
  go_wp2_with fail
  refine (few9_ s A n c l key only _ hs (hC.ext hbw1) hn (fun x hx => (hp x hx).s)).mono ?_
  rintro e w2 ⟨⟨b, rfl⟩, hb2⟩
  have hbw2 := Below.trans hbw1 (Below.mono hb2 hbw1.size)
  have BS := BS.ext hb2
  clear hbw1 hb2 q
  by_cases hbt : b = true
  case neg =>
    obtain rfl : b = false := by cases b with | false => rfl | true => exact absurd rfl hbt
    go_wp2
    go_ret
    exact ⟨rfl, hbw2⟩
  subst hbt
  have q := four BS (Below.refl _ _)
  go_wp2_with fail
  refine (good9_ s A n c l key only _ (hC.ext hbw2) hn hp hkey).mono ?_
  rintro e w3 ⟨A7, c7, rfl, hC7, hF7, hb3⟩
  have hbw3 := Below.trans hbw2 (Below.mono hb3 hbw2.size)
  have hS : SOk (goodS l key only) := good_ok l key only
  generalize goodS l key only = S at *
  have hC7 := hC7.base (Nat.zero_le _)
  clear hbw2 hb3 q BS hs hC hn hp hkey
  have h6 := hS.six
  have hpos := hS.pos
  have hn7 : S.cols.length ≤ 100 := by omega
  simp only [schA]
  go_wp2_with fail
  obtain ⟨W4, hW_, hbW4, B7⟩ : ∃ W_, W_ = (w3.alloc (.cells #[.string S.name, .slice A7 S.cols.length c7, .int .i64 S.key, .bool S.only] 24)) ∧ Below w3.heap.size w3 W_ ∧ Blk W_ (w3.heap.size) 24 #[.string S.name, .slice A7 S.cols.length c7, .int .i64 S.key, .bool S.only] :=
    ⟨_, rfl, ((Below.refl _ _).alloc (Nat.le_refl _) _), (blk_new_at w3 (w3.heap.size) _ _ (by simp))⟩
  rw [← hW_]
  clear hW_
  obtain ⟨g7, hg7⟩ : ∃ g, w3.heap.size = g := ⟨_, rfl⟩
  have hbw4 := Below.trans hbw3 (Below.mono hbW4 hbw3.size)
  have hC7 := hC7.ext hbW4
  rw [hg7] at B7 ⊢
  clear hg7 hbW4 hbw3 hF7
  obtain ⟨col, hcol, hcl⟩ : ∃ col : Nat, pc % (S.cols.length : Int) = (col : Int) ∧ col < S.cols.length := by
    have h1 := Int.emod_nonneg pc (by omega : (S.cols.length : Int) ≠ 0)
    have h2 := Int.emod_lt_of_pos pc (by omega : (0 : Int) < (S.cols.length : Int))
    exact ⟨(pc % (S.cols.length : Int)).toNat, by omega, by omega⟩
  refine (within11 pc (S.cols.length : Int) (col : Int) hcol _ (by omega) (by omega) hpc.1 hpc.2).mono ?_
  rintro e w5 ⟨rfl, rfl⟩
  clear hcol
  obtain ⟨mo, hmo, hm12⟩ : ∃ mo : Nat, pm % 12 = (mo : Int) ∧ mo < 12 := by
    have h1 := Int.emod_nonneg pm (by omega : (12 : Int) ≠ 0)
    have h2 := Int.emod_lt_of_pos pm (by omega : (0 : Int) < 12)
    exact ⟨(pm % 12).toNat, by omega, by omega⟩
  go_wp2_with fail
  refine (within11 pm 12 (mo : Int) hmo _ (by omega) (by omega) hpm.1 hpm.2).mono ?_
  rintro e w5 ⟨rfl, rfl⟩
  clear hmo
  have q := four B7 (Below.refl _ _)
  go_wp2_with fail
  refine (fill_ S A7 c7 Ai ni ci zs _ hS hC7 (hI.ext hbw4) hni hi2 hz).mono ?_
  rintro e w6 ⟨rows, At, nt, ct, rfl, hR, hFt, hOk, hlen, hfd, hb6⟩
  have hlow6 := hbw4.size
  have hR := hR.base hlow6
  have hbw6 := Below.trans hbw4 (Below.mono hb6 hbw4.size)
  have B7 := B7.ext hb6
  have hC7 := hC7.ext hb6
  have hRN := hR.len
  have hnt : nt ≤ 50 := by omega
  have hrow : ∀ c, c < S.cols.length → ∀ r ∈ rows, RowN c S.key r := fun c hc r hr => rowN_of (hOk.fit r hr) (hfd r hr).num hc hS.key hn7
  clear hb6 q hbw4 hlow6
  simp only [tabA]
  go_wp2_with fail
  obtain ⟨W6, hW_, hbx6, BT⟩ : ∃ W_, W_ = (w6.alloc (.cells #[.string S.name, .slice A7 S.cols.length c7, .int .i64 S.key, .bool S.only, .slice At nt ct] 32)) ∧ Below w6.heap.size w6 W_ ∧ Blk W_ (w6.heap.size) 32 #[.string S.name, .slice A7 S.cols.length c7, .int .i64 S.key, .bool S.only, .slice At nt ct] :=
    ⟨_, rfl, ((Below.refl _ _).alloc (Nat.le_refl _) _), (blk_new_at w6 (w6.heap.size) _ _ (by simp))⟩
  rw [← hW_]
  clear hW_
  obtain ⟨gt, hgt⟩ : ∃ g, w6.heap.size = g := ⟨_, rfl⟩
  rw [hgt] at BT ⊢
  have hbw60 := hbw6
  have hbw6 := Below.trans hbw60 (Below.mono hbx6 hbw60.size)
  have B7 := B7.ext hbx6
  have hR := hR.ext hbx6
  have hC7 := hC7.ext hbx6
  clear hgt hbx6 hbw60
  have q := five BT (Below.refl _ _)
  go_wp2_with fail
  clear q
  refine (of_ S A7 S.cols.length c7 At nt ct _).mono ?_
  rintro e w7 ⟨rfl, hb7⟩
  have hbw7 := Below.trans hbw6 (Below.mono hb7 hbw6.size)
  have BT := BT.ext hb7
  have B7 := B7.ext hb7
  have hR := hR.ext hb7
  have hC7 := hC7.ext hb7
  simp only [tabA]
  go_wp2_with fail
  refine (build_ S rows col S.key _ A7 S.cols.length c7 At nt ct _ rfl hR (by omega) (hrow col hcl)).mono ?_
  rintro e w8 ⟨g, ws, Ax, cx, rfl, hx, hmap, hlo, hb8⟩
  have hbw8 := Below.trans hbw7 (Below.mono hb8 hbw7.size)
  have BT := BT.ext hb8
  have B7 := B7.ext hb8
  have hR := hR.ext hb8
  have hC7 := hC7.ext hb8
  have hwl : ws.length ≤ 50 := by
    have h4 := buildN_len col S.key rows rows.length
    rw [List.take_of_length_le (Nat.le_refl _), ← hmap, List.length_map] at h4
    omega
  have HMX := Lib.hid hmap
  have HX := Lib.hid hx
  have HRW := Lib.hid (hrow col hcl)
  have HRK := Lib.hid (hrow S.key hS.key)
  have HRN := Lib.hid hRN
  have HORD := Lib.hid hOk.ord
  have q := four B7 (Below.refl _ _)
  clear hx hmap hrow hfd hOk hb7 hb8 hRN
  go_wp2_with fail
  clear q
  refine (fit_ S 0 A7 S.cols.length c7 pn _ hC7 hn7 hS.kinds hpn.1 hpn.2).mono ?_
  rintro e w9 ⟨Ar, cr, rfl, hownr, hb9⟩
  have hrv := rowN_of (fit_fits hS.kinds pn) (num_fit S.cols pn) hcl hS.key hn7
  have hfl := fitL_len S.cols pn
  have RVc := hrv.colAt
  have hcv := hrv.ok.v.chk
  generalize fitL S.cols pn = rv at *
  have hVv : Vs w9 0 Ar S.cols.length cr rv := (Vs.of_own hownr).base (Nat.zero_le _)
  obtain ⟨bv, ov, rfl, _, _, _⟩ := hVv.1.some_ (by omega)
  obtain ⟨v, hv⟩ : ∃ v, (enR col S.key rv).v = v := ⟨_, rfl⟩
  rw [hv] at RVc hcv
  have q3 := hVv.at_ RVc
  have hci : (col : Int) < (S.cols.length : Int) := by omega
  clear hrv hv hownr
  go_wp2_with fail
  clear q3
  obtain ⟨W10, hW_, hb10, BV⟩ : ∃ W_, W_ = (w9.alloc (.cells #[.int .i64 v.k, .int .i64 v.n, .string v.s] 41)) ∧ Below w9.heap.size w9 W_ ∧ Blk W_ (w9.heap.size) 41 #[.int .i64 v.k, .int .i64 v.n, .string v.s] :=
    ⟨_, rfl, ((Below.refl _ _).alloc (Nat.le_refl _) _), (blk_new_at w9 (w9.heap.size) _ _ (by simp))⟩
  rw [← hW_]
  clear hW_
  have hb8x := Below.trans hb9 (Below.mono hb10 hb9.size)
  refine (from_ ws v (mo : Int) g (g + 1) col S.key Ax cx _ (HX.out.ext hb8x) (by omega)).mono ?_
  rintro e w11 ⟨Af, cf, rfl, hownf, hb11⟩
  have hb811 := Below.trans hb8x (Below.mono hb11 hb8x.size)
  have BV := BV.ext hb11
  have BT := BT.ext hb811
  have B7 := B7.ext hb811
  have hR := hR.ext hb811
  have hVf := Lib.hid ((Vs.of_own hownf).base (Nat.zero_le _))
  have hbw11 := Below.trans hbw8 (Below.mono hb811 hbw8.size)
  have HX := Lib.hid (HX.out.ext hb811)
  clear hownf hb9 hb10 hb11 hb8x hb811 hVv
  go_wp2_with fail
  go_loopw [16, 17] (fun a i wr => ∃ k : Nat, a = .int .i64 ((geL col S.key (rows.take k) v).length : Int) ∧ i = .int .i64 k ∧ k ≤ nt ∧ Below w11.heap.size w11 wr) (fun _ i _ => nt - (intOf i).toNat)
  case atStart => exact ⟨0, by rw [List.take_zero]; rfl, rfl, Nat.zero_le _, Below.refl _ _⟩
  case round =>
    obtain ⟨k, rfl, rfl, hk, hbr⟩ := hrel
    have BTr := BT.ext hbr
    have BVr := BV.ext hbr
    have q := five BTr (Below.refl _ _)
    rcases Nat.lt_or_ge k nt with hlt | hge
    case inr =>
      have hd : decide ((k : Int) < (nt : Int)) = false := by simp; omega
      obtain rfl : k = nt := by omega
      rw [List.take_of_length_le (by rw [HRN.out]; exact Nat.le_refl _)]
      have hcnt : (geN (ws.map (·.e)) v).length = (geL col S.key rows v).length := by rw [HMX.out]; exact geN_len_all HORD.out v
      obtain ⟨cnt, hcn⟩ : ∃ cnt, (geL col S.key rows v).length = cnt := ⟨_, rfl⟩
      rw [hcn] at hcnt ⊢
      have hLl : (fromN (ws.map (·.e)) v (mo : Int)).length = min mo cnt := by
        unfold fromN
        rw [List.length_take, hcnt]; rfl
      obtain ⟨LN, hLe⟩ : ∃ n, (fromN (ws.map (·.e)) v (mo : Int)).length = n := ⟨_, rfl⟩
      have hmin : min (cnt : Int) (mo : Int) = (LN : Int) := by rw [← hLe, hLl]; omega
      have hml : LN ≤ 12 := by rw [← hLe, hLl]; omega
      have HCN := Lib.hid hcnt
      have qv := BVr.three (Below.refl _ _)
      have hVf := hVf.out
      have HLE := Lib.hid hLe
      rw [hLe] at hVf ⊢
      clear hcn hcnt hLe hLl
      have HVf := Lib.hid hVf
      clear hVf
      go_wp2_with fail
      clear hmin
      refine (from_ ws v (-1) g (g + 1) col S.key Ax cx _ (HX.out.ext hbr) (by omega)).mono ?_
      rintro e w13 ⟨A9, c9, rfl, _, hb13⟩
      have hn0 : (fromN (ws.map (·.e)) v (-1)).length = 0 := rfl
      rw [hn0]
      have hbr13 := Below.trans hbr (Below.mono hb13 hbr.size)
      have BV13 := BVr.ext hb13
      clear qv hn0 q
      have qv := BV13.three (Below.refl _ _)
      go_wp2_with fail
      obtain ⟨W14, hW_, hbW14, BL⟩ : ∃ W_, W_ = (w13.alloc (.cells #[.int .i64 v.k, .int .i64 v.n, .string v.s] 41)) ∧ Below w13.heap.size w13 W_ ∧ Blk W_ (w13.heap.size) 41 #[.int .i64 v.k, .int .i64 v.n, .string v.s] :=
        ⟨_, rfl, ((Below.refl _ _).alloc (Nat.le_refl _) _), (blk_new_at w13 (w13.heap.size) _ _ (by simp))⟩
      rw [← hW_]
      clear hW_
      have hb14 := Below.trans hbr13 (Below.mono hbW14 hbr13.size)
      obtain ⟨gl, hgl, hgl1⟩ : ∃ g, w13.heap.size = g ∧ w11.heap.size ≤ g := ⟨_, rfl, hbr13.size⟩
      rw [hgl] at BL ⊢
      clear hgl hbW14 hbr13 BV13 qv hb13
      have hL0 := Lib.hid (lastP_0 (es := ws.map (·.e)) hcv)
      go_wp2_with fail
      go_loopw [19] (fun i wx => ∃ (j : Nat) (u : V), i = .int .i64 j ∧ j ≤ LN ∧ LastP (ws.map (·.e)) v u j ∧ Blk wx gl 41 #[.int .i64 u.k, .int .i64 u.n, .string u.s] ∧ Below w11.heap.size w11 wx) (fun i _ => LN - (intOf i).toNat)
      case atStart => exact ⟨0, v, rfl, Nat.zero_le _, hL0.out, BL, hb14⟩
      case round =>
        obtain ⟨j, u, rfl, hj, hLP, BLr, hbx⟩ := hrel
        have HLP := Lib.hid hLP
        clear hLP BL hb14
        have BTx := BT.ext hbx
        have B7x := B7.ext hbx
        rcases Nat.lt_or_ge j LN with hlt | hge
        case inr =>
          have hd : decide ((j : Int) < (LN : Int)) = false := by simp; omega
          go_wp2
          go_ret
          exact ⟨rfl, Below.trans hbw11 (Below.mono hbx hbw11.size)⟩
        have hd : decide ((j : Int) < (LN : Int)) = true := by simp; omega
        have hjn : (j : Int) < (LN : Int) := by omega
        obtain ⟨kv, hkv⟩ : ∃ kv, (fromN (ws.map (·.e)) v (mo : Int))[j]? = some kv := ⟨_, List.getElem?_eq_getElem (by rw [HLE.out]; exact hlt)⟩
        obtain ⟨x, hx, hxk⟩ := from_ent hkv
        obtain ⟨bf, of, rfl, _, _, _⟩ := HVf.out.1.some_ (by omega)
        have HKV := Lib.hid hkv
        have HXE := Lib.hid hx
        clear hx
        clear hkv
        go_wp2_with fail
        have D7 := fun w' (h : Below wr.heap.size wr.drew w') => four B7x (Below.trans (Below.refl _ _).drew h)
        have DT := fun w' (h : Below wr.heap.size wr.drew w') => five BTx (Below.trans (Below.refl _ _).drew h)
        have DV := fun w' (h : Below wr.heap.size wr.drew w') => ((HVf.out.ext hbx).ext (Below.trans (Below.refl _ _).drew h)).at_ HKV.out
        refine wp_region_one [(0, true), (1, true), (2, true), (3, true), (4, true), (5, true), (6, true), (7, true), (8, false), (9, true)] (by kernel_rfl) (by kernel_rfl) (by kernel_rfl) (by decide) ?_
        repeat ((with_reducible show wpPerm _ _ _ _ ((_, true) :: _) _ _); (first | (refine wpPerm_on (v := ?_) rfl rfl (wanted_free rfl) (fun w' hS => ?_) ?_; rotate_left; (focus (go_simp; (try with_reducible rfl); done)); try simp only [List.setIfInBounds_toArray, List.set_cons_zero, List.set_cons_succ]) | (refine wpPerm_on (v := ?_) rfl rfl (wanted_yes rfl rfl rfl) (fun w' hS => ?_) ?_; rotate_left; (focus (go_simp; (try with_reducible rfl); done)); try simp only [List.setIfInBounds_toArray, List.set_cons_zero, List.set_cons_succ]) | (refine wpPerm_off rfl rfl (wanted_no rfl rfl rfl) ?_; try simp only [List.setIfInBounds_toArray, List.set_cons_zero, List.set_cons_succ]) | (refine wpPerm_off rfl rfl (wanted_undef rfl rfl rfl) ?_; try simp only [List.setIfInBounds_toArray, List.set_cons_zero, List.set_cons_succ])))
        refine wpPerm_do rfl (wanted_free rfl) (fun K hK => ?_); go_simp
        refine (at_ rows S.key kv _ At k ct _ ((hR.ext hbx).ext (Below.refl _ _).drew) (by omega) HRK.out).mono ?_
        rintro e w15 ⟨z, rfl, hz, hb15⟩
        obtain ⟨m, r, rfl, hm, hrv⟩ := at_from HORD.out (by rw [← HMX.out]; exact HXE.out) (by rw [hxk]; exact hz)
        refine hK.out _ _ hb15 ?_
        clear hK K hz
        repeat ((with_reducible show wpPerm _ _ _ _ ((_, true) :: _) _ _); (first | (refine wpPerm_on (v := ?_) rfl rfl (wanted_free rfl) (fun w' hS => ?_) ?_; rotate_left; (focus (go_simp; (try with_reducible rfl); done)); try simp only [List.setIfInBounds_toArray, List.set_cons_zero, List.set_cons_succ]) | (refine wpPerm_on (v := ?_) rfl rfl (wanted_yes rfl rfl rfl) (fun w' hS => ?_) ?_; rotate_left; (focus (go_simp; (try with_reducible rfl); done)); try simp only [List.setIfInBounds_toArray, List.set_cons_zero, List.set_cons_succ]) | (refine wpPerm_off rfl rfl (wanted_no rfl rfl rfl) ?_; try simp only [List.setIfInBounds_toArray, List.set_cons_zero, List.set_cons_succ]) | (refine wpPerm_off rfl rfl (wanted_undef rfl rfl rfl) ?_; try simp only [List.setIfInBounds_toArray, List.set_cons_zero, List.set_cons_succ])))
        refine wpPerm_done ?_
        clear D7 DT DV HKV
        have hbx := Below.trans hbx (Below.mono (Below.trans ((Below.refl wr.heap.size wr).drew) hb15) hbx.size)
        have BLx := BLr.ext (Below.trans ((Below.refl wr.heap.size wr).drew) hb15)
        have BTx := BT.ext hbx
        clear BLr B7x hb15
        have hm0 : decide ((m : Int) < 0) = false := by simp
        have hmn : (m : Int) < (k : Int) := by
          have := (List.getElem?_eq_some_iff.1 hm).1
          rw [HRN.out] at this
          omega
        obtain ⟨b, o, rfl, _, _, hbo⟩ := hR.some_ (by omega)
        obtain ⟨A5, c5, q1, v1⟩ := hR.at_ hm
        have hrn := HRW.out r (List.mem_of_getElem? hm)
        have RXc := hrn.colAt
        have hxc : (col : Int) < (r.length : Int) := by have := hrn.colLt; omega
        obtain ⟨b5, o5, rfl, _, _, hb5l⟩ := v1.1.some_ (by have := hrn.colLt; omega)
        have hcx := hrn.ok.v.chk
        have hcu := HLP.out.1
        rw [hrv] at RXc hcx
        have hge0 : 0 ≤ cmpV x.v u := HLP.out.2 x HXE.out
        have hc0 : ¬ cmpV x.v u < 0 := by omega
        have hc1 : decide (cmpV x.v u < 0) = false := by simp; omega
        have HGE := Lib.hid hge0
        clear hrn hm hge0
        go_wp2_with fail
        have DT := fun w' (h : Below w15.heap.size w15.drew w') => five BTx (Below.trans (Below.refl _ _).drew h)
        have Dk := fun w' (h : Below w15.heap.size w15.drew w') => ((Below.trans hbx (Below.mono (Below.trans (Below.refl _ w15).drew h) hbx.size)).cell (p := ⟨b, o + m, none⟩) hbo).trans q1
        have Dx := fun w' (h : Below w15.heap.size w15.drew w') => (v1.ext (Below.trans hbx (Below.mono (Below.trans (Below.refl _ w15).drew h) hbx.size))).at_ RXc
        have Dv := fun w' (h : Below w15.heap.size w15.drew w') => BLx.three (Below.trans (Below.refl _ w15).drew h)
        refine wp_region_one [(0, true), (1, true), (2, true), (3, true), (4, true), (5, true), (6, true), (7, true), (8, true), (9, true), (10, true), (11, true), (12, false), (13, true), (14, true)] (by kernel_rfl) (by kernel_rfl) (by kernel_rfl) (by decide) ?_
        repeat ((with_reducible show wpPerm _ _ _ _ ((_, true) :: _) _ _); (first | (refine wpPerm_on (v := ?_) rfl rfl (wanted_free rfl) (fun w' hS => ?_) ?_; rotate_left; (focus (go_simp; (try with_reducible rfl); done)); try simp only [List.setIfInBounds_toArray, List.set_cons_zero, List.set_cons_succ]) | (refine wpPerm_on (v := ?_) rfl rfl (wanted_yes rfl rfl rfl) (fun w' hS => ?_) ?_; rotate_left; (focus (go_simp; (try with_reducible rfl); done)); try simp only [List.setIfInBounds_toArray, List.set_cons_zero, List.set_cons_succ]) | (refine wpPerm_off rfl rfl (wanted_no rfl rfl rfl) ?_; try simp only [List.setIfInBounds_toArray, List.set_cons_zero, List.set_cons_succ]) | (refine wpPerm_off rfl rfl (wanted_undef rfl rfl rfl) ?_; try simp only [List.setIfInBounds_toArray, List.set_cons_zero, List.set_cons_succ])))
        refine wpPerm_do rfl (wanted_yes rfl rfl rfl) (fun K hK => ?_); go_simp
        refine (rcmp_ x.v u _ (by have := (chk_form hcx).2.2.2.2.2; unfold maxLen; omega) (by have := (chk_form hcu).2.2.2.2.2; unfold maxLen; omega)).mono ?_
        rintro e w16 ⟨rfl, hb16⟩
        rw [rcmp_eq hcx hcu]
        refine hK.out _ _ hb16 ?_
        clear hK K
        repeat ((with_reducible show wpPerm _ _ _ _ ((_, true) :: _) _ _); (first | (refine wpPerm_on (v := ?_) rfl rfl (wanted_free rfl) (fun w' hS => ?_) ?_; rotate_left; (focus (go_simp; (try with_reducible rfl); done)); try simp only [List.setIfInBounds_toArray, List.set_cons_zero, List.set_cons_succ]) | (refine wpPerm_on (v := ?_) rfl rfl (wanted_yes rfl rfl rfl) (fun w' hS => ?_) ?_; rotate_left; (focus (go_simp; (try with_reducible rfl); done)); try simp only [List.setIfInBounds_toArray, List.set_cons_zero, List.set_cons_succ]) | (refine wpPerm_off rfl rfl (wanted_no rfl rfl rfl) ?_; try simp only [List.setIfInBounds_toArray, List.set_cons_zero, List.set_cons_succ]) | (refine wpPerm_off rfl rfl (wanted_undef rfl rfl rfl) ?_; try simp only [List.setIfInBounds_toArray, List.set_cons_zero, List.set_cons_succ])))
        refine wpPerm_done ?_
        clear DT Dk Dx Dv
        have hb16 := Below.trans ((Below.refl w15.heap.size w15).drew) hb16
        have hbx := Below.trans hbx (Below.mono hb16 hbx.size)
        have BLx := BLx.ext hb16
        have BTx := BT.ext hbx
        have q := five BTx (Below.refl _ _)
        have qk := (hbx.cell (p := ⟨b, o + m, none⟩) hbo).trans q1
        have qx := (v1.ext hbx).at_ RXc
        have ql := BLx.three (Below.refl _ _)
        have qf := BLx.free3
        go_wp2_with fail
        obtain ⟨wE, hwE, BE, hlow, _, _⟩ := BLx.set3 (.int .i64 x.v.k) (.int .i64 x.v.n) (.string x.v.s)
        rw [← hwE]
        have hbE := Below.trans hbx (hlow _ hgl1)
        clear hwE q qk qx ql qf
        go_wp2
        go_roundw
        case rel => exact ⟨j + 1, x.v, by go_num, by omega, lastP_step HX.out.srt HXE.out hcx, BE, hbE⟩
        case measure => simp [intOf]; omega
    have hd : decide ((k : Int) < (nt : Int)) = true := by simp; omega
    have hkn : (k : Int) < (nt : Int) := by omega
    obtain ⟨x, hx⟩ : ∃ x, rows[k]? = some x := ⟨_, List.getElem?_eq_getElem (by rw [HRN.out]; exact hlt)⟩
    obtain ⟨b, o, rfl, _, _, hbo⟩ := hR.some_ (by omega)
    obtain ⟨A5, c5, q1, v1⟩ := hR.at_ hx
    have hrn := HRW.out x (List.mem_of_getElem? hx)
    have RXc := hrn.colAt
    have hxc : (col : Int) < (x.length : Int) := by have := hrn.colLt; omega
    obtain ⟨b5, o5, rfl, _, _, hb5l⟩ := v1.1.some_ (by have := hrn.colLt; omega)
    have hcx := hrn.ok.v.chk
    have HS := Lib.hid (geL_snoc (col := col) (key := S.key) (v := v) hx)
    have hgl : (geL col S.key (rows.take k) v).length ≤ 50 := by
      unfold geL
      exact Nat.le_trans (List.length_filter_le _ _) (by rw [List.length_take]; omega)
    clear hrn hx
    go_wp2_with fail
    clear q
    have D := fun w' (h : Below wr.heap.size wr.drew w') => five BTr (Below.trans (Below.refl _ _).drew h)
    have Dk := fun w' (h : Below wr.heap.size wr.drew w') => ((Below.trans hbr (Below.mono (Below.trans (Below.refl _ wr).drew h) hbr.size)).cell (p := ⟨b, o + k, none⟩) hbo).trans q1
    have Dx := fun w' (h : Below wr.heap.size wr.drew w') => (v1.ext (Below.trans hbr (Below.mono (Below.trans (Below.refl _ wr).drew h) hbr.size))).at_ RXc
    have Dv := fun w' (h : Below wr.heap.size wr.drew w') => BVr.three (Below.trans (Below.refl _ wr).drew h)
    refine wp_region_one [(0, true), (1, true), (2, true), (3, true), (4, true), (5, true), (6, true), (7, true), (8, true), (9, false), (10, true)] (by kernel_rfl) (by kernel_rfl) (by kernel_rfl) (by decide) ?_
    repeat ((with_reducible show wpPerm _ _ _ _ ((_, true) :: _) _ _); (first | (refine wpPerm_on (v := ?_) rfl rfl (wanted_free rfl) (fun w' hS => ?_) ?_; rotate_left; (focus (go_simp; (try with_reducible rfl); done)); try simp only [List.setIfInBounds_toArray, List.set_cons_zero, List.set_cons_succ]) | (refine wpPerm_on (v := ?_) rfl rfl (wanted_yes rfl rfl rfl) (fun w' hS => ?_) ?_; rotate_left; (focus (go_simp; (try with_reducible rfl); done)); try simp only [List.setIfInBounds_toArray, List.set_cons_zero, List.set_cons_succ]) | (refine wpPerm_off rfl rfl (wanted_no rfl rfl rfl) ?_; try simp only [List.setIfInBounds_toArray, List.set_cons_zero, List.set_cons_succ]) | (refine wpPerm_off rfl rfl (wanted_undef rfl rfl rfl) ?_; try simp only [List.setIfInBounds_toArray, List.set_cons_zero, List.set_cons_succ])))
    refine wpPerm_do rfl (wanted_free rfl) (fun K hK => ?_); go_simp
    refine (rcmp_ (enR col S.key x).v v _ (by have := (chk_form hcx).2.2.2.2.2; unfold maxLen; omega) (by have := (chk_form hcv).2.2.2.2.2; unfold maxLen; omega)).mono ?_
    rintro e w12 ⟨rfl, hb12⟩
    rw [rcmp_eq hcx hcv]
    refine hK.out _ _ hb12 ?_
    clear hK K
    repeat ((with_reducible show wpPerm _ _ _ _ ((_, true) :: _) _ _); (first | (refine wpPerm_on (v := ?_) rfl rfl (wanted_free rfl) (fun w' hS => ?_) ?_; rotate_left; (focus (go_simp; (try with_reducible rfl); done)); try simp only [List.setIfInBounds_toArray, List.set_cons_zero, List.set_cons_succ]) | (refine wpPerm_on (v := ?_) rfl rfl (wanted_yes rfl rfl rfl) (fun w' hS => ?_) ?_; rotate_left; (focus (go_simp; (try with_reducible rfl); done)); try simp only [List.setIfInBounds_toArray, List.set_cons_zero, List.set_cons_succ]) | (refine wpPerm_off rfl rfl (wanted_no rfl rfl rfl) ?_; try simp only [List.setIfInBounds_toArray, List.set_cons_zero, List.set_cons_succ]) | (refine wpPerm_off rfl rfl (wanted_undef rfl rfl rfl) ?_; try simp only [List.setIfInBounds_toArray, List.set_cons_zero, List.set_cons_succ])))
    refine wpPerm_done ?_
    clear D Dk Dx Dv
    have hb12 := Below.trans hbr (Below.mono (Below.trans ((Below.refl wr.heap.size wr).drew) hb12) hbr.size)
    by_cases hc : 0 ≤ cmpV (enR col S.key x).v v
    case neg =>
      have hqc : decide (0 ≤ cmpV (enR col S.key x).v v) = false := by simpa using hc
      have HN := Lib.hid hc
      have hl0 : cmpV (enR col S.key x).v v < 0 := by omega
      clear hc
      go_wp2
      go_roundw
      case rel => exact ⟨k + 1, by rw [HS.out, if_neg HN.out, Nat.add_zero], by go_num, by omega, hb12⟩
      case measure => simp [intOf]; omega
    have hqc : decide (0 ≤ cmpV (enR col S.key x).v v) = true := by simpa using hc
    have HP := Lib.hid hc
    have hl0 : ¬ cmpV (enR col S.key x).v v < 0 := by omega
    clear hc
    go_wp2
    go_roundw
    case rel => exact ⟨k + 1, by rw [HS.out, if_pos HP.out]; go_num, by go_num, by omega, hb12⟩
    case measure => simp [intOf]; omega
end Go.Proofs.Ytnlmbjmgmofeiaa.ix
