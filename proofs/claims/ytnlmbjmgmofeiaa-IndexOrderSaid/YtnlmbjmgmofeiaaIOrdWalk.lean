/- IndexOrder: the walk. Printed by genlaw11.py. -/
import Derived.Test.YtnlmbjmgmofeiaaI17
import Derived.Test.YtnlmbjmgmofeiaaTArg
namespace Go.Proofs.Ytnlmbjmgmofeiaa.ix
open Go.ChangeShapes Go.WideShapes Go.ChangeAt Go.RowKit Go.Proofs.Ytnlmbjmgmofeiaa.lib Go.Proofs.Ytnlmbjmgmofeiaa.val Go.Proofs.Ytnlmbjmgmofeiaa.tb
set_option linter.unusedVariables false

set_option maxRecDepth 1000000 in
set_option maxHeartbeats 8000000 in
theorem order_walk (s : ByteArray) (A : Option Addr) (n c : Nat) (l : List Col) (key : Int) (only : Bool) (Ai : Option Addr) (ni ci : Nat) (zs : List Int) (pc by_ : Int) (w : World) (hs : s.size ≤ maxLen) (hC : Cs w 0 A n c l) (hn : n ≤ maxLen) (hp : ∀ x ∈ l, RawC x) (hkey : ok64 key) (hI : Row w 0 Ai ni ci (flatK encI zs)) (hni : zs.length = ni) (hi2 : ni ≤ maxLen) (hz : ∀ x ∈ zs, ok64 x) (hpc : ok64 pc) (hby : ok64 by_) :
    Calls Try.prog 7 #[.agg #[.string s, .slice A n c, .int .i64 key, .bool only], .slice Ai ni ci, .int .i64 pc, .int .i64 by_] w fun e W' => e = .returned (.bool true) ∧ Below w.heap.size w W' := by
  go_enter Try.func7, Try.ntmps7
  go_upto_region 1 with fail
  obtain ⟨W0, hW_, hbW0, BS⟩ : ∃ W_, W_ = (w.alloc (.cells #[.string s, .slice A n c, .int .i64 key, .bool only] 24)) ∧ Below w.heap.size w W_ ∧ Blk W_ (w.heap.size) 24 #[.string s, .slice A n c, .int .i64 key, .bool only] :=
    ⟨_, rfl, ((Below.refl _ _).alloc (Nat.le_refl _) _), (blk_new_at w (w.heap.size) _ _ (by simp))⟩
  rw [← hW_]
  clear hW_
  go_wp2_with fail
  refine (known11_ _).mono ?_
  rintro e w1 ⟨rfl, hb1⟩
  have hbw1 := Below.trans hbW0 (Below.mono hb1 hbW0.size)
  have BS := BS.ext hb1
  clear hbW0 hb1
  have q := four BS (Below.refl _ _)
  go_wp2_with fail
  refine (few9_ s A n c l key only _ hs (hC.ext hbw1) hn (fun x hx => (hp x hx).s)).mono ?_
  rintro e w2 ⟨⟨b, rfl⟩, hb2⟩
  have hbw2 := Below.trans hbw1 (Below.mono hb2 hbw1.size)
  have BS := BS.ext hb2
  clear hbw1 hb2 q
  by_cases hbt : b = true
  case neg =>
    obtain rfl : b = false := by cases b with | false => rfl | true => exact absurd rfl hbt
    go_wp2
    go_ret
    exact ⟨rfl, hbw2⟩
  subst hbt
  have q := four BS (Below.refl _ _)
  go_wp2_with fail
  refine (good9_ s A n c l key only _ (hC.ext hbw2) hn hp hkey).mono ?_
  rintro e w3 ⟨A7, c7, rfl, hC7, hF7, hb3⟩
  have hbw3 := Below.trans hbw2 (Below.mono hb3 hbw2.size)
  have hS : SOk (goodS l key only) := good_ok l key only
  generalize goodS l key only = S at *
  have hC7 := hC7.base (Nat.zero_le _)
  clear hbw2 hb3 q BS hs hC hn hp hkey
  have h6 := hS.six
  have hpos := hS.pos
  have hn7 : S.cols.length ≤ 100 := by omega
  simp only [schA]
  go_wp2_with fail
  obtain ⟨W4, hW_, hbW4, B7⟩ : ∃ W_, W_ = (w3.alloc (.cells #[.string S.name, .slice A7 S.cols.length c7, .int .i64 S.key, .bool S.only] 24)) ∧ Below w3.heap.size w3 W_ ∧ Blk W_ (w3.heap.size) 24 #[.string S.name, .slice A7 S.cols.length c7, .int .i64 S.key, .bool S.only] :=
    ⟨_, rfl, ((Below.refl _ _).alloc (Nat.le_refl _) _), (blk_new_at w3 (w3.heap.size) _ _ (by simp))⟩
  rw [← hW_]
  clear hW_
  obtain ⟨g7, hg7⟩ : ∃ g, w3.heap.size = g := ⟨_, rfl⟩
  have hbw4 := Below.trans hbw3 (Below.mono hbW4 hbw3.size)
  have hC7 := hC7.ext hbW4
  rw [hg7] at B7 ⊢
  clear hg7 hbW4 hbw3 hF7
  obtain ⟨col, hcol, hcl⟩ : ∃ col : Nat, pc % (S.cols.length : Int) = (col : Int) ∧ col < S.cols.length := by
    have h1 := Int.emod_nonneg pc (by omega : (S.cols.length : Int) ≠ 0)
    have h2 := Int.emod_lt_of_pos pc (by omega : (0 : Int) < (S.cols.length : Int))
    exact ⟨(pc % (S.cols.length : Int)).toNat, by omega, by omega⟩
  refine (within11 pc (S.cols.length : Int) (col : Int) hcol _ (by omega) (by omega) hpc.1 hpc.2).mono ?_
  rintro e w5 ⟨rfl, rfl⟩
  clear hcol
  have q := four B7 (Below.refl _ _)
  go_wp2_with fail
  refine (fill_ S A7 c7 Ai ni ci zs _ hS hC7 (hI.ext hbw4) hni hi2 hz).mono ?_
  rintro e w6 ⟨rows, At, nt, ct, rfl, hR, hFt, hOk, hlen, hfd, hb6⟩
  have hlow6 := hbw4.size
  have hR := hR.base hlow6
  have hbw6 := Below.trans hbw4 (Below.mono hb6 hbw4.size)
  have B7 := B7.ext hb6
  have hC7 := hC7.ext hb6
  have hRN := hR.len
  have hnt : nt ≤ 50 := by omega
  have hrow : ∀ c, c < S.cols.length → ∀ r ∈ rows, RowN c S.key r := fun c hc r hr => rowN_of (hOk.fit r hr) (hfd r hr).num hc hS.key hn7
  clear hb6 q hbw4 hlow6
  simp only [tabA]
  go_wp2_with fail
  obtain ⟨W6, hW_, hbx6, BT⟩ : ∃ W_, W_ = (w6.alloc (.cells #[.string S.name, .slice A7 S.cols.length c7, .int .i64 S.key, .bool S.only, .slice At nt ct] 32)) ∧ Below w6.heap.size w6 W_ ∧ Blk W_ (w6.heap.size) 32 #[.string S.name, .slice A7 S.cols.length c7, .int .i64 S.key, .bool S.only, .slice At nt ct] :=
    ⟨_, rfl, ((Below.refl _ _).alloc (Nat.le_refl _) _), (blk_new_at w6 (w6.heap.size) _ _ (by simp))⟩
  rw [← hW_]
  clear hW_
  obtain ⟨gt, hgt⟩ : ∃ g, w6.heap.size = g := ⟨_, rfl⟩
  rw [hgt] at BT ⊢
  have hbw60 := hbw6
  have hbw6 := Below.trans hbw60 (Below.mono hbx6 hbw60.size)
  have B7 := B7.ext hbx6
  have hR := hR.ext hbx6
  have hC7 := hC7.ext hbx6
  clear hgt hbx6 hbw60
  have q := five BT (Below.refl _ _)
  go_wp2_with fail
  clear q
  refine (of_ S A7 S.cols.length c7 At nt ct _).mono ?_
  rintro e w7 ⟨rfl, hb7⟩
  have hbw7 := Below.trans hbw6 (Below.mono hb7 hbw6.size)
  have BT := BT.ext hb7
  have B7 := B7.ext hb7
  have hR := hR.ext hb7
  have hC7 := hC7.ext hb7
  simp only [tabA]
  go_wp2_with fail
  refine (build_ S rows col S.key _ A7 S.cols.length c7 At nt ct _ rfl hR (by omega) (hrow col hcl)).mono ?_
  rintro e w8 ⟨g, ws, Ax, cx, rfl, hx, hmap, hlo, hb8⟩
  have hbw8 := Below.trans hbw7 (Below.mono hb8 hbw7.size)
  have BT := BT.ext hb8
  have B7 := B7.ext hb8
  have hR := hR.ext hb8
  have hC7 := hC7.ext hb8
  have hwl : ws.length ≤ 50 := by
    have h4 := buildN_len col S.key rows rows.length
    rw [List.take_of_length_le (Nat.le_refl _), ← hmap, List.length_map] at h4
    omega
  have hwn : ws.length = nt := by
    have h4 := len_all (col := col) hOk.ord
    rw [← hmap, List.length_map] at h4
    omega
  have HWN := Lib.hid hwn
  have HMX := Lib.hid hmap
  have HX := Lib.hid hx
  have HRW := Lib.hid (hrow col hcl)
  have HRN := Lib.hid hRN
  have HORD := Lib.hid hOk.ord
  have q := four B7 (Below.refl _ _)
  clear hx hmap hrow hfd hOk hb7 hb8 hwn hRN
  go_wp2_with fail
  clear q
  refine (of_ S A7 S.cols.length c7 none 0 0 _).mono ?_
  rintro e w9 ⟨rfl, hb9⟩
  simp only [tabA]
  go_wp2_with fail
  refine (build_ S [] col S.key 0 A7 S.cols.length c7 none 0 0 _ rfl (Rs.nil _ _) (by decide) (by simp)).mono ?_
  rintro e w10 ⟨gy, wsy, Ay, cy, rfl, hxy, hmapy, hloy, hb10⟩
  have hb810 := Below.trans hb9 (Below.mono hb10 hb9.size)
  have hgy8 : w8.heap.size ≤ gy := Nat.le_trans hb9.size hloy
  have HXY := Lib.hid hxy
  have HMY := Lib.hid hmapy
  have q := five BT hb810
  clear hxy hmapy hb9 hb10 hloy
  go_wp2_with fail
  clear q
  go_loopw [14] (fun i wr => ∃ (k : Nat) (ws1 : List Ew) (A1 : Option Addr) (c1 : Nat), i = .int .i64 k ∧ k ≤ nt ∧ IxA wr gy (gy + 1) col S.key ws1 A1 c1 ∧ ws1.map (·.e) = buildN col S.key (rows.reverse.take k) ∧ Below w8.heap.size w8 wr) (fun i _ => nt - (intOf i).toNat)
  case atStart => exact ⟨0, wsy, Ay, cy, rfl, Nat.zero_le _, HXY.out, by rw [List.take_zero]; exact HMY.out, hb810⟩
  case round =>
    clear hb810 HXY HMY
    obtain ⟨k, ws1, A1, c1, rfl, hk, hx1, hm1, hb1⟩ := hrel
    have HM1 := Lib.hid hm1
    clear hm1
    have BTr := BT.ext hb1
    rcases Nat.lt_or_ge k nt with hlt | hge
    case inr =>
      have hd : decide ((k : Int) < (nt : Int)) = false := by simp; omega
      obtain rfl : k = nt := by omega
      have hmy : ws1.map (·.e) = ws.map (·.e) := by
        rw [HM1.out, HMX.out, List.take_of_length_le (by rw [List.length_reverse, HRN.out]; exact Nat.le_refl _)]
        exact build_same (fun r => List.mem_reverse)
      have hl1 : ws1.length = k := by
        have h4 := congrArg List.length hmy
        rw [List.length_map, List.length_map, HWN.out] at h4
        exact h4
      have HL1 := Lib.hid hl1
      have hX1 := HX.out.ext hb1
      have hlx := len_ ws g (g + 1) col S.key Ax cx wr hX1
      rw [HWN.out] at hlx
      have hly := fun w' (h : IxA w' gy (gy + 1) col S.key ws1 A1 c1) => len_ ws1 gy (gy + 1) col S.key A1 c1 w' h
      rw [hl1] at hly
      have HM1 := Lib.hid hmy
      have HX1 := Lib.hid hx1
      clear hl1 hmy hx1
      go_wp2_with fail
      refine hlx.mono ?_
      rintro e w11 ⟨rfl, rfl⟩
      go_wp2_with fail
      refine (hly _ HX1.out).mono ?_
      rintro e w12 ⟨rfl, rfl⟩
      clear hlx hly
      go_wp2_with fail
      refine (from_ ws ⟨0, 0, ⟨#[]⟩⟩ (k : Int) g (g + 1) col S.key Ax cx _ hX1 (by omega)).mono ?_
      rintro e w13 ⟨A3, c3, rfl, hown3, hb3⟩
      go_wp2_with fail
      refine (from_ ws1 ⟨0, 0, ⟨#[]⟩⟩ (k : Int) gy (gy + 1) col S.key A1 c1 _ (HX1.out.ext hb3) (by have := HL1.out; omega)).mono ?_
      rintro e w14 ⟨A4, c4, rfl, hown4, hb4⟩
      rw [HM1.out] at hown4 ⊢
      obtain ⟨L, hL⟩ : ∃ L, fromN (ws.map (·.e)) ⟨0, 0, ⟨#[]⟩⟩ (k : Int) = L := ⟨_, rfl⟩
      have hLn : L.length ≤ 100000 := by
        rw [← hL]
        unfold fromN
        rw [List.length_take]
        have := geN_len (ws.map (·.e)) ⟨0, 0, ⟨#[]⟩⟩
        rw [List.length_map] at this
        omega
      rw [hL] at hown3 hown4 ⊢
      have HO3 := Lib.hid (own_ext hown3 hb4)
      have HO4 := Lib.hid hown4
      clear hL hown3 hown4
      go_wp2_with fail
      refine (rrowSame_ L 0 0 A3 A4 L.length c3 L.length c4 _ hLn ((Vs.of_own HO3.out).base (Nat.zero_le _)) ((Vs.of_own HO4.out).base (Nat.zero_le _))).mono ?_
      rintro e w15 ⟨rfl, hb5⟩
      have hx5 := ((HX1.out.ext hb3).ext hb4).ext hb5
      have hb15 := Below.trans hb1 (Below.mono (Below.trans hb3 (Below.mono (Below.trans hb4 (Below.mono hb5 hb4.size)) hb3.size)) hb1.size)
      have HX5 := Lib.hid hx5
      have hm5 : ∀ x ∈ ws1.map (·.e), x ∈ buildN col S.key rows := by rw [HM1.out, HMX.out]; exact fun x hx => hx
      have HM5 := Lib.hid hm5
      have hl5 := HL1.out
      clear hb3 hb4 hb5 hX1 hx5 hm5
      obtain ⟨bn, HBY, HBE⟩ : ∃ bn : Nat, Hid (0 < k → bn < k) ∧ Hid (0 < k → by_ % (k : Int) = (bn : Int)) := by
        refine ⟨(by_ % (k : Int)).toNat, Lib.hid (fun h => ?_), Lib.hid (fun h => ?_)⟩
        · have h1 := Int.emod_nonneg by_ (by omega : (k : Int) ≠ 0)
          have h2 := Int.emod_lt_of_pos by_ (by omega : (0 : Int) < (k : Int))
          omega
        · have h1 := Int.emod_nonneg by_ (by omega : (k : Int) ≠ 0)
          omega
      go_wp2_with fail
      go_loopw [15] (fun i wr => ∃ (j : Nat) (ws2 : List Ew) (A2 : Option Addr) (c2 : Nat), i = .int .i64 j ∧ j ≤ k ∧ IxA wr gy (gy + 1) col S.key ws2 A2 c2 ∧ ws2.length ≤ 50 ∧ (∀ x ∈ ws2.map (·.e), x ∈ buildN col S.key rows ∧ ∀ i, i < j → x ≠ enR col S.key (rows.getD ((i + bn) % k) [])) ∧ Below w8.heap.size w8 wr) (fun i _ => k - (intOf i).toNat)
      case atStart => exact ⟨0, ws1, A1, c1, rfl, Nat.zero_le _, HX5.out, by omega, fun x hx => ⟨HM5.out x hx, fun i hi => by omega⟩, hb15⟩
      case round =>
        clear hb1 hb15 HX1 HX5
        obtain ⟨j, ws2, A2, c2, rfl, hj, hx2, hl2, hm2, hb2⟩ := hrel
        have HM2 := Lib.hid hm2
        clear hm2
        rcases Nat.lt_or_ge j k with hlt | hge
        case inr =>
          have hd : decide ((j : Int) < (k : Int)) = false := by simp; omega
          obtain rfl : j = k := by omega
          have hnil : ws2 = [] := by
            rcases Nat.eq_zero_or_pos j with h0 | hp0
            · subst h0
              cases ws2 with
              | nil => rfl
              | cons y t =>
                have h1 := (HM2.out y.e (by simp)).1
                have h2 := len_all (col := col) HORD.out
                rw [HRN.out] at h2
                rw [List.eq_nil_of_length_eq_zero h2] at h1
                cases h1
            · exact List.map_eq_nil_iff.1 (drops_nil HRN.out (HBY.out hp0) (by intro x hx; exact HM2.out x hx))
          subst hnil
          clear HM2
          have HX2 := Lib.hid hx2
          clear hx2
          go_wp2_with fail
          refine (len_ [] gy (gy + 1) col S.key A2 c2 _ HX2.out).mono ?_
          rintro e w20 ⟨rfl, rfl⟩
          go_wp2_with fail
          refine (from_ [] ⟨0, 0, ⟨#[]⟩⟩ 9 gy (gy + 1) col S.key A2 c2 _ HX2.out (by decide)).mono ?_
          rintro e w21 ⟨A9, c9, rfl, _, hb21⟩
          have hbF := Below.trans hbw8 (Below.mono (Below.trans hb2 (Below.mono hb21 hb2.size)) hbw8.size)
          clear hb21
          go_wp2
          go_ret
          exact ⟨rfl, hbF⟩
        have hd : decide ((j : Int) < (k : Int)) = true := by simp; omega
        have hjn : (j : Int) < (k : Int) := by omega
        have hbn := HBY.out (by omega)
        have hbe := HBE.out (by omega)
        obtain ⟨m, hm⟩ : ∃ m, (j + bn) % k = m := ⟨_, rfl⟩
        have hmn : m < k := by rw [← hm]; exact Nat.mod_lt _ (by omega)
        have hmi : (m : Int) < (k : Int) := by omega
        have hme : ((j : Int) + (bn : Int)).tmod (k : Int) = (m : Int) := by rw [← hm]; exact (Int.ofNat_tmod (j + bn) k).symm
        have HMM := Lib.hid hm
        have HME := Lib.hid hme
        have hn0 : ¬ k = 0 := by omega
        clear hm
        obtain ⟨y, hy⟩ : ∃ y, rows[m]? = some y := ⟨_, List.getElem?_eq_getElem (by rw [HRN.out]; exact hmn)⟩
        obtain ⟨b, o, rfl, _, _, hbo⟩ := hR.some_ (by omega)
        obtain ⟨A6, c6, q2, v2⟩ := hR.at_ hy
        have hrn2 := HRW.out y (List.mem_of_getElem? hy)
        have hyl := hrn2.short
        have hgd : rows.getD m [] = y := by rw [List.getD_eq_getElem?_getD, hy]; rfl
        have HGD := Lib.hid hgd
        have HDR := Lib.hid (fun w' (hx : IxA w' gy (gy + 1) col S.key ws2 A2 c2) (hv : Vs w' (w.heap.size) A6 y.length c6 y) => drop_ ws2 y (enR col S.key y) gy (gy + 1) col S.key A2 c2 w.heap.size A6 y.length c6 w' hx hv hyl hrn2.colAt hrn2.keyAt hrn2.ok (by omega))
        have HX2 := Lib.hid hx2
        clear hx2 hy hrn2 hgd hme
        go_wp2_with fail
        have hbd : Below w8.heap.size w8 wr.drew := hb2.drew
        have D := fun w' (h : Below w8.heap.size w8 w') => five BT h
        have Dm := fun w' (h : Below w8.heap.size w8 w') => (h.cell (p := ⟨b, o + m, none⟩) hbo).trans q2
        refine wp_region_oneS (S := fun w' => Below w8.heap.size w8 w') [(0, true), (1, true), (2, true), (3, true), (4, true), (5, true), (8, true), (6, false), (7, true), (9, true), (10, true), (11, true), (12, false)] (by kernel_rfl) (by kernel_rfl) (by kernel_rfl) (by decide) hbd ?_
        repeat ((with_reducible show wpPerm _ _ _ _ ((_, true) :: _) _ _); (first | (refine wpPerm_on (v := ?_) rfl rfl (wanted_free rfl) (fun w' hS => ?_) ?_; rotate_left; (focus (go_simp; (try with_reducible rfl); done)); try simp only [List.setIfInBounds_toArray, List.set_cons_zero, List.set_cons_succ]) | (refine wpPerm_on (v := ?_) rfl rfl (wanted_yes rfl rfl rfl) (fun w' hS => ?_) ?_; rotate_left; (focus (go_simp; (try with_reducible rfl); done)); try simp only [List.setIfInBounds_toArray, List.set_cons_zero, List.set_cons_succ]) | (refine wpPerm_off rfl rfl (wanted_no rfl rfl rfl) ?_; try simp only [List.setIfInBounds_toArray, List.set_cons_zero, List.set_cons_succ]) | (refine wpPerm_off rfl rfl (wanted_undef rfl rfl rfl) ?_; try simp only [List.setIfInBounds_toArray, List.set_cons_zero, List.set_cons_succ])))
        refine wpPerm_do rfl (wanted_free rfl) (fun K hK => ?_); go_simp
        refine (within11 by_ (k : Int) (bn : Int) hbe _ (by omega) (by omega) hby.1 hby.2).mono ?_
        rintro e w13 ⟨rfl, rfl⟩
        refine hK.out _ _ hbd ?_
        clear hK K
        have hwr : IntKind.i64.wrap ((j : Int) + (bn : Int)) = (j : Int) + (bn : Int) := IntWalk.i64_in _ ⟨by omega, by omega⟩
        have hme := HME.out
        have hwm : IntKind.i64.wrap (m : Int) = (m : Int) := IntWalk.i64_in _ ⟨by omega, by omega⟩
        repeat ((with_reducible show wpPerm _ _ _ _ ((_, true) :: _) _ _); (first | (refine wpPerm_on (v := ?_) rfl rfl (wanted_free rfl) (fun w' hS => ?_) ?_; rotate_left; (focus (go_simp; (try with_reducible rfl); done)); try simp only [List.setIfInBounds_toArray, List.set_cons_zero, List.set_cons_succ]) | (refine wpPerm_on (v := ?_) rfl rfl (wanted_yes rfl rfl rfl) (fun w' hS => ?_) ?_; rotate_left; (focus (go_simp; (try with_reducible rfl); done)); try simp only [List.setIfInBounds_toArray, List.set_cons_zero, List.set_cons_succ]) | (refine wpPerm_off rfl rfl (wanted_no rfl rfl rfl) ?_; try simp only [List.setIfInBounds_toArray, List.set_cons_zero, List.set_cons_succ]) | (refine wpPerm_off rfl rfl (wanted_undef rfl rfl rfl) ?_; try simp only [List.setIfInBounds_toArray, List.set_cons_zero, List.set_cons_succ])))
        clear hwr hwm
        clear D Dm
        refine wpPerm_do rfl (wanted_free rfl) (fun K hK => ?_); go_simp
        refine (HDR.out _ (HX2.out.ext (Below.refl _ _).drew) (v2.ext hbd)).mono ?_
        rintro e w14 ⟨ws3, A3, c3, rfl, hx3, hm3, hk3⟩
        have hb3 := Below.trans hbd (Below.mono (hk3.below hbd.size hgy8 (fun q h => by have := (HX2.out.own.lt q h).1; omega)) (Nat.le_refl _))
        refine hK.out _ _ hb3 ?_
        clear hK K
        refine wpPerm_done ?_
        have HX3 := Lib.hid hx3
        have HM3 := Lib.hid hm3
        have hl3 : ws3.length ≤ 50 := by
          have h4 := dropN_len (l := ws2.map (·.e)) (e := enR col S.key y)
          rw [← hm3, List.length_map, List.length_map] at h4
          omega
        clear hx3 hm3 hk3 hme
        go_wp2
        go_roundw
        case rel =>
          refine ⟨j + 1, ws3, A3, c3, by go_num, by omega, HX3.out, hl3, ?_, hb3⟩
          intro x hx
          rw [HM3.out] at hx
          have h5 := HM2.out x (mem_dropN hx)
          refine ⟨h5.1, fun i hi => ?_⟩
          rcases Nat.lt_or_ge i j with h6 | h6
          · exact h5.2 i h6
          · obtain rfl : i = j := by omega
            rw [HMM.out, HGD.out]
            exact dropN_ne HX2.out.srt hx
        case measure => simp [intOf]; omega
    have hd : decide ((k : Int) < (nt : Int)) = true := by simp; omega
    have hkn : (k : Int) < (nt : Int) := by omega
    obtain ⟨m, hm⟩ : ∃ m, m + k + 1 = nt := ⟨nt - 1 - k, by omega⟩
    have hmi : (nt : Int) - 1 - (k : Int) = (m : Int) := by omega
    have hmn : (m : Int) < (nt : Int) := by omega
    obtain ⟨y, hy⟩ : ∃ y, rows[m]? = some y := ⟨_, List.getElem?_eq_getElem (by rw [HRN.out]; omega)⟩
    have hrev : rows.reverse[k]? = some y := by
      rw [List.getElem?_reverse (by rw [HRN.out]; omega), HRN.out, show nt - 1 - k = m by omega]
      exact hy
    have hRr := hR.ext hb1
    obtain ⟨b, o, rfl, _, _, hbo⟩ := hR.some_ (by omega)
    obtain ⟨A6, c6, q2, v2⟩ := hRr.at_ hy
    have hrn2 := HRW.out y (List.mem_of_getElem? hy)
    have HS := Lib.hid (buildN_snoc (col := col) (key := S.key) hrev)
    have hl1 : ws1.length ≤ 50 := by
      have h4 := buildN_len col S.key rows.reverse k
      rw [← HM1.out, List.length_map] at h4
      omega
    have HA := Lib.hid (add_ ws1 y (enR col S.key y) gy (gy + 1) col S.key A1 c1 w.heap.size A6 y.length c6 wr hx1 v2 hrn2.short hrn2.colAt hrn2.keyAt hrn2.ok (by omega))
    have HX1 := Lib.hid hx1
    have q := five BTr (Below.refl _ _)
    clear hy hrn2 hrev hx1 hm
    go_wp2_with fail
    refine (HA.out).mono ?_
    rintro e w14 ⟨ws3, A3, c3, rfl, hx3, hm3, hk3⟩
    have hb3 := Below.trans hb1 (hk3.below hb1.size hgy8 (fun q h => by have := (HX1.out.own.lt q h).1; omega))
    have HX3 := Lib.hid hx3
    have HM3 := Lib.hid hm3
    clear hx3 hm3 hk3 q q2
    go_wp2
    go_roundw
    case rel => exact ⟨k + 1, ws3, A3, c3, by go_num, by omega, HX3.out, by rw [HM3.out, HM1.out, HS.out], hb3⟩
    case measure => simp [intOf]; omega
end Go.Proofs.Ytnlmbjmgmofeiaa.ix
