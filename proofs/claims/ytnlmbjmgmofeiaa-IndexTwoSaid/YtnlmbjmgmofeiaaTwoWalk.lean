/- IndexTwo: the walk. Printed by genlaw11.py. -/
import Derived.Test.YtnlmbjmgmofeiaaMF
import Derived.Test.YtnlmbjmgmofeiaaTArg
namespace Go.Proofs.Ytnlmbjmgmofeiaa.ix
open Go.ChangeShapes Go.WideShapes Go.ChangeAt Go.RowKit Go.Proofs.Ytnlmbjmgmofeiaa.lib Go.Proofs.Ytnlmbjmgmofeiaa.val Go.Proofs.Ytnlmbjmgmofeiaa.tb
set_option linter.unusedVariables false

set_option maxRecDepth 1000000 in
set_option maxHeartbeats 8000000 in
theorem two_walk (s : ByteArray) (A : Option Addr) (n c : Nat) (l : List Col) (key : Int) (only : Bool) (Ai : Option Addr) (ni ci : Nat) (zs : List Int) (pn : Int) (w : World) (hs : s.size ≤ maxLen) (hC : Cs w 0 A n c l) (hn : n ≤ maxLen) (hp : ∀ x ∈ l, RawC x) (hkey : ok64 key) (hI : Row w 0 Ai ni ci (flatK encI zs)) (hni : zs.length = ni) (hi2 : ni ≤ maxLen) (hz : ∀ x ∈ zs, ok64 x) (hpn : ok64 pn) :
    Calls Try.prog 8 #[.agg #[.string s, .slice A n c, .int .i64 key, .bool only], .slice Ai ni ci, .int .i64 pn] w fun e W' => e = .returned (.bool true) ∧ Below w.heap.size w W' := by
  go_enter Try.func8, Try.ntmps8
  go_upto_region 1 with fail
  obtain ⟨W0, hW_, hbW0, BS⟩ : ∃ W_, W_ = (w.alloc (.cells #[.string s, .slice A n c, .int .i64 key, .bool only] 24)) ∧ Below w.heap.size w W_ ∧ Blk W_ (w.heap.size) 24 #[.string s, .slice A n c, .int .i64 key, .bool only] :=
    ⟨_, rfl, ((Below.refl _ _).alloc (Nat.le_refl _) _), (blk_new_at w (w.heap.size) _ _ (by simp))⟩
  rw [← hW_]
  clear hW_
  go_wp2_with fail
  refine (known11_ _).mono ?_
  rintro e w1 ⟨rfl, hb1⟩
  have hbw1 := Below.trans hbW0 (Below.mono hb1 hbW0.size)
  have BS := BS.ext hb1
  clear hbW0 hb1
  have q := four BS (Below.refl _ _)
  go_wp2_with fail
  refine (few9_ s A n c l key only _ hs (hC.ext hbw1) hn (fun x hx => (hp x hx).s)).mono ?_
  rintro e w2 ⟨⟨b, rfl⟩, hb2⟩
  have hbw2 := Below.trans hbw1 (Below.mono hb2 hbw1.size)
  have BS := BS.ext hb2
  clear hbw1 hb2 q
  by_cases hbt : b = true
  case neg =>
    obtain rfl : b = false := by cases b with | false => rfl | true => exact absurd rfl hbt
    go_wp2
    go_ret
    exact ⟨rfl, hbw2⟩
  subst hbt
  have q := four BS (Below.refl _ _)
  go_wp2_with fail
  refine (good9_ s A n c l key only _ (hC.ext hbw2) hn hp hkey).mono ?_
  rintro e w3 ⟨A7, c7, rfl, hC7, hF7, hb3⟩
  have hbw3 := Below.trans hbw2 (Below.mono hb3 hbw2.size)
  have hS : SOk (goodS l key only) := good_ok l key only
  generalize goodS l key only = S at *
  have hC7 := hC7.base (Nat.zero_le _)
  clear hbw2 hb3 q BS hs hC hn hp hkey
  have h6 := hS.six
  have hpos := hS.pos
  have hn7 : S.cols.length ≤ 100 := by omega
  simp only [schA]
  go_wp2_with fail
  obtain ⟨W4, hW_, hbW4, B7⟩ : ∃ W_, W_ = (w3.alloc (.cells #[.string S.name, .slice A7 S.cols.length c7, .int .i64 S.key, .bool S.only] 24)) ∧ Below w3.heap.size w3 W_ ∧ Blk W_ (w3.heap.size) 24 #[.string S.name, .slice A7 S.cols.length c7, .int .i64 S.key, .bool S.only] :=
    ⟨_, rfl, ((Below.refl _ _).alloc (Nat.le_refl _) _), (blk_new_at w3 (w3.heap.size) _ _ (by simp))⟩
  rw [← hW_]
  clear hW_
  obtain ⟨g7, hg7⟩ : ∃ g, w3.heap.size = g := ⟨_, rfl⟩
  have hbw4 := Below.trans hbw3 (Below.mono hbW4 hbw3.size)
  have hC7 := hC7.ext hbW4
  rw [hg7] at B7 ⊢
  clear hg7 hbW4 hbw3 hF7
  have q := four B7 (Below.refl _ _)
  go_wp2_with fail
  refine (fill_ S A7 c7 Ai ni ci zs _ hS hC7 (hI.ext hbw4) hni hi2 hz).mono ?_
  rintro e w6 ⟨rows, At, nt, ct, rfl, hR, hFt, hOk, hlen, hfd, hb6⟩
  have hlow6 := hbw4.size
  have hR := hR.base hlow6
  have hbw6 := Below.trans hbw4 (Below.mono hb6 hbw4.size)
  have B7 := B7.ext hb6
  have hC7 := hC7.ext hb6
  have hRN := hR.len
  have hnt : nt ≤ 50 := by omega
  have hrow : ∀ c, c < S.cols.length → ∀ r ∈ rows, RowN c S.key r := fun c hc r hr => rowN_of (hOk.fit r hr) (hfd r hr).num hc hS.key hn7
  clear hb6 q hbw4 hlow6
  simp only [tabA]
  go_wp2_with fail
  obtain ⟨W6, hW_, hbx6, BT⟩ : ∃ W_, W_ = (w6.alloc (.cells #[.string S.name, .slice A7 S.cols.length c7, .int .i64 S.key, .bool S.only, .slice At nt ct] 32)) ∧ Below w6.heap.size w6 W_ ∧ Blk W_ (w6.heap.size) 32 #[.string S.name, .slice A7 S.cols.length c7, .int .i64 S.key, .bool S.only, .slice At nt ct] :=
    ⟨_, rfl, ((Below.refl _ _).alloc (Nat.le_refl _) _), (blk_new_at w6 (w6.heap.size) _ _ (by simp))⟩
  rw [← hW_]
  clear hW_
  obtain ⟨gt, hgt⟩ : ∃ g, w6.heap.size = g := ⟨_, rfl⟩
  rw [hgt] at BT ⊢
  have hbw60 := hbw6
  have hbw6 := Below.trans hbw60 (Below.mono hbx6 hbw60.size)
  have B7 := B7.ext hbx6
  have hR := hR.ext hbx6
  have hC7 := hC7.ext hbx6
  clear hgt hbx6 hbw60
  have HORD := Lib.hid hOk.ord
  have HRK := Lib.hid (hrow S.key hS.key)
  have HR0 := Lib.hid (hrow 0 hpos)
  have HRN := Lib.hid hRN
  clear hrow hfd hOk hRN
  go_wp2_with fail
  have D := fun w' (h : Below W6.heap.size W6.drew w') => five BT (Below.trans (Below.refl _ _).drew h)
  have D7 := fun w' (h : Below W6.heap.size W6.drew w') => four B7 (Below.trans (Below.refl _ _).drew h)
  refine wp_region_one [(0, true), (2, true), (3, true), (5, true), (1, false), (4, false), (6, false), (7, false), (8, true), (9, true)] (by kernel_rfl) (by kernel_rfl) (by kernel_rfl) (by decide) ?_
  repeat ((with_reducible show wpPerm _ _ _ _ ((_, true) :: _) _ _); (first | (refine wpPerm_on (v := ?_) rfl rfl (wanted_free rfl) (fun w' hS => ?_) ?_; rotate_left; (focus (go_simp; (try with_reducible rfl); done)); try simp only [List.setIfInBounds_toArray, List.set_cons_zero, List.set_cons_succ]) | (refine wpPerm_on (v := ?_) rfl rfl (wanted_yes rfl rfl rfl) (fun w' hS => ?_) ?_; rotate_left; (focus (go_simp; (try with_reducible rfl); done)); try simp only [List.setIfInBounds_toArray, List.set_cons_zero, List.set_cons_succ]) | (refine wpPerm_off rfl rfl (wanted_no rfl rfl rfl) ?_; try simp only [List.setIfInBounds_toArray, List.set_cons_zero, List.set_cons_succ]) | (refine wpPerm_off rfl rfl (wanted_undef rfl rfl rfl) ?_; try simp only [List.setIfInBounds_toArray, List.set_cons_zero, List.set_cons_succ])))
  refine wpPerm_do rfl (wanted_free rfl) (fun K hK => ?_); go_simp
  refine (of_ S A7 S.cols.length c7 At nt ct _).mono ?_
  rintro e w7 ⟨rfl, hb7⟩
  refine hK.out _ _ hb7 ?_
  clear hK K
  simp only [tabA]
  refine wpPerm_do rfl (wanted_free rfl) (fun K hK => ?_); go_simp
  refine (build_ S rows S.key S.key _ A7 S.cols.length c7 At nt ct _ rfl (hR.ext (Below.trans (Below.refl _ _).drew hb7)) (by omega) HRK.out).mono ?_
  rintro e w8 ⟨g, ws, Ax, cx, rfl, hx, hmap, hlo, hb8⟩
  have hb78 := Below.trans hb7 (Below.mono hb8 hb7.size)
  refine hK.out _ _ hb78 ?_
  clear hK K
  refine wpPerm_do rfl (wanted_free rfl) (fun K hK => ?_); go_simp
  refine (of_ S A7 S.cols.length c7 At nt ct _).mono ?_
  rintro e w9 ⟨rfl, hb9⟩
  have hb79 := Below.trans hb78 (Below.mono hb9 hb78.size)
  refine hK.out _ _ hb79 ?_
  clear hK K
  simp only [tabA]
  refine wpPerm_do rfl (wanted_free rfl) (fun K hK => ?_); go_simp
  refine (build_ S rows 0 S.key _ A7 S.cols.length c7 At nt ct _ rfl (hR.ext (Below.trans (Below.refl _ _).drew hb79)) (by omega) HR0.out).mono ?_
  rintro e w10 ⟨g2, ws2, Ay, cy, rfl, hy, hmap2, hlo2, hb10⟩
  have hb7a := Below.trans hb79 (Below.mono hb10 hb79.size)
  refine hK.out _ _ hb7a ?_
  clear hK K
  repeat ((with_reducible show wpPerm _ _ _ _ ((_, true) :: _) _ _); (first | (refine wpPerm_on (v := ?_) rfl rfl (wanted_free rfl) (fun w' hS => ?_) ?_; rotate_left; (focus (go_simp; (try with_reducible rfl); done)); try simp only [List.setIfInBounds_toArray, List.set_cons_zero, List.set_cons_succ]) | (refine wpPerm_on (v := ?_) rfl rfl (wanted_yes rfl rfl rfl) (fun w' hS => ?_) ?_; rotate_left; (focus (go_simp; (try with_reducible rfl); done)); try simp only [List.setIfInBounds_toArray, List.set_cons_zero, List.set_cons_succ]) | (refine wpPerm_off rfl rfl (wanted_no rfl rfl rfl) ?_; try simp only [List.setIfInBounds_toArray, List.set_cons_zero, List.set_cons_succ]) | (refine wpPerm_off rfl rfl (wanted_undef rfl rfl rfl) ?_; try simp only [List.setIfInBounds_toArray, List.set_cons_zero, List.set_cons_succ])))
  refine wpPerm_done ?_
  clear D D7
  have hg12 : g < g2 := Nat.lt_of_lt_of_le hx.blk.lt (Nat.le_trans hb9.size hlo2)
  have HLT := Lib.hid (fun n (h : (Value.slice Ax ws.length cx).ownBlock = some n) => Nat.lt_of_lt_of_le (hx.own.lt n h).2 (Nat.le_trans hb9.size hlo2))
  have hgW : W6.heap.size ≤ g := Nat.le_trans hb7.size hlo
  have HX := Lib.hid (hx.ext (Below.trans hb9 (Below.mono hb10 hb9.size)))
  have HY := Lib.hid hy
  have hwl : ws.length ≤ 50 := by
    have h4 := buildN_len S.key S.key rows rows.length
    rw [List.take_of_length_le (Nat.le_refl _), ← hmap, List.length_map] at h4
    have := HRN.out
    omega
  have hwl2 : ws2.length ≤ 50 := by
    have h4 := buildN_len 0 S.key rows rows.length
    rw [List.take_of_length_le (Nat.le_refl _), ← hmap2, List.length_map] at h4
    have := HRN.out
    omega
  have HMX := Lib.hid hmap
  have HMY := Lib.hid hmap2
  have hb6a := Below.trans ((Below.refl W6.heap.size W6).drew) hb7a
  clear hx hy hmap hmap2 hlo hlo2 hb7 hb8 hb9 hb10 hb78 hb79 hb7a
  go_wp2_with fail
  refine (from_ ws2 ⟨0, 0, ⟨#[]⟩⟩ 99 g2 (g2 + 1) 0 S.key Ay cy _ HY.out (by omega)).mono ?_
  rintro e w11 ⟨Aw, cw, rfl, hownw, hb11⟩
  obtain ⟨L, hL⟩ : ∃ L, fromN (ws2.map (·.e)) ⟨0, 0, ⟨#[]⟩⟩ 99 = L := ⟨_, rfl⟩
  have hLn : L.length ≤ 50 := by
    rw [← hL]
    unfold fromN
    rw [List.length_take]
    have := geN_len (ws2.map (·.e)) ⟨0, 0, ⟨#[]⟩⟩
    rw [List.length_map] at this
    omega
  rw [hL] at hownw ⊢
  have HL := Lib.hid hL
  obtain ⟨LN, hLN⟩ : ∃ n, L.length = n := ⟨_, rfl⟩
  rw [hLN] at hownw hLn ⊢
  have HLN := Lib.hid hLN
  clear hLN
  have HOW := Lib.hid hownw
  have hb611 := Below.trans hb6a (Below.mono hb11 hb6a.size)
  have q := four B7 hb611
  clear hL hownw
  go_wp2_with fail
  clear q
  refine (fit_ S 0 A7 S.cols.length c7 pn _ (hC7.ext hb611) hn7 hS.kinds hpn.1 hpn.2).mono ?_
  rintro e w12 ⟨Ar, cr, rfl, hownr, hb12⟩
  have hrv := rowN_of (fit_fits hS.kinds pn) (num_fit S.cols pn) hS.key hS.key hn7
  have hfl := fitL_len S.cols pn
  have RVk := hrv.colAt
  have HRV := Lib.hid hrv
  generalize fitL S.cols pn = rv at *
  have hVv : Vs w12 0 Ar S.cols.length cr rv := (Vs.of_own hownr).base (Nat.zero_le _)
  obtain ⟨bv, ov, rfl, _, _, _⟩ := hVv.1.some_ (by omega)
  have HOR := Lib.hid hownr
  obtain ⟨kv, hkv⟩ : ∃ v, (enR S.key S.key rv).v = v := ⟨_, rfl⟩
  rw [hkv] at RVk
  have HKV := Lib.hid (show (enR S.key S.key rv).k = kv from hkv)
  have hkc : (S.key : Int) < (S.cols.length : Int) := by have := hS.key; omega
  have hb612 := Below.trans hb611 (Below.mono hb12 hb611.size)
  have hb1112 := Below.trans hb11 (Below.mono hb12 hb11.size)
  clear hrv hkv hownr hb6a hb11 hb611
  go_wp2_with fail
  have D := fun w' (h : Below w12.heap.size w12.drew w') => five BT (Below.trans hb612.drew (Below.mono h hb612.drew.size))
  have D7 := fun w' (h : Below w12.heap.size w12.drew w') => four B7 (Below.trans hb612.drew (Below.mono h hb612.drew.size))
  have Dr := fun w' (h : Below w12.heap.size w12.drew w') => (hVv.ext (Below.trans (Below.refl _ _).drew h)).at_ RVk
  refine wp_region_one [(0, true), (1, true), (2, true), (3, true), (4, true), (5, true), (6, true), (7, true), (8, true), (9, false), (10, true)] (by kernel_rfl) (by kernel_rfl) (by kernel_rfl) (by decide) ?_
  repeat ((with_reducible show wpPerm _ _ _ _ ((_, true) :: _) _ _); (first | (refine wpPerm_on (v := ?_) rfl rfl (wanted_free rfl) (fun w' hS => ?_) ?_; rotate_left; (focus (go_simp; (try with_reducible rfl); done)); try simp only [List.setIfInBounds_toArray, List.set_cons_zero, List.set_cons_succ]) | (refine wpPerm_on (v := ?_) rfl rfl (wanted_yes rfl rfl rfl) (fun w' hS => ?_) ?_; rotate_left; (focus (go_simp; (try with_reducible rfl); done)); try simp only [List.setIfInBounds_toArray, List.set_cons_zero, List.set_cons_succ]) | (refine wpPerm_off rfl rfl (wanted_no rfl rfl rfl) ?_; try simp only [List.setIfInBounds_toArray, List.set_cons_zero, List.set_cons_succ]) | (refine wpPerm_off rfl rfl (wanted_undef rfl rfl rfl) ?_; try simp only [List.setIfInBounds_toArray, List.set_cons_zero, List.set_cons_succ])))
  refine wpPerm_do rfl (wanted_free rfl) (fun K hK => ?_); go_simp
  refine (at_ rows S.key kv _ At nt ct _ (hR.ext hb612.drew) (by omega) HRK.out).mono ?_
  rintro e w13 ⟨z, rfl, hz, hb13⟩
  refine hK.out _ _ hb13 ?_
  clear hK K
  rcases hz with ⟨rfl, hno⟩ | ⟨m, r1, rfl, hm, hmv⟩
  · have HNO := Lib.hid hno
    clear hno
    have h1 : decide ((-1 : Int) < 0) = true := rfl
    repeat ((with_reducible show wpPerm _ _ _ _ ((_, true) :: _) _ _); (first | (refine wpPerm_on (v := ?_) rfl rfl (wanted_free rfl) (fun w' hS => ?_) ?_; rotate_left; (focus (go_simp; (try with_reducible rfl); done)); try simp only [List.setIfInBounds_toArray, List.set_cons_zero, List.set_cons_succ]) | (refine wpPerm_on (v := ?_) rfl rfl (wanted_yes rfl rfl rfl) (fun w' hS => ?_) ?_; rotate_left; (focus (go_simp; (try with_reducible rfl); done)); try simp only [List.setIfInBounds_toArray, List.set_cons_zero, List.set_cons_succ]) | (refine wpPerm_off rfl rfl (wanted_no rfl rfl rfl) ?_; try simp only [List.setIfInBounds_toArray, List.set_cons_zero, List.set_cons_succ]) | (refine wpPerm_off rfl rfl (wanted_undef rfl rfl rfl) ?_; try simp only [List.setIfInBounds_toArray, List.set_cons_zero, List.set_cons_succ])))
    refine wpPerm_done ?_
    clear D D7 Dr
    have hb13 := Below.trans ((Below.refl w12.heap.size w12).drew) hb13
    have hx13 := HX.out.ext (Below.trans hb1112 (Below.mono hb13 hb1112.size))
    have hy13 := HY.out.ext (Below.trans hb1112 (Below.mono hb13 hb1112.size))
    have hw13 := own_ext HOW.out (Below.trans hb12 (Below.mono hb13 hb12.size))
    have hv13 := hVv.ext hb13
    have hb613 := Below.trans hb612 (Below.mono hb13 hb612.size)
    clear hb13
    go_wp2_with fail
    refine (add_ ws rv (enR S.key S.key rv) g (g + 1) S.key S.key Ax cx 0 (some ⟨bv, ov, none⟩) S.cols.length cr _ hx13 hv13 (by omega) HRV.out.colAt HRV.out.keyAt HRV.out.ok (by omega)).mono ?_
    rintro e w15 ⟨ws5, A5, c5, rfl, hx5, hm5, hk5⟩
    have HY5 := Lib.hid (hy13.kept hx13 hk5 hg12 HLT.out)
    have HW5 := Lib.hid (hx13.keeps hk5 hw13 (by decide) (by decide))
    have HX5 := Lib.hid hx5
    have hb5 := Below.trans hb613 ((hk5.below (H := W6.heap.size) hb613.size hgW (fun n hn => Nat.le_trans hgW (Nat.le_trans (Nat.le_succ _) (hx13.own.lt n hn).1))))
    have hne : ws5.length ≠ ws2.length := by
      have e5 := congrArg List.length hm5
      rw [HMX.out, addN_new (fun r hr => by rw [HKV.out]; exact HNO.out r hr), List.length_map, len_all HORD.out] at e5
      have e2 := congrArg List.length HMY.out
      rw [List.length_map, len_all HORD.out] at e2
      omega
    have hnb : ((ws5.length : Int) != (ws2.length : Int)) = true := by rw [bne_iff_ne]; omega
    clear hx13 hy13 hw13 hv13 hb613 hx5 hm5 hk5 hne
    go_wp2_with fail
    refine (from_ ws2 ⟨0, 0, ⟨#[]⟩⟩ 99 g2 (g2 + 1) 0 S.key Ay cy _ HY5.out (by omega)).mono ?_
    rintro e w20 ⟨A8, c8, rfl, hown8, hb20⟩
    rw [HL.out, HLN.out] at hown8 ⊢
    have HY20 := Lib.hid (HY5.out.ext hb20)
    have HX20 := Lib.hid (HX5.out.ext hb20)
    have HW20 := Lib.hid (own_ext HW5.out hb20)
    have hb20a := Below.trans hb5 (Below.mono hb20 hb5.size)
    have hb20o := hb20
    clear hb20
    rcases Nat.eq_zero_or_pos LN with hz0 | hpos0
    case inl =>
      have hp0 : decide ((0 : Int) < (LN : Int)) = false := by simp; omega
      have hp1 : ¬ (0 : Int) < (LN : Int) := by omega
      clear hz0
      go_wp2_with fail
      have HY9 := HY20
      have HX9 := HX20
      have HW9 := HW20
      have hb9 := hb20a
      clear hown8 hb20a
      refine (from_ ws2 ⟨0, 0, ⟨#[]⟩⟩ 99 g2 (g2 + 1) 0 S.key Ay cy _ HY9.out (by omega)).mono ?_
      rintro e w22 ⟨A9, c9, rfl, hown9, hb22⟩
      rw [HL.out, HLN.out] at hown9 ⊢
      have HWS9 := Lib.hid ((Vs.of_own (own_ext HW9.out hb22)).base (Nat.zero_le _))
      have hVl := (Vs.of_own hown9).base (Nat.zero_le _)
      have HX22 := Lib.hid (HX9.out.ext hb22)
      have HY22 := Lib.hid (HY9.out.ext hb22)
      have hbF := Below.trans hb9 (Below.mono hb22 hb9.size)
      clear hown9 hb22
      go_wp2_with fail
      refine (rrowSame_ L 0 0 A9 Aw LN c9 LN cw _ (by omega) hVl HWS9.out).mono ?_
      rintro e w23 ⟨rfl, hb23⟩
      have HX23 := Lib.hid (HX22.out.ext hb23)
      have HY23 := Lib.hid (HY22.out.ext hb23)
      have hbF := Below.trans hbF (Below.mono hb23 hbF.size)
      clear hb23 hVl
      go_wp2_with fail
      refine (len_ ws5 g (g + 1) S.key S.key A5 c5 _ HX23.out).mono ?_
      rintro e w24 ⟨rfl, rfl⟩
      go_wp2_with fail
      refine (len_ ws2 g2 (g2 + 1) 0 S.key Ay cy _ HY23.out).mono ?_
      rintro e w25 ⟨rfl, rfl⟩
      go_wp2
      go_ret
      exact ⟨rfl, Below.trans hbw6 (Below.mono hbF hbw6.size)⟩
    obtain ⟨l0_, lt_, hLc⟩ : ∃ a t, L = a :: t := by
      cases L with
      | nil => have := HLN.out; simp at this; omega
      | cons a t => exact ⟨a, t, rfl⟩
    obtain ⟨l00, l01, l02⟩ := l0_
    obtain ⟨b8, rfl, hb8lo, hb8hi⟩ := own_some1 hown8 hpos0
    obtain ⟨cur, hcur, hcs, _, _, _, hcells⟩ := own_cells hown8
    rw [hLc] at hcells
    have hpos8 : decide ((0 : Int) < (LN : Int)) = true := by simp; omega
    have hpos9 : (0 : Int) < (LN : Int) := by omega
    have q0 := hcells 0 (.int .i64 l00) (by simp [cellsV, flatK, encV])
    have q1 := hcells 1 (.int .i64 l01) (by simp [cellsV, flatK, encV])
    have q2 := hcells 2 (.string l02) (by simp [cellsV, flatK, encV])
    have f0 := hcur.frozen 0
    have f1 := hcur.frozen 1
    have f2 := hcur.frozen 2
    clear hcur hcs hcells hLc
    go_wp2_with fail
    obtain ⟨wE, hwE, hbE⟩ : ∃ wE, wE = ((w20.setCell ⟨b8, 0, none⟩ (.int .i64 2)).setCell ⟨b8, 1, none⟩ (.int .i64 77777)).setCell ⟨b8, 2, none⟩ (.string ⟨#[]⟩) ∧ Below w15.heap.size w20 wE := ⟨_, rfl, (((Below.refl _ _).setCell hb8lo _).setCell hb8lo _).setCell hb8lo _⟩
    rw [← hwE]
    clear hwE q0 q1 q2 f0 f1 f2
    have hbE := Below.trans hb20o hbE
    have HY9 := Lib.hid (HY5.out.ext hbE)
    have HX9 := Lib.hid (HX5.out.ext hbE)
    have HW9 := Lib.hid (own_ext HW5.out hbE)
    have hb9 := Below.trans hb5 (Below.mono hbE hb5.size)
    clear hown8 hb20a hbE hb8lo hb8hi
    refine (from_ ws2 ⟨0, 0, ⟨#[]⟩⟩ 99 g2 (g2 + 1) 0 S.key Ay cy _ HY9.out (by omega)).mono ?_
    rintro e w22 ⟨A9, c9, rfl, hown9, hb22⟩
    rw [HL.out, HLN.out] at hown9 ⊢
    have HWS9 := Lib.hid ((Vs.of_own (own_ext HW9.out hb22)).base (Nat.zero_le _))
    have hVl := (Vs.of_own hown9).base (Nat.zero_le _)
    have HX22 := Lib.hid (HX9.out.ext hb22)
    have HY22 := Lib.hid (HY9.out.ext hb22)
    have hbF := Below.trans hb9 (Below.mono hb22 hb9.size)
    clear hown9 hb22
    go_wp2_with fail
    refine (rrowSame_ L 0 0 A9 Aw LN c9 LN cw _ (by omega) hVl HWS9.out).mono ?_
    rintro e w23 ⟨rfl, hb23⟩
    have HX23 := Lib.hid (HX22.out.ext hb23)
    have HY23 := Lib.hid (HY22.out.ext hb23)
    have hbF := Below.trans hbF (Below.mono hb23 hbF.size)
    clear hb23 hVl
    go_wp2_with fail
    refine (len_ ws5 g (g + 1) S.key S.key A5 c5 _ HX23.out).mono ?_
    rintro e w24 ⟨rfl, rfl⟩
    go_wp2_with fail
    refine (len_ ws2 g2 (g2 + 1) 0 S.key Ay cy _ HY23.out).mono ?_
    rintro e w25 ⟨rfl, rfl⟩
    go_wp2
    go_ret
    exact ⟨rfl, Below.trans hbw6 (Below.mono hbF hbw6.size)⟩
  have HM := Lib.hid hm
  have HMV := Lib.hid hmv
  clear hm hmv
  have h1 : decide ((m : Int) < 0) = false := by simp
  repeat ((with_reducible show wpPerm _ _ _ _ ((_, true) :: _) _ _); (first | (refine wpPerm_on (v := ?_) rfl rfl (wanted_free rfl) (fun w' hS => ?_) ?_; rotate_left; (focus (go_simp; (try with_reducible rfl); done)); try simp only [List.setIfInBounds_toArray, List.set_cons_zero, List.set_cons_succ]) | (refine wpPerm_on (v := ?_) rfl rfl (wanted_yes rfl rfl rfl) (fun w' hS => ?_) ?_; rotate_left; (focus (go_simp; (try with_reducible rfl); done)); try simp only [List.setIfInBounds_toArray, List.set_cons_zero, List.set_cons_succ]) | (refine wpPerm_off rfl rfl (wanted_no rfl rfl rfl) ?_; try simp only [List.setIfInBounds_toArray, List.set_cons_zero, List.set_cons_succ]) | (refine wpPerm_off rfl rfl (wanted_undef rfl rfl rfl) ?_; try simp only [List.setIfInBounds_toArray, List.set_cons_zero, List.set_cons_succ])))
  refine wpPerm_done ?_
  clear D D7 Dr
  have hb13 := Below.trans ((Below.refl w12.heap.size w12).drew) hb13
  have hx13 := HX.out.ext (Below.trans hb1112 (Below.mono hb13 hb1112.size))
  have hy13 := HY.out.ext (Below.trans hb1112 (Below.mono hb13 hb1112.size))
  have hw13 := own_ext HOW.out (Below.trans hb12 (Below.mono hb13 hb12.size))
  have ho13 := own_ext HOR.out hb13
  have hb613 := Below.trans hb612 (Below.mono hb13 hb612.size)
  clear hb13
  go_wp2_with fail
  have D := fun w' (h : Below W6.heap.size W6 w' ∧ w'.ownsRow w11.heap.size 41 3 (.slice (some ⟨bv, ov, none⟩) S.cols.length cr) S.cols.length (cellsV rv)) => five BT h.1
  have D7 := fun w' (h : Below W6.heap.size W6 w' ∧ w'.ownsRow w11.heap.size 41 3 (.slice (some ⟨bv, ov, none⟩) S.cols.length cr) S.cols.length (cellsV rv)) => four B7 h.1
  have Dr := fun w' (h : Below W6.heap.size W6 w' ∧ w'.ownsRow w11.heap.size 41 3 (.slice (some ⟨bv, ov, none⟩) S.cols.length cr) S.cols.length (cellsV rv)) => ((Vs.of_own h.2).base (Nat.zero_le _)).at_ RVk
  refine wp_region_oneS (S := fun w' => Below W6.heap.size W6 w' ∧ w'.ownsRow w11.heap.size 41 3 (.slice (some ⟨bv, ov, none⟩) S.cols.length cr) S.cols.length (cellsV rv)) [(0, true), (1, true), (2, true), (3, true), (4, true), (5, true), (6, true), (7, true), (8, true), (9, true), (10, true), (11, true), (12, false), (13, true), (14, true), (15, false)] (by kernel_rfl) (by kernel_rfl) (by kernel_rfl) (by decide) ⟨hb613.drew, own_ext ho13 (Below.refl _ _).drew⟩ ?_
  repeat ((with_reducible show wpPerm _ _ _ _ ((_, true) :: _) _ _); (first | (refine wpPerm_on (v := ?_) rfl rfl (wanted_free rfl) (fun w' hS => ?_) ?_; rotate_left; (focus (go_simp; (try with_reducible rfl); done)); try simp only [List.setIfInBounds_toArray, List.set_cons_zero, List.set_cons_succ]) | (refine wpPerm_on (v := ?_) rfl rfl (wanted_yes rfl rfl rfl) (fun w' hS => ?_) ?_; rotate_left; (focus (go_simp; (try with_reducible rfl); done)); try simp only [List.setIfInBounds_toArray, List.set_cons_zero, List.set_cons_succ]) | (refine wpPerm_off rfl rfl (wanted_no rfl rfl rfl) ?_; try simp only [List.setIfInBounds_toArray, List.set_cons_zero, List.set_cons_succ]) | (refine wpPerm_off rfl rfl (wanted_undef rfl rfl rfl) ?_; try simp only [List.setIfInBounds_toArray, List.set_cons_zero, List.set_cons_succ])))
  refine wpPerm_do rfl (wanted_free rfl) (fun K hK => ?_); go_simp
  refine (at_ rows S.key kv _ At nt ct _ (hR.ext hb613.drew) (by omega) HRK.out).mono ?_
  rintro e w14 ⟨z, rfl, hz, hb14⟩
  obtain ⟨m2, r2, rfl, hm2, hmv2⟩ : ∃ (m2 : Nat) (r2 : List V), z = (m2 : Int) ∧ rows[m2]? = some r2 ∧ (enR S.key S.key r2).v = kv := by
    rcases hz with ⟨_, hno⟩ | h
    · exact absurd HMV.out (hno _ (List.mem_of_getElem? HM.out))
    · exact h
  have hmn : (m2 : Int) < (nt : Int) := by
    have := (List.getElem?_eq_some_iff.1 hm2).1
    rw [HRN.out] at this
    omega
  obtain ⟨b, o, rfl, _, _, hbo⟩ := hR.some_ (by omega)
  obtain ⟨A3, c3, q1, v1⟩ := hR.at_ hm2
  have hr2 := HRK.out r2 (List.mem_of_getElem? hm2)
  have Dk := fun w' (h : Below W6.heap.size W6 w' ∧ w'.ownsRow w11.heap.size 41 3 (.slice (some ⟨bv, ov, none⟩) S.cols.length cr) S.cols.length (cellsV rv)) => (h.1.cell (p := ⟨b, o + m2, none⟩) hbo).trans q1
  have hb614 := Below.trans hb613.drew (Below.mono hb14 hb613.drew.size)
  have hx14 := hx13.ext (Below.trans (Below.refl _ _).drew hb14)
  have hy14 := hy13.ext (Below.trans (Below.refl _ _).drew hb14)
  have hw14 := own_ext hw13 (Below.trans (Below.refl _ _).drew hb14)
  have ho14 := own_ext ho13 (Below.trans (Below.refl _ _).drew hb14)
  refine hK.out _ _ ⟨hb614, ho14⟩ ?_
  clear hK K hz
  repeat ((with_reducible show wpPerm _ _ _ _ ((_, true) :: _) _ _); (first | (refine wpPerm_on (v := ?_) rfl rfl (wanted_free rfl) (fun w' hS => ?_) ?_; rotate_left; (focus (go_simp; (try with_reducible rfl); done)); try simp only [List.setIfInBounds_toArray, List.set_cons_zero, List.set_cons_succ]) | (refine wpPerm_on (v := ?_) rfl rfl (wanted_yes rfl rfl rfl) (fun w' hS => ?_) ?_; rotate_left; (focus (go_simp; (try with_reducible rfl); done)); try simp only [List.setIfInBounds_toArray, List.set_cons_zero, List.set_cons_succ]) | (refine wpPerm_off rfl rfl (wanted_no rfl rfl rfl) ?_; try simp only [List.setIfInBounds_toArray, List.set_cons_zero, List.set_cons_succ]) | (refine wpPerm_off rfl rfl (wanted_undef rfl rfl rfl) ?_; try simp only [List.setIfInBounds_toArray, List.set_cons_zero, List.set_cons_succ])))
  refine wpPerm_do rfl (wanted_free rfl) (fun K hK => ?_); go_simp
  refine (drop_ ws r2 (enR S.key S.key r2) g (g + 1) S.key S.key Ax cx _ A3 r2.length c3 _ hx14 (v1.ext hb614) (hr2.short) hr2.colAt hr2.keyAt hr2.ok (by omega)).mono ?_
  rintro e w15 ⟨ws5, A5, c5, rfl, hx5, hm5, hk5⟩
  have HY5 := Lib.hid (hy14.kept hx14 hk5 hg12 HLT.out)
  have HW5 := Lib.hid (hx14.keeps hk5 hw14 (by decide) (by decide))
  have HX5 := Lib.hid hx5
  have ho15 := hx14.keeps hk5 ho14 (by decide) (by decide)
  have hb5 := Below.trans hb614 ((hk5.below (H := W6.heap.size) hb614.size hgW (fun n hn => Nat.le_trans hgW (Nat.le_trans (Nat.le_succ _) (hx14.own.lt n hn).1))))
  refine hK.out _ _ ⟨hb5, ho15⟩ ?_
  clear hK K D D7 Dr Dk
  refine wpPerm_done ?_
  have hne : ws5.length ≠ ws2.length := by
    have e5 := congrArg List.length hm5
    have e6 := dropN_was (col := S.key) (key := S.key) (List.mem_of_getElem? hm2)
    rw [HMX.out, List.length_map] at e5
    rw [len_all HORD.out] at e6
    have e2 := congrArg List.length HMY.out
    rw [List.length_map, len_all HORD.out] at e2
    omega
  have hnb : ((ws5.length : Int) != (ws2.length : Int)) = true := by rw [bne_iff_ne]; omega
  clear hx13 hy13 hw13 ho13 hb613 hx14 hy14 hw14 ho14 hb614 hx5 hm5 hk5 hne ho15 hm2 q1 v1 hr2
  go_wp2_with fail
  refine (from_ ws2 ⟨0, 0, ⟨#[]⟩⟩ 99 g2 (g2 + 1) 0 S.key Ay cy _ HY5.out (by omega)).mono ?_
  rintro e w20 ⟨A8, c8, rfl, hown8, hb20⟩
  rw [HL.out, HLN.out] at hown8 ⊢
  have HY20 := Lib.hid (HY5.out.ext hb20)
  have HX20 := Lib.hid (HX5.out.ext hb20)
  have HW20 := Lib.hid (own_ext HW5.out hb20)
  have hb20a := Below.trans hb5 (Below.mono hb20 hb5.size)
  have hb20o := hb20
  clear hb20
  rcases Nat.eq_zero_or_pos LN with hz0 | hpos0
  case inl =>
    have hp0 : decide ((0 : Int) < (LN : Int)) = false := by simp; omega
    have hp1 : ¬ (0 : Int) < (LN : Int) := by omega
    clear hz0
    go_wp2_with fail
    have HY9 := HY20
    have HX9 := HX20
    have HW9 := HW20
    have hb9 := hb20a
    clear hown8 hb20a
    refine (from_ ws2 ⟨0, 0, ⟨#[]⟩⟩ 99 g2 (g2 + 1) 0 S.key Ay cy _ HY9.out (by omega)).mono ?_
    rintro e w22 ⟨A9, c9, rfl, hown9, hb22⟩
    rw [HL.out, HLN.out] at hown9 ⊢
    have HWS9 := Lib.hid ((Vs.of_own (own_ext HW9.out hb22)).base (Nat.zero_le _))
    have hVl := (Vs.of_own hown9).base (Nat.zero_le _)
    have HX22 := Lib.hid (HX9.out.ext hb22)
    have HY22 := Lib.hid (HY9.out.ext hb22)
    have hbF := Below.trans hb9 (Below.mono hb22 hb9.size)
    clear hown9 hb22
    go_wp2_with fail
    refine (rrowSame_ L 0 0 A9 Aw LN c9 LN cw _ (by omega) hVl HWS9.out).mono ?_
    rintro e w23 ⟨rfl, hb23⟩
    have HX23 := Lib.hid (HX22.out.ext hb23)
    have HY23 := Lib.hid (HY22.out.ext hb23)
    have hbF := Below.trans hbF (Below.mono hb23 hbF.size)
    clear hb23 hVl
    go_wp2_with fail
    refine (len_ ws5 g (g + 1) S.key S.key A5 c5 _ HX23.out).mono ?_
    rintro e w24 ⟨rfl, rfl⟩
    go_wp2_with fail
    refine (len_ ws2 g2 (g2 + 1) 0 S.key Ay cy _ HY23.out).mono ?_
    rintro e w25 ⟨rfl, rfl⟩
    go_wp2
    go_ret
    exact ⟨rfl, Below.trans hbw6 (Below.mono hbF hbw6.size)⟩
  obtain ⟨l0_, lt_, hLc⟩ : ∃ a t, L = a :: t := by
    cases L with
    | nil => have := HLN.out; simp at this; omega
    | cons a t => exact ⟨a, t, rfl⟩
  obtain ⟨l00, l01, l02⟩ := l0_
  obtain ⟨b8, rfl, hb8lo, hb8hi⟩ := own_some1 hown8 hpos0
  obtain ⟨cur, hcur, hcs, _, _, _, hcells⟩ := own_cells hown8
  rw [hLc] at hcells
  have hpos8 : decide ((0 : Int) < (LN : Int)) = true := by simp; omega
  have hpos9 : (0 : Int) < (LN : Int) := by omega
  have q0 := hcells 0 (.int .i64 l00) (by simp [cellsV, flatK, encV])
  have q1 := hcells 1 (.int .i64 l01) (by simp [cellsV, flatK, encV])
  have q2 := hcells 2 (.string l02) (by simp [cellsV, flatK, encV])
  have f0 := hcur.frozen 0
  have f1 := hcur.frozen 1
  have f2 := hcur.frozen 2
  clear hcur hcs hcells hLc
  go_wp2_with fail
  obtain ⟨wE, hwE, hbE⟩ : ∃ wE, wE = ((w20.setCell ⟨b8, 0, none⟩ (.int .i64 2)).setCell ⟨b8, 1, none⟩ (.int .i64 77777)).setCell ⟨b8, 2, none⟩ (.string ⟨#[]⟩) ∧ Below w15.heap.size w20 wE := ⟨_, rfl, (((Below.refl _ _).setCell hb8lo _).setCell hb8lo _).setCell hb8lo _⟩
  rw [← hwE]
  clear hwE q0 q1 q2 f0 f1 f2
  have hbE := Below.trans hb20o hbE
  have HY9 := Lib.hid (HY5.out.ext hbE)
  have HX9 := Lib.hid (HX5.out.ext hbE)
  have HW9 := Lib.hid (own_ext HW5.out hbE)
  have hb9 := Below.trans hb5 (Below.mono hbE hb5.size)
  clear hown8 hb20a hbE hb8lo hb8hi
  refine (from_ ws2 ⟨0, 0, ⟨#[]⟩⟩ 99 g2 (g2 + 1) 0 S.key Ay cy _ HY9.out (by omega)).mono ?_
  rintro e w22 ⟨A9, c9, rfl, hown9, hb22⟩
  rw [HL.out, HLN.out] at hown9 ⊢
  have HWS9 := Lib.hid ((Vs.of_own (own_ext HW9.out hb22)).base (Nat.zero_le _))
  have hVl := (Vs.of_own hown9).base (Nat.zero_le _)
  have HX22 := Lib.hid (HX9.out.ext hb22)
  have HY22 := Lib.hid (HY9.out.ext hb22)
  have hbF := Below.trans hb9 (Below.mono hb22 hb9.size)
  clear hown9 hb22
  go_wp2_with fail
  refine (rrowSame_ L 0 0 A9 Aw LN c9 LN cw _ (by omega) hVl HWS9.out).mono ?_
  rintro e w23 ⟨rfl, hb23⟩
  have HX23 := Lib.hid (HX22.out.ext hb23)
  have HY23 := Lib.hid (HY22.out.ext hb23)
  have hbF := Below.trans hbF (Below.mono hb23 hbF.size)
  clear hb23 hVl
  go_wp2_with fail
  refine (len_ ws5 g (g + 1) S.key S.key A5 c5 _ HX23.out).mono ?_
  rintro e w24 ⟨rfl, rfl⟩
  go_wp2_with fail
  refine (len_ ws2 g2 (g2 + 1) 0 S.key Ay cy _ HY23.out).mono ?_
  rintro e w25 ⟨rfl, rfl⟩
  go_wp2
  go_ret
  exact ⟨rfl, Below.trans hbw6 (Below.mono hbF hbw6.size)⟩
end Go.Proofs.Ytnlmbjmgmofeiaa.ix
