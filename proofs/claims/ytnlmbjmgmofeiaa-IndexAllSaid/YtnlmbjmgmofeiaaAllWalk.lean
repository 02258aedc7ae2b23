/- IndexAll: the walk. Printed by genlaw11.py. -/
import Derived.Test.YtnlmbjmgmofeiaaI16
import Derived.Test.YtnlmbjmgmofeiaaTArg
namespace Go.Proofs.Ytnlmbjmgmofeiaa.ix
open Go.ChangeShapes Go.WideShapes Go.ChangeAt Go.RowKit Go.Proofs.Ytnlmbjmgmofeiaa.lib Go.Proofs.Ytnlmbjmgmofeiaa.val Go.Proofs.Ytnlmbjmgmofeiaa.tb
set_option linter.unusedVariables false

set_option maxRecDepth 1000000 in
set_option maxHeartbeats 8000000 in
theorem all_walk (s : ByteArray) (A : Option Addr) (n c : Nat) (l : List Col) (key : Int) (only : Bool) (Ai : Option Addr) (ni ci : Nat) (zs : List Int) (pc : Int) (w : World) (hs : s.size ≤ maxLen) (hC : Cs w 0 A n c l) (hn : n ≤ maxLen) (hp : ∀ x ∈ l, RawC x) (hkey : ok64 key) (hI : Row w 0 Ai ni ci (flatK encI zs)) (hni : zs.length = ni) (hi2 : ni ≤ maxLen) (hz : ∀ x ∈ zs, ok64 x) (hpc : ok64 pc) :
    Calls Try.prog 3 #[.agg #[.string s, .slice A n c, .int .i64 key, .bool only], .slice Ai ni ci, .int .i64 pc] w fun e W' => e = .returned (.bool true) ∧ Below w.heap.size w W' := by
  obtain ⟨i0, hi, hy0, hy1, hy2⟩ := info_parts (P := Try.prog) (e := 41) (z := .agg #[.int .i64 0, .int .i64 0, .string ⟨#[]⟩]) (size := 3) (bytes := 32) (by kernel_rfl)
  go_enter Try.func3, Try.ntmps3
  go_upto_region 1 with fail
  obtain ⟨W0, hW_, hbW0, BS⟩ : ∃ W_, W_ = (w.alloc (.cells #[.string s, .slice A n c, .int .i64 key, .bool only] 24)) ∧ Below w.heap.size w W_ ∧ Blk W_ (w.heap.size) 24 #[.string s, .slice A n c, .int .i64 key, .bool only] :=
    ⟨_, rfl, ((Below.refl _ _).alloc (Nat.le_refl _) _), (blk_new_at w (w.heap.size) _ _ (by simp))⟩
  rw [← hW_]
  clear hW_
  go_wp2_with fail
  refine (known11_ _).mono ?_
  rintro e w1 ⟨rfl, hb1⟩
  have hbw1 := Below.trans hbW0 (Below.mono hb1 hbW0.size)
  have BS := BS.ext hb1
  clear hbW0 hb1
  have q := four BS (Below.refl _ _)
  go_wp2_with fail
  refine (few9_ s A n c l key only _ hs (hC.ext hbw1) hn (fun x hx => (hp x hx).s)).mono ?_
  rintro e w2 ⟨⟨b, rfl⟩, hb2⟩
  have hbw2 := Below.trans hbw1 (Below.mono hb2 hbw1.size)
  have BS := BS.ext hb2
  clear hbw1 hb2 q
  by_cases hbt : b = true
  case neg =>
    obtain rfl : b = false := by cases b with | false => rfl | true => exact absurd rfl hbt
    go_wp2
    go_ret
    exact ⟨rfl, hbw2⟩
  subst hbt
  have q := four BS (Below.refl _ _)
  go_wp2_with fail
  refine (good9_ s A n c l key only _ (hC.ext hbw2) hn hp hkey).mono ?_
  rintro e w3 ⟨A7, c7, rfl, hC7, hF7, hb3⟩
  have hbw3 := Below.trans hbw2 (Below.mono hb3 hbw2.size)
  have hS : SOk (goodS l key only) := good_ok l key only
  generalize goodS l key only = S at *
  have hC7 := hC7.base (Nat.zero_le _)
  clear hbw2 hb3 q BS hs hC hn hp hkey
  have h6 := hS.six
  have hpos := hS.pos
  have hn7 : S.cols.length ≤ 100 := by omega
  simp only [schA]
  go_wp2_with fail
  obtain ⟨W4, hW_, hbW4, B7⟩ : ∃ W_, W_ = (w3.alloc (.cells #[.string S.name, .slice A7 S.cols.length c7, .int .i64 S.key, .bool S.only] 24)) ∧ Below w3.heap.size w3 W_ ∧ Blk W_ (w3.heap.size) 24 #[.string S.name, .slice A7 S.cols.length c7, .int .i64 S.key, .bool S.only] :=
    ⟨_, rfl, ((Below.refl _ _).alloc (Nat.le_refl _) _), (blk_new_at w3 (w3.heap.size) _ _ (by simp))⟩
  rw [← hW_]
  clear hW_
  obtain ⟨g7, hg7⟩ : ∃ g, w3.heap.size = g := ⟨_, rfl⟩
  have hbw4 := Below.trans hbw3 (Below.mono hbW4 hbw3.size)
  have hC7 := hC7.ext hbW4
  rw [hg7] at B7 ⊢
  clear hg7 hbW4 hbw3 hF7
  obtain ⟨col, hcol, hcl⟩ : ∃ col : Nat, pc % (S.cols.length : Int) = (col : Int) ∧ col < S.cols.length := by
    have h1 := Int.emod_nonneg pc (by omega : (S.cols.length : Int) ≠ 0)
    have h2 := Int.emod_lt_of_pos pc (by omega : (0 : Int) < (S.cols.length : Int))
    exact ⟨(pc % (S.cols.length : Int)).toNat, by omega, by omega⟩
  refine (within11 pc (S.cols.length : Int) (col : Int) hcol _ (by omega) (by omega) hpc.1 hpc.2).mono ?_
  rintro e w5 ⟨rfl, rfl⟩
  clear hcol
  have q := four B7 (Below.refl _ _)
  go_wp2_with fail
  refine (fill_ S A7 c7 Ai ni ci zs _ hS hC7 (hI.ext hbw4) hni hi2 hz).mono ?_
  rintro e w6 ⟨rows, At, nt, ct, rfl, hR, hFt, hOk, hlen, hfd, hb6⟩
  have hlow6 := hbw4.size
  have hR := hR.base hlow6
  have hbw6 := Below.trans hbw4 (Below.mono hb6 hbw4.size)
  have B7 := B7.ext hb6
  have hC7 := hC7.ext hb6
  have hRN := hR.len
  have hnt : nt ≤ 50 := by omega
  have hrow : ∀ c, c < S.cols.length → ∀ r ∈ rows, RowN c S.key r := fun c hc r hr => rowN_of (hOk.fit r hr) (hfd r hr).num hc hS.key hn7
  clear hb6 q hbw4 hlow6
  simp only [tabA]
  go_wp2_with fail
  obtain ⟨W6, hW_, hbx6, BT⟩ : ∃ W_, W_ = (w6.alloc (.cells #[.string S.name, .slice A7 S.cols.length c7, .int .i64 S.key, .bool S.only, .slice At nt ct] 32)) ∧ Below w6.heap.size w6 W_ ∧ Blk W_ (w6.heap.size) 32 #[.string S.name, .slice A7 S.cols.length c7, .int .i64 S.key, .bool S.only, .slice At nt ct] :=
    ⟨_, rfl, ((Below.refl _ _).alloc (Nat.le_refl _) _), (blk_new_at w6 (w6.heap.size) _ _ (by simp))⟩
  rw [← hW_]
  clear hW_
  obtain ⟨gt, hgt⟩ : ∃ g, w6.heap.size = g := ⟨_, rfl⟩
  rw [hgt] at BT ⊢
  have hbw60 := hbw6
  have hbw6 := Below.trans hbw60 (Below.mono hbx6 hbw60.size)
  have B7 := B7.ext hbx6
  have hR := hR.ext hbx6
  have hC7 := hC7.ext hbx6
  clear hgt hbx6 hbw60
  have q := five BT (Below.refl _ _)
  go_wp2_with fail
  clear q
  refine (of_ S A7 S.cols.length c7 At nt ct _).mono ?_
  rintro e w7 ⟨rfl, hb7⟩
  have hbw7 := Below.trans hbw6 (Below.mono hb7 hbw6.size)
  have BT := BT.ext hb7
  have B7 := B7.ext hb7
  have hR := hR.ext hb7
  have hC7 := hC7.ext hb7
  simp only [tabA]
  go_wp2_with fail
  refine (build_ S rows col S.key _ A7 S.cols.length c7 At nt ct _ rfl hR (by omega) (hrow col hcl)).mono ?_
  rintro e w8 ⟨g, ws, Ax, cx, rfl, hx, hmap, hlo, hb8⟩
  have hbw8 := Below.trans hbw7 (Below.mono hb8 hbw7.size)
  have BT := BT.ext hb8
  have B7 := B7.ext hb8
  have hR := hR.ext hb8
  have hC7 := hC7.ext hb8
  have hwl : ws.length ≤ 50 := by
    have h4 := buildN_len col S.key rows rows.length
    rw [List.take_of_length_le (Nat.le_refl _), ← hmap, List.length_map] at h4
    omega
  have hwn : ws.length = nt := by
    have h4 := len_all (col := col) hOk.ord
    rw [← hmap, List.length_map] at h4
    omega
  have HWN := Lib.hid hwn
  have Hkw := Lib.hid (fun v => (congrArg (fun es => keysN es v) hmap).trans (keys_all (col := col) hOk.ord v))
  have HX := Lib.hid hx
  have HRW := Lib.hid (hrow col hcl)
  have HRN := Lib.hid hRN
  have q := five BT (Below.refl _ _)
  clear hx hmap hrow hfd hOk hb7 hb8 hwn hRN
  go_wp2_with fail
  clear q
  go_loopw [10] (fun i wr => ∃ k : Nat, i = .int .i64 k ∧ k ≤ nt ∧ Below w8.heap.size w8 wr) (fun i _ => nt - (intOf i).toNat)
  case atStart => exact ⟨0, rfl, Nat.zero_le _, Below.refl _ _⟩
  case round =>
    obtain ⟨k, rfl, hk, hbr⟩ := hrel
    have BTr := BT.ext hbr
    rcases Nat.lt_or_ge k nt with hlt | hge
    case inr =>
      have hd : decide ((k : Int) < (nt : Int)) = false := by simp; omega
      obtain rfl : k = nt := by omega
      have hl := fun w' (h : Below w8.heap.size w8 w') => len_ ws g (g + 1) col S.key Ax cx w' (HX.out.ext h)
      rw [HWN.out] at hl
      have q := five BTr (Below.refl _ _)
      go_wp2_with fail
      clear q
      have D := fun w' (h : Below wr.heap.size wr.drew w') => five BTr (Below.trans (Below.refl _ _).drew h)
      refine wp_region_one [(0, true), (2, true), (3, true), (4, true), (1, false), (5, true), (6, true)] (by kernel_rfl) (by kernel_rfl) (by kernel_rfl) (by decide) ?_
      repeat ((with_reducible show wpPerm _ _ _ _ ((_, true) :: _) _ _); (first | (refine wpPerm_on (v := ?_) rfl rfl (wanted_free rfl) (fun w' hS => ?_) ?_; rotate_left; (focus (go_simp; (try with_reducible rfl); done)); try simp only [List.setIfInBounds_toArray, List.set_cons_zero, List.set_cons_succ]) | (refine wpPerm_on (v := ?_) rfl rfl (wanted_yes rfl rfl rfl) (fun w' hS => ?_) ?_; rotate_left; (focus (go_simp; (try with_reducible rfl); done)); try simp only [List.setIfInBounds_toArray, List.set_cons_zero, List.set_cons_succ]) | (refine wpPerm_off rfl rfl (wanted_no rfl rfl rfl) ?_; try simp only [List.setIfInBounds_toArray, List.set_cons_zero, List.set_cons_succ]) | (refine wpPerm_off rfl rfl (wanted_undef rfl rfl rfl) ?_; try simp only [List.setIfInBounds_toArray, List.set_cons_zero, List.set_cons_succ])))
      refine wpPerm_do rfl (wanted_free rfl) (fun K hK => ?_); go_simp
      refine (hl _ (Below.trans hbr (Below.mono (Below.refl _ _).drew hbr.size))).mono ?_
      rintro e w9 ⟨rfl, rfl⟩
      refine hK.out _ _ (Below.refl _ _) ?_
      clear hK K
      repeat ((with_reducible show wpPerm _ _ _ _ ((_, true) :: _) _ _); (first | (refine wpPerm_on (v := ?_) rfl rfl (wanted_free rfl) (fun w' hS => ?_) ?_; rotate_left; (focus (go_simp; (try with_reducible rfl); done)); try simp only [List.setIfInBounds_toArray, List.set_cons_zero, List.set_cons_succ]) | (refine wpPerm_on (v := ?_) rfl rfl (wanted_yes rfl rfl rfl) (fun w' hS => ?_) ?_; rotate_left; (focus (go_simp; (try with_reducible rfl); done)); try simp only [List.setIfInBounds_toArray, List.set_cons_zero, List.set_cons_succ]) | (refine wpPerm_off rfl rfl (wanted_no rfl rfl rfl) ?_; try simp only [List.setIfInBounds_toArray, List.set_cons_zero, List.set_cons_succ]) | (refine wpPerm_off rfl rfl (wanted_undef rfl rfl rfl) ?_; try simp only [List.setIfInBounds_toArray, List.set_cons_zero, List.set_cons_succ])))
      refine wpPerm_done ?_
      go_wp2
      go_ret
      exact ⟨rfl, Below.trans hbw8 (Below.mono (Below.trans hbr (Below.mono (Below.refl _ _).drew hbr.size)) hbw8.size)⟩
    have hd : decide ((k : Int) < (nt : Int)) = true := by simp; omega
    have hkn : (k : Int) < (nt : Int) := by omega
    obtain ⟨x, hx⟩ : ∃ x, rows[k]? = some x := ⟨_, List.getElem?_eq_getElem (by rw [HRN.out]; exact hlt)⟩
    have hRo := hR.ext hbr
    obtain ⟨b, o, rfl, _, _, hbo⟩ := hRo.some_ (by omega)
    obtain ⟨A5, c5, q1o, v1o⟩ := hRo.at_ hx
    have hrn := HRW.out x (List.mem_of_getElem? hx)
    have RXc := hrn.colAt
    have hxc : (col : Int) < (x.length : Int) := by have := hrn.colLt; omega
    obtain ⟨b5, o5, rfl, _, _, hb5l⟩ := v1o.1.some_ (by have := hrn.colLt; omega)
    have hcx := hrn.ok.v.chk
    clear hrn hx
    have HKW := Lib.hid (Hkw.out (enR col S.key x).v)
    have q := five BTr (Below.refl _ _)
    go_wp2_with fail
    clear q
    have B7o := B7.ext hbr
    have BTo := BTr
    have hbo8 := hbr
    rename World => wo
    go_loopw [11, 12] (fun out i w' => ∃ (j : Nat) (L : List V), i = .int .i64 j ∧ j ≤ nt ∧ wantL col S.key (rows.take j) (enR col S.key x).v = L ∧ w'.ownsRow wo.heap.size 41 3 out L.length (cellsV L) ∧ Below wo.heap.size wo w') (fun _ i _ => nt - (intOf i).toNat)
    case atStart => exact ⟨0, [], rfl, Nat.zero_le _, by rw [List.take_zero]; rfl, World.ownsRow_nil _ _ _ _, Below.refl _ _⟩
    case round =>
      obtain ⟨j, L, rfl, hj, hL, hown, hbj⟩ := hrel
      rename World => wi
      obtain ⟨A2, c2, rfl⟩ := own_slice hown
      have HO := Lib.hid hown
      have HL := Lib.hid hL
      clear hown hL
      have hbi := Below.trans hbo8 (Below.mono hbj hbo8.size)
      have BTi := BTo.ext hbj
      have q1 := (hbj.cell (p := ⟨b, o + k, none⟩) hbo).trans q1o
      have v1 := v1o.ext hbj
      have q := five BTi (Below.refl _ _)
      rcases Nat.lt_or_ge j nt with hlt | hge
      case inr =>
        have hd : decide ((j : Int) < (nt : Int)) = false := by simp; omega
        obtain rfl : j = nt := by omega
        have hLw : wantL col S.key rows (enR col S.key x).v = L := by rw [← HL.out, List.take_of_length_le (by rw [HRN.out]; exact Nat.le_refl _)]
        have hkk := keys_ ws (enR col S.key x).v g (g + 1) col S.key Ax cx wi (HX.out.ext hbi) (by omega)
        rw [HKW.out, hLw] at hkk
        have hq3 := v1.at_ (RXc)
        have q := five BTi (Below.refl _ _)
        have hLn : L.length ≤ 50 := by
          rw [← hLw]
          exact Nat.le_trans (wantL_len _ _ _ _) (by rw [HRN.out]; omega)
        clear hLw
        go_wp2_with fail
        refine hkk.mono ?_
        rintro e w10 ⟨A3, c3, rfl, hown3, hb10⟩
        clear q hq3 hkk
        go_wp2_with fail
        refine (rrowSame_ L 0 0 A3 A2 L.length c3 L.length c2 _ (by omega) ((Vs.of_own hown3).base (Nat.zero_le _)) ((Vs.of_own (own_ext HO.out hb10)).base (Nat.zero_le _))).mono ?_
        rintro e w11 ⟨rfl, hb11⟩
        have hb12 := Below.trans hbi (Below.mono (Below.trans hb10 (Below.mono hb11 hb10.size)) hbi.size)
        clear hb10 hb11 hown3
        go_wp2
        go_roundw
        case rel => exact ⟨k + 1, by go_num, by omega, hb12⟩
        case measure => simp [intOf]; omega
      have hd : decide ((j : Int) < (nt : Int)) = true := by simp; omega
      have hjn : (j : Int) < (nt : Int) := by omega
      obtain ⟨y, hy⟩ : ∃ y, rows[j]? = some y := ⟨_, List.getElem?_eq_getElem (by rw [HRN.out]; exact hlt)⟩
      obtain ⟨A6, c6, q2, v2⟩ := hRo.at_ hy
      have hrn2 := HRW.out y (List.mem_of_getElem? hy)
      have RYc := hrn2.colAt
      have RYk := hrn2.keyAt
      have hyc : (col : Int) < (y.length : Int) := by have := hrn2.colLt; omega
      have hyk : (S.key : Int) < (y.length : Int) := by have := hrn2.keyLt; omega
      obtain ⟨b6, o6, rfl, _, _, hb6l⟩ := v2.1.some_ (by have := hrn2.colLt; omega)
      have hcy := hrn2.ok.v.chk
      have HY := Lib.hid hy
      have HWs := Lib.hid (fun h : cmpV (enR col S.key y).v (enR col S.key x).v ≠ 0 => (wantL_snoc (col := col) (key := S.key) (v := (enR col S.key x).v) hy).trans (if_neg h))
      clear hy hrn2
      go_wp2_with fail
      have D := fun w' (h : Below wi.heap.size wi.drew w') => five BTi (Below.trans (Below.refl _ _).drew h)
      have Dj := fun w' (h : Below wi.heap.size wi.drew w') => ((Below.trans hbj (Below.mono (Below.trans (Below.refl _ wi).drew h) hbj.size)).cell (p := ⟨b, o + j, none⟩) hbo).trans q2
      have Dk := fun w' (h : Below wi.heap.size wi.drew w') => ((Below.trans hbj (Below.mono (Below.trans (Below.refl _ wi).drew h) hbj.size)).cell (p := ⟨b, o + k, none⟩) hbo).trans q1o
      have Dy := fun w' (h : Below wi.heap.size wi.drew w') => (v2.ext (Below.trans hbj (Below.mono (Below.trans (Below.refl _ wi).drew h) hbj.size))).at_ RYc
      have Dx := fun w' (h : Below wi.heap.size wi.drew w') => (v1o.ext (Below.trans hbj (Below.mono (Below.trans (Below.refl _ wi).drew h) hbj.size))).at_ RXc
      refine wp_region_one [(0, true), (1, true), (2, true), (3, true), (4, true), (5, true), (6, true), (7, true), (8, true), (9, true), (10, true), (11, true), (12, true), (13, true), (14, true), (15, true), (16, false), (17, true)] (by kernel_rfl) (by kernel_rfl) (by kernel_rfl) (by decide) ?_
      repeat ((with_reducible show wpPerm _ _ _ _ ((_, true) :: _) _ _); (first | (refine wpPerm_on (v := ?_) rfl rfl (wanted_free rfl) (fun w' hS => ?_) ?_; rotate_left; (focus (go_simp; (try with_reducible rfl); done)); try simp only [List.setIfInBounds_toArray, List.set_cons_zero, List.set_cons_succ]) | (refine wpPerm_on (v := ?_) rfl rfl (wanted_yes rfl rfl rfl) (fun w' hS => ?_) ?_; rotate_left; (focus (go_simp; (try with_reducible rfl); done)); try simp only [List.setIfInBounds_toArray, List.set_cons_zero, List.set_cons_succ]) | (refine wpPerm_off rfl rfl (wanted_no rfl rfl rfl) ?_; try simp only [List.setIfInBounds_toArray, List.set_cons_zero, List.set_cons_succ]) | (refine wpPerm_off rfl rfl (wanted_undef rfl rfl rfl) ?_; try simp only [List.setIfInBounds_toArray, List.set_cons_zero, List.set_cons_succ])))
      refine wpPerm_do rfl (wanted_free rfl) (fun K hK => ?_); go_simp
      refine (rcmp_ (enR col S.key y).v (enR col S.key x).v _ (by have := (chk_form hcy).2.2.2.2.2; unfold maxLen; omega) (by have := (chk_form hcx).2.2.2.2.2; unfold maxLen; omega)).mono ?_
      rintro e w11 ⟨rfl, hb11⟩
      rw [rcmp_eq hcy hcx]
      refine hK.out _ _ hb11 ?_
      clear hK K
      repeat ((with_reducible show wpPerm _ _ _ _ ((_, true) :: _) _ _); (first | (refine wpPerm_on (v := ?_) rfl rfl (wanted_free rfl) (fun w' hS => ?_) ?_; rotate_left; (focus (go_simp; (try with_reducible rfl); done)); try simp only [List.setIfInBounds_toArray, List.set_cons_zero, List.set_cons_succ]) | (refine wpPerm_on (v := ?_) rfl rfl (wanted_yes rfl rfl rfl) (fun w' hS => ?_) ?_; rotate_left; (focus (go_simp; (try with_reducible rfl); done)); try simp only [List.setIfInBounds_toArray, List.set_cons_zero, List.set_cons_succ]) | (refine wpPerm_off rfl rfl (wanted_no rfl rfl rfl) ?_; try simp only [List.setIfInBounds_toArray, List.set_cons_zero, List.set_cons_succ]) | (refine wpPerm_off rfl rfl (wanted_undef rfl rfl rfl) ?_; try simp only [List.setIfInBounds_toArray, List.set_cons_zero, List.set_cons_succ])))
      refine wpPerm_done ?_
      clear D Dj Dk Dy Dx
      have hb11i := Below.trans ((Below.refl wi.heap.size wi).drew) hb11
      have hb11o := Below.trans hbj (Below.mono hb11i hbj.size)
      clear hb11
      by_cases hc : cmpV (enR col S.key y).v (enR col S.key x).v = 0
      case neg =>
        have hqc : (cmpV (enR col S.key y).v (enR col S.key x).v == 0) = false := by simpa using hc
        have HC := Lib.hid hc
        clear hc
        go_wp2
        go_roundw
        case rel => exact ⟨j + 1, L, by go_num, by omega, by rw [HWs.out HC.out]; exact HL.out, own_ext HO.out hb11i, hb11o⟩
        case measure => simp [intOf]; omega
      have hqc : (cmpV (enR col S.key y).v (enR col S.key x).v == 0) = true := by simpa using hc
      have HC := Lib.hid hc
      clear hc
      have HOp := Lib.hid HO.out
      have hwn : wantL col S.key (rows.take (j + 1)) (enR col S.key x).v = L ++ [(enR col S.key y).k] := by rw [wantL_snoc HY.out, if_pos HC.out, HL.out]
      have HWn := Lib.hid hwn
      clear hwn
      have hLn : L.length ≤ 50 := by
        rw [← HL.out]
        exact Nat.le_trans (wantL_len _ _ _ _) (by rw [List.length_take]; omega)
      go_wp2_with fail
      clear hqc
      have hbd : Below wo.heap.size wo w11.drew := hb11o.drew
      have D := fun w' (h : Below wo.heap.size wo w') => five BTo h
      have D7 := fun w' (h : Below wo.heap.size wo w') => four B7o h
      have Dy := fun w' (h : Below wo.heap.size wo w') => (h.cell (p := ⟨b, o + j, none⟩) hbo).trans q2
      have Dk := fun w' (h : Below wo.heap.size wo w') => (v2.ext h).at_ RYk
      refine wp_region_oneS (S := fun w' => Below wo.heap.size wo w') [(0, true), (1, true), (2, true), (3, true), (4, true), (5, true), (6, true), (7, true), (8, true), (9, true), (10, false), (11, false), (12, true)] (by kernel_rfl) (by kernel_rfl) (by kernel_rfl) (by decide) hbd ?_
      repeat ((with_reducible show wpPerm _ _ _ _ ((_, true) :: _) _ _); (first | (refine wpPerm_on (v := ?_) rfl rfl (wanted_free rfl) (fun w' hS => ?_) ?_; rotate_left; (focus (go_simp; (try with_reducible rfl); done)); try simp only [List.setIfInBounds_toArray, List.set_cons_zero, List.set_cons_succ]) | (refine wpPerm_on (v := ?_) rfl rfl (wanted_yes rfl rfl rfl) (fun w' hS => ?_) ?_; rotate_left; (focus (go_simp; (try with_reducible rfl); done)); try simp only [List.setIfInBounds_toArray, List.set_cons_zero, List.set_cons_succ]) | (refine wpPerm_off rfl rfl (wanted_no rfl rfl rfl) ?_; try simp only [List.setIfInBounds_toArray, List.set_cons_zero, List.set_cons_succ]) | (refine wpPerm_off rfl rfl (wanted_undef rfl rfl rfl) ?_; try simp only [List.setIfInBounds_toArray, List.set_cons_zero, List.set_cons_succ])))
      clear D D7 Dy Dk
      refine wpPerm_do rfl (wanted_free rfl) (fun K hK => ?_); go_simp
      refine hK.out _ _ (hbd.alloc hbd.size _) ?_
      clear hK K
      have hbe := fun ob => hbd.alloc hbd.size ob
      refine wpPerm_do rfl (wanted_free rfl) (fun K hK => ?_)
      refine wp_append_own _ (.tmp 64) (.tmp 74) 38 rfl wo.heap.size 41 i0 _ 3 32 Try.underlying38 hi hy0 hy1 hy2 rfl (by decide) _ L.length (cellsV L) rfl ((own_ext HO.out hb11i.drew).alloc _) ⟨w11.drew.heap.size, 0, none⟩ 1 1 (encV (enR col S.key y).k) rfl rfl (Row.of_blk (Blk.new _ _ _) (Nat.zero_le _) 1 1 (Nat.le_refl _)).src (fun u hu => oneV [(enR col S.key y).k] u (by simpa [cellsV, flatK_one] using hu)) (by unfold maxLen; omega) (by omega) (hbe _).size ?_
      intro v' wc hown hgrow _
      obtain ⟨A4, c4, rfl⟩ := own_slice hown
      have hbf := (hbd.alloc hbd.size _).grown hgrow (hbd.alloc hbd.size _).size (fun m h => ((HO.out.lt m h).1))
      refine hK.out _ _ hbf ?_
      clear hK K hgrow hbe
      repeat ((with_reducible show wpPerm _ _ _ _ ((_, true) :: _) _ _); (first | (refine wpPerm_on (v := ?_) rfl rfl (wanted_free rfl) (fun w' hS => ?_) ?_; rotate_left; (focus (go_simp; (try with_reducible rfl); done)); try simp only [List.setIfInBounds_toArray, List.set_cons_zero, List.set_cons_succ]) | (refine wpPerm_on (v := ?_) rfl rfl (wanted_yes rfl rfl rfl) (fun w' hS => ?_) ?_; rotate_left; (focus (go_simp; (try with_reducible rfl); done)); try simp only [List.setIfInBounds_toArray, List.set_cons_zero, List.set_cons_succ]) | (refine wpPerm_off rfl rfl (wanted_no rfl rfl rfl) ?_; try simp only [List.setIfInBounds_toArray, List.set_cons_zero, List.set_cons_succ]) | (refine wpPerm_off rfl rfl (wanted_undef rfl rfl rfl) ?_; try simp only [List.setIfInBounds_toArray, List.set_cons_zero, List.set_cons_succ])))
      refine wpPerm_done ?_
      have HO4 := Lib.hid hown
      clear hown
      go_wp2
      go_roundw
      case rel => exact ⟨j + 1, L ++ [(enR col S.key y).k], by go_num, by omega, HWn.out, by rw [List.length_append]; unfold cellsV; rw [flatK_append, flatK_one]; exact HO4.out, hbf⟩
      case measure => simp [intOf]; omega
end Go.Proofs.Ytnlmbjmgmofeiaa.ix
