/- IndexPlays: the walk. Printed by genlaw11.py. -/
import Derived.Test.YtnlmbjmgmofeiaaMH
import Derived.Lib.MinMax
import Derived.Test.YtnlmbjmgmofeiaaTArg
namespace Go.Proofs.Ytnlmbjmgmofeiaa.ix
open Go.ChangeShapes Go.WideShapes Go.ChangeAt Go.RowKit Go.Proofs.Ytnlmbjmgmofeiaa.lib Go.Proofs.Ytnlmbjmgmofeiaa.val Go.Proofs.Ytnlmbjmgmofeiaa.tb
set_option linter.unusedVariables false

set_option maxRecDepth 1000000 in
set_option maxHeartbeats 8000000 in
theorem plays_walk (s : ByteArray) (A : Option Addr) (n c : Nat) (l : List Col) (key : Int) (only : Bool) (Ai : Option Addr) (ni ci : Nat) (zs : List Int) (pc : Int) (Am : Option Addr) (nm cm : Nat) (ms : List Int) (Ad : Option Addr) (nd cd : Nat) (bs : List Bool) (Ak : Option Addr) (nk ck : Nat) (as_ : List Int) (w : World) (hs : s.size ≤ maxLen) (hC : Cs w 0 A n c l) (hn : n ≤ maxLen) (hp : ∀ x ∈ l, RawC x) (hkey : ok64 key) (hI : Row w 0 Ai ni ci (flatK encI zs)) (hni : zs.length = ni) (hi2 : ni ≤ maxLen) (hz : ∀ x ∈ zs, ok64 x) (hpc : ok64 pc) (hM : Row w 0 Am nm cm (flatK encI ms)) (hnm : ms.length = nm) (hm2 : nm ≤ maxLen) (hmz : ∀ x ∈ ms, ok64 x) (hD : Row w 0 Ad nd cd (flatK encB bs)) (hnd : bs.length = nd) (hd2 : nd ≤ maxLen) (hK : Row w 0 Ak nk ck (flatK encI as_)) (hnk : as_.length = nk) (hk2 : nk ≤ maxLen) (hkz : ∀ x ∈ as_, ok64 x) :
    Calls Try.prog 6 #[.agg #[.string s, .slice A n c, .int .i64 key, .bool only], .slice Ai ni ci, .int .i64 pc, .slice Am nm cm, .slice Ad nd cd, .slice Ak nk ck] w fun e W' => e = .returned (.bool true) ∧ Below w.heap.size w W' := by
  go_enter Try.func6, Try.ntmps6
  go_upto_region 1 with fail
  obtain ⟨W0, hW_, hbW0, BS⟩ : ∃ W_, W_ = (w.alloc (.cells #[.string s, .slice A n c, .int .i64 key, .bool only] 24)) ∧ Below w.heap.size w W_ ∧ Blk W_ (w.heap.size) 24 #[.string s, .slice A n c, .int .i64 key, .bool only] :=
    ⟨_, rfl, ((Below.refl _ _).alloc (Nat.le_refl _) _), (blk_new_at w (w.heap.size) _ _ (by simp))⟩
  rw [← hW_]
  clear hW_
  go_wp2_with fail
  refine (known11_ _).mono ?_
  rintro e w1 ⟨rfl, hb1⟩
  have hbw1 := Below.trans hbW0 (Below.mono hb1 hbW0.size)
  have BS := BS.ext hb1
  clear hbW0 hb1
  have q := four BS (Below.refl _ _)
  go_wp2_with fail
  refine (few9_ s A n c l key only _ hs (hC.ext hbw1) hn (fun x hx => (hp x hx).s)).mono ?_
  rintro e w2 ⟨⟨b, rfl⟩, hb2⟩
  have hbw2 := Below.trans hbw1 (Below.mono hb2 hbw1.size)
  have BS := BS.ext hb2
  clear hbw1 hb2 q
  by_cases hbt : b = true
  case neg =>
    obtain rfl : b = false := by cases b with | false => rfl | true => exact absurd rfl hbt
    go_wp2
    go_ret
    exact ⟨rfl, hbw2⟩
  subst hbt
  have q := four BS (Below.refl _ _)
  go_wp2_with fail
  refine (good9_ s A n c l key only _ (hC.ext hbw2) hn hp hkey).mono ?_
  rintro e w3 ⟨A7, c7, rfl, hC7, hF7, hb3⟩
  have hbw3 := Below.trans hbw2 (Below.mono hb3 hbw2.size)
  have hS : SOk (goodS l key only) := good_ok l key only
  generalize goodS l key only = S at *
  have hC7 := hC7.base (Nat.zero_le _)
  clear hbw2 hb3 q BS hs hC hn hp hkey
  have h6 := hS.six
  have hpos := hS.pos
  have hn7 : S.cols.length ≤ 100 := by omega
  simp only [schA]
  go_wp2_with fail
  obtain ⟨W4, hW_, hbW4, B7⟩ : ∃ W_, W_ = (w3.alloc (.cells #[.string S.name, .slice A7 S.cols.length c7, .int .i64 S.key, .bool S.only] 24)) ∧ Below w3.heap.size w3 W_ ∧ Blk W_ (w3.heap.size) 24 #[.string S.name, .slice A7 S.cols.length c7, .int .i64 S.key, .bool S.only] :=
    ⟨_, rfl, ((Below.refl _ _).alloc (Nat.le_refl _) _), (blk_new_at w3 (w3.heap.size) _ _ (by simp))⟩
  rw [← hW_]
  clear hW_
  obtain ⟨g7, hg7⟩ : ∃ g, w3.heap.size = g := ⟨_, rfl⟩
  have hbw4 := Below.trans hbw3 (Below.mono hbW4 hbw3.size)
  have hC7 := hC7.ext hbW4
  rw [hg7] at B7 ⊢
  clear hg7 hbW4 hbw3 hF7
  obtain ⟨i0, hi, hy0, hy1, hy2⟩ := info_parts (P := Try.prog) (e := 41) (z := .agg #[.int .i64 0, .int .i64 0, .string ⟨#[]⟩]) (size := 3) (bytes := 32) (by kernel_rfl)
  have HB7 := Lib.hid B7
  have HC7 := Lib.hid hC7
  have HM := Lib.hid (hM.ext hbw4)
  have HD := Lib.hid (hD.ext hbw4)
  have HK := Lib.hid (hK.ext hbw4)
  have HNM := Lib.hid hnm
  have HND := Lib.hid hnd
  have HNK := Lib.hid hnk
  have HMZ := Lib.hid hmz
  have HKZ := Lib.hid hkz
  clear hM hD hK hnm hnd hnk hmz hkz
  obtain ⟨col, hcol, hcl⟩ : ∃ col : Nat, pc % (S.cols.length : Int) = (col : Int) ∧ col < S.cols.length := by
    have h1 := Int.emod_nonneg pc (by omega : (S.cols.length : Int) ≠ 0)
    have h2 := Int.emod_lt_of_pos pc (by omega : (0 : Int) < (S.cols.length : Int))
    exact ⟨(pc % (S.cols.length : Int)).toNat, by omega, by omega⟩
  refine (within11 pc (S.cols.length : Int) (col : Int) hcol _ (by omega) (by omega) hpc.1 hpc.2).mono ?_
  rintro e w5 ⟨rfl, rfl⟩
  clear hcol
  have q := four B7 (Below.refl _ _)
  go_wp2_with fail
  refine (fillO_ S A7 c7 Ai ni ci zs _ hS hC7 (hI.ext hbw4) hni hi2 hz).mono ?_
  rintro e w6 ⟨rows0, At, nt, ct, rfl, hRS, hOk, hlen, hfd, hb6⟩
  have hRN := hRS.len
  clear q
  simp only [tabA]
  go_wp2_with fail
  obtain ⟨W6, hW_, hbx6, BT⟩ : ∃ W_, W_ = (w6.alloc (.cells #[.string S.name, .slice A7 S.cols.length c7, .int .i64 S.key, .bool S.only, .slice At nt ct] 32)) ∧ Below w6.heap.size w6 W_ ∧ Blk W_ (w6.heap.size) 32 #[.string S.name, .slice A7 S.cols.length c7, .int .i64 S.key, .bool S.only, .slice At nt ct] :=
    ⟨_, rfl, ((Below.refl _ _).alloc (Nat.le_refl _) _), (blk_new_at w6 (w6.heap.size) _ _ (by simp))⟩
  rw [← hW_]
  clear hW_
  obtain ⟨gt, hgt, hgtl⟩ : ∃ g, w6.heap.size = g ∧ W4.heap.size ≤ g := ⟨_, rfl, hb6.size⟩
  rw [hgt] at BT ⊢
  have hb46 := Below.trans hb6 (Below.mono hbx6 hb6.size)
  have hRS := hRS.ext hbx6
  have hrow : ∀ r ∈ rows0, RowN col S.key r := fun r hr => rowN_of (hOk.fit r hr) (hfd r hr).num hcl hS.key hn7
  have HRK := Lib.hid hrow
  clear hgt hbx6 hb6 hrow
  go_wp2_with fail
  have D := fun w' (h : Below W6.heap.size W6.drew w') => five BT (Below.trans (Below.refl _ _).drew h)
  refine wp_region_one [(0, true), (2, true), (4, true), (5, true), (1, false), (3, false), (6, false), (7, true), (8, true)] (by kernel_rfl) (by kernel_rfl) (by kernel_rfl) (by decide) ?_
  repeat ((with_reducible show wpPerm _ _ _ _ ((_, true) :: _) _ _); (first | (refine wpPerm_on (v := ?_) rfl rfl (wanted_free rfl) (fun w' hS => ?_) ?_; rotate_left; (focus (go_simp; (try with_reducible rfl); done)); try simp only [List.setIfInBounds_toArray, List.set_cons_zero, List.set_cons_succ]) | (refine wpPerm_on (v := ?_) rfl rfl (wanted_yes rfl rfl rfl) (fun w' hS => ?_) ?_; rotate_left; (focus (go_simp; (try with_reducible rfl); done)); try simp only [List.setIfInBounds_toArray, List.set_cons_zero, List.set_cons_succ]) | (refine wpPerm_off rfl rfl (wanted_no rfl rfl rfl) ?_; try simp only [List.setIfInBounds_toArray, List.set_cons_zero, List.set_cons_succ]) | (refine wpPerm_off rfl rfl (wanted_undef rfl rfl rfl) ?_; try simp only [List.setIfInBounds_toArray, List.set_cons_zero, List.set_cons_succ])))
  refine wpPerm_do rfl (wanted_free rfl) (fun K hK => ?_); go_simp
  refine (of_ S A7 S.cols.length c7 At nt ct _).mono ?_
  rintro e w7 ⟨rfl, hb7⟩
  refine hK.out _ _ hb7 ?_
  clear hK K
  simp only [tabA]
  refine wpPerm_do rfl (wanted_free rfl) (fun K hK => ?_); go_simp
  refine (build_ S rows0 col S.key _ A7 S.cols.length c7 At nt ct _ rfl (hRS.rs.ext (Below.trans (Below.refl _ _).drew hb7)) (by omega) HRK.out).mono ?_
  rintro e w8 ⟨g, ws, Ax, cx, rfl, hx, hmap, hlo, hb8⟩
  have hb78 := Below.trans hb7 (Below.mono hb8 hb7.size)
  refine hK.out _ _ hb78 ?_
  clear hK K
  refine wpPerm_do rfl (wanted_free rfl) (fun K hK => ?_); go_simp
  refine (rbuild_ S rows0 col S.key _ A7 S.cols.length c7 At nt ct _ rfl (hRS.rs.ext (Below.trans (Below.refl _ _).drew hb78)) (by omega) HRK.out hOk.ord).mono ?_
  rintro e w9 ⟨gy, Ay, cy, rfl, hy, hlo2, hb9⟩
  have hb79 := Below.trans hb78 (Below.mono hb9 hb78.size)
  refine hK.out _ _ hb79 ?_
  clear hK K
  repeat ((with_reducible show wpPerm _ _ _ _ ((_, true) :: _) _ _); (first | (refine wpPerm_on (v := ?_) rfl rfl (wanted_free rfl) (fun w' hS => ?_) ?_; rotate_left; (focus (go_simp; (try with_reducible rfl); done)); try simp only [List.setIfInBounds_toArray, List.set_cons_zero, List.set_cons_succ]) | (refine wpPerm_on (v := ?_) rfl rfl (wanted_yes rfl rfl rfl) (fun w' hS => ?_) ?_; rotate_left; (focus (go_simp; (try with_reducible rfl); done)); try simp only [List.setIfInBounds_toArray, List.set_cons_zero, List.set_cons_succ]) | (refine wpPerm_off rfl rfl (wanted_no rfl rfl rfl) ?_; try simp only [List.setIfInBounds_toArray, List.set_cons_zero, List.set_cons_succ]) | (refine wpPerm_off rfl rfl (wanted_undef rfl rfl rfl) ?_; try simp only [List.setIfInBounds_toArray, List.set_cons_zero, List.set_cons_succ])))
  refine wpPerm_done ?_
  clear D
  have hwl : ws.length ≤ 50 := by
    have h4 := buildN_len col S.key rows0 rows0.length
    rw [List.take_of_length_le (Nat.le_refl _), ← hmap, List.length_map] at h4
    omega
  have hb69 := Below.trans ((Below.refl W6.heap.size W6).drew) hb79
  have HP0 := Lib.hid (show PS W4 w9 S A7 c7 gt g gy col 0 rows0 At nt ct ws Ax cx Ay cy from ⟨Below.trans hb46 (Below.mono hb69 hb46.size), BT.ext hb69, hRS.ext hb69, hOk, by omega, hfd, hx.ext hb9, by rw [hmap]; exact hy, by rw [hmap]; exact fun x hx => mem_buildN hx, by omega⟩)
  have hg4 : W4.heap.size ≤ g ∧ W4.heap.size ≤ gy ∧ W4.heap.size ≤ gt := ⟨Nat.le_trans hb46.size (Nat.le_trans hb7.size hlo), Nat.le_trans hb46.size (Nat.le_trans hb78.size hlo2), hgtl⟩
  have hg41 := hg4.1
  have hg42 := hg4.2.1
  clear hx hy hmap hlo hlo2 hb7 hb8 hb9 hb78 hb79 hb69 hwl hRS hRN hOk hfd hlen BT hb46 HRK hI hni hi2 hz B7 hC7
  go_wp2_with fail
  go_loopw [17] (fun i wr => ∃ k : Nat, i = .int .i64 k ∧ k ≤ nm ∧ k ≤ 30 ∧ PInv W4 wr S A7 c7 gt g gy col k) (fun i _ => nm - (intOf i).toNat)
  case atStart => exact ⟨0, rfl, Nat.zero_le _, Nat.zero_le _, _, _, _, _, _, _, _, _, _, HP0.out⟩
  case round =>
    clear HP0
    obtain ⟨k, rfl, hk, hk30, rows, At, nt, ct, ws, Ax, cx, Ay, cy, hP⟩ := hrel
    have HP := Lib.hid hP
    have hbr := hP.hb
    clear hP
    by_cases hgo : k < nm ∧ k < 30
    case neg =>
      have hcond : (¬ k < nm ∧ decide ((k : Int) < (nm : Int)) = false) ∨ (k < nm ∧ decide ((k : Int) < (nm : Int)) = true ∧ ¬ k < 30 ∧ decide ((k : Int) < 30) = false) := by
        by_cases h : k < nm
        · exact .inr ⟨h, by simp; omega, by omega, by simp; omega⟩
        · exact .inl ⟨h, by simp; omega⟩
      clear hgo
      rcases hcond with ⟨hq0, hd1⟩ | ⟨hq0, hd1, hq1, hd2⟩
      all_goals
        go_wp2
        go_ret
        exact ⟨rfl, Below.trans hbw4 (Below.mono hbr hbw4.size)⟩
    obtain ⟨hgo1, hgo2⟩ := hgo
    have hd1 : decide ((k : Int) < (nm : Int)) = true := by simp; omega
    have hd2 : decide ((k : Int) < 30) = true := by simp; omega
    have hknm : (k : Int) < (nm : Int) := by omega
    obtain ⟨x, hx⟩ : ∃ x, ms[k]? = some x := ⟨_, List.getElem?_eq_getElem (by rw [HNM.out]; exact hgo1)⟩
    have hx64 := HMZ.out x (List.mem_of_getElem? hx)
    obtain ⟨bm, om, rfl, _, _, _⟩ := HM.out.some_ (by omega)
    have hxc := flatK_at encI 1 (fun _ => rfl) ms k x 0 _ hx rfl
    have HXC := Lib.hid hxc
    clear hxc hx
    have B7r := HB7.out.ext hbr
    go_wp2_with fail
    have D7 := fun w' (h : Below wr.heap.size wr.drew w') => four B7r (Below.trans (Below.refl _ _).drew h)
    have D2 := fun w' (h : Below wr.heap.size wr.drew w') => (HM.out.ext (Below.trans hbr (Below.mono (Below.trans (Below.refl _ wr).drew h) hbr.size))).at_ HXC.out
    simp only [Nat.mul_one, Nat.add_zero] at D2
    refine wp_region_one [(0, true), (1, true), (2, true), (3, true), (4, true), (5, false), (6, true)] (by kernel_rfl) (by kernel_rfl) (by kernel_rfl) (by decide) ?_
    repeat ((with_reducible show wpPerm _ _ _ _ ((_, true) :: _) _ _); (first | (refine wpPerm_on (v := ?_) rfl rfl (wanted_free rfl) (fun w' hS => ?_) ?_; rotate_left; (focus (go_simp; (try with_reducible rfl); done)); try simp only [List.setIfInBounds_toArray, List.set_cons_zero, List.set_cons_succ]) | (refine wpPerm_on (v := ?_) rfl rfl (wanted_yes rfl rfl rfl) (fun w' hS => ?_) ?_; rotate_left; (focus (go_simp; (try with_reducible rfl); done)); try simp only [List.setIfInBounds_toArray, List.set_cons_zero, List.set_cons_succ]) | (refine wpPerm_off rfl rfl (wanted_no rfl rfl rfl) ?_; try simp only [List.setIfInBounds_toArray, List.set_cons_zero, List.set_cons_succ]) | (refine wpPerm_off rfl rfl (wanted_undef rfl rfl rfl) ?_; try simp only [List.setIfInBounds_toArray, List.set_cons_zero, List.set_cons_succ])))
    refine wpPerm_do rfl (wanted_free rfl) (fun K hK => ?_); go_simp
    refine (fit_ S 0 A7 S.cols.length c7 x _ (HC7.out.ext hbr.drew) hn7 hS.kinds hx64.1 hx64.2).mono ?_
    rintro e w1 ⟨Ar, cr, rfl, hown1, hb1⟩
    refine hK.out _ _ hb1 ?_
    clear hK K
    repeat ((with_reducible show wpPerm _ _ _ _ ((_, true) :: _) _ _); (first | (refine wpPerm_on (v := ?_) rfl rfl (wanted_free rfl) (fun w' hS => ?_) ?_; rotate_left; (focus (go_simp; (try with_reducible rfl); done)); try simp only [List.setIfInBounds_toArray, List.set_cons_zero, List.set_cons_succ]) | (refine wpPerm_on (v := ?_) rfl rfl (wanted_yes rfl rfl rfl) (fun w' hS => ?_) ?_; rotate_left; (focus (go_simp; (try with_reducible rfl); done)); try simp only [List.setIfInBounds_toArray, List.set_cons_zero, List.set_cons_succ]) | (refine wpPerm_off rfl rfl (wanted_no rfl rfl rfl) ?_; try simp only [List.setIfInBounds_toArray, List.set_cons_zero, List.set_cons_succ]) | (refine wpPerm_off rfl rfl (wanted_undef rfl rfl rfl) ?_; try simp only [List.setIfInBounds_toArray, List.set_cons_zero, List.set_cons_succ])))
    refine wpPerm_done ?_
    clear D7 D2 B7r
    obtain ⟨r, hr⟩ : ∃ r, fitL S.cols x = r := ⟨_, rfl⟩
    obtain ⟨kv, hri⟩ := row_i hS x
    rw [hr] at hown1 hri
    have HFR := Lib.hid (show Fitd S.cols r from ⟨x, hr.symm⟩)
    have hri := Lib.hid hri
    have HRN := Lib.hid (rowN_of hri.out.fit HFR.out.num hcl hS.key hn7)
    have hb01 := Below.trans ((Below.refl wr.heap.size wr).drew) hb1
    have hVr : Vs w1 wr.heap.size Ar S.cols.length cr r := Vs.of_own hown1
    obtain ⟨br, or_, rfl, _, _, _⟩ := hVr.1.some_ (by omega)
    have HP1 := Lib.hid (HP.out.ext hb01)
    have HLX := Lib.hid (fun m (hm : (Value.slice Ax ws.length cx).ownBlock = some m) => (HP.out.ix.own.lt m hm).2)
    have hgL : g < wr.heap.size := HP.out.ix.blk.lt
    have hgtL : gt < wr.heap.size := HP.out.bt.lt
    have hkc : (S.key : Int) < (S.cols.length : Int) := by have := hS.key; omega
    have hntl := HP.out.ln
    have hwsl := HP.out.wl
    obtain ⟨HL, hHL⟩ : ∃ n, wr.heap.size = n := ⟨_, rfl⟩
    have hHL1 : HL ≤ w1.heap.size := by rw [← hHL]; exact hb01.size
    rw [hHL] at hVr HLX hgL hgtL
    clear hr hown1 hb1 hb01 HP hHL
    go_wp2_with fail
    have D := fun w' (h : Below w1.heap.size w1.drew w') => five HP1.out.bt (Below.trans (Below.refl _ _).drew h)
    have D7 := fun w' (h : Below w1.heap.size w1.drew w') => four (HB7.out.ext HP1.out.hb) (Below.trans (Below.refl _ _).drew h)
    have Dr := fun w' (h : Below w1.heap.size w1.drew w') => (hVr.ext (Below.trans (Below.refl _ _).drew h)).at_ hri.out.key
    refine wp_region_one [(0, true), (1, true), (2, true), (3, true), (4, true), (5, true), (6, false), (7, true), (8, true), (9, true), (10, true), (11, true)] (by kernel_rfl) (by kernel_rfl) (by kernel_rfl) (by decide) ?_
    repeat ((with_reducible show wpPerm _ _ _ _ ((_, true) :: _) _ _); (first | (refine wpPerm_on (v := ?_) rfl rfl (wanted_free rfl) (fun w' hS => ?_) ?_; rotate_left; (focus (go_simp; (try with_reducible rfl); done)); try simp only [List.setIfInBounds_toArray, List.set_cons_zero, List.set_cons_succ]) | (refine wpPerm_on (v := ?_) rfl rfl (wanted_yes rfl rfl rfl) (fun w' hS => ?_) ?_; rotate_left; (focus (go_simp; (try with_reducible rfl); done)); try simp only [List.setIfInBounds_toArray, List.set_cons_zero, List.set_cons_succ]) | (refine wpPerm_off rfl rfl (wanted_no rfl rfl rfl) ?_; try simp only [List.setIfInBounds_toArray, List.set_cons_zero, List.set_cons_succ]) | (refine wpPerm_off rfl rfl (wanted_undef rfl rfl rfl) ?_; try simp only [List.setIfInBounds_toArray, List.set_cons_zero, List.set_cons_succ])))
    refine wpPerm_do rfl (wanted_free rfl) (fun K hK => ?_); go_simp
    refine (rget_ S rows kv _ A7 S.cols.length c7 At nt ct _ (HP1.out.rs.rs.ext (Below.refl _ _).drew) HP1.out.ok hn7 (by have := HP1.out.rs.len; omega) hri.out.chk).mono ?_
    rintro e w2 ⟨Ag, mg, cg, rfl, _, hb2⟩
    obtain ⟨iv, hiv⟩ : ∃ b, isL S.key kv rows = b := ⟨_, rfl⟩
    rw [hiv]
    have HIV := Lib.hid hiv
    clear hiv
    refine hK.out _ _ hb2 ?_
    clear hK K
    repeat ((with_reducible show wpPerm _ _ _ _ ((_, true) :: _) _ _); (first | (refine wpPerm_on (v := ?_) rfl rfl (wanted_free rfl) (fun w' hS => ?_) ?_; rotate_left; (focus (go_simp; (try with_reducible rfl); done)); try simp only [List.setIfInBounds_toArray, List.set_cons_zero, List.set_cons_succ]) | (refine wpPerm_on (v := ?_) rfl rfl (wanted_yes rfl rfl rfl) (fun w' hS => ?_) ?_; rotate_left; (focus (go_simp; (try with_reducible rfl); done)); try simp only [List.setIfInBounds_toArray, List.set_cons_zero, List.set_cons_succ]) | (refine wpPerm_off rfl rfl (wanted_no rfl rfl rfl) ?_; try simp only [List.setIfInBounds_toArray, List.set_cons_zero, List.set_cons_succ]) | (refine wpPerm_off rfl rfl (wanted_undef rfl rfl rfl) ?_; try simp only [List.setIfInBounds_toArray, List.set_cons_zero, List.set_cons_succ])))
    refine wpPerm_done ?_
    clear D D7 Dr
    have hb12 := Below.trans ((Below.refl w1.heap.size w1).drew) hb2
    have HP2 := Lib.hid (HP1.out.ext hb12)
    have hVr := hVr.ext hb12
    have hHL2 : HL ≤ w2.heap.size := Nat.le_trans hHL1 hb12.size
    clear HP1 hb2 hb12 hHL1
    obtain ⟨dv, hdv⟩ : ∃ b, (decide (k < nd) && bs.getD k false) = b := ⟨_, rfl⟩
    have HDV := Lib.hid hdv
    clear hdv
    go_upto_region 14 with fail
    go_cut [83] from 48 to 188 (fun s wx => s = .bool dv ∧ w2 = wx)
    case first =>
      rcases Nat.lt_or_ge k nd with hlt | hge
      case inr =>
        have hd : decide ((k : Int) < (nd : Int)) = false := by simp; omega
        have hd0 : decide (k < nd) = false := by simp; omega
        have hv : dv = false := by rw [← HDV.out, hd0]; rfl
        subst hv
        clear hd0
        go_wp2_with fail
        go_meet
        exact ⟨rfl, rfl⟩
      have hd : decide ((k : Int) < (nd : Int)) = true := by simp; omega
      have hkd : (k : Int) < (nd : Int) := by omega
      have hd0 : decide (k < nd) = true := by simp; omega
      obtain ⟨y, hy⟩ : ∃ y, bs[k]? = some y := ⟨_, List.getElem?_eq_getElem (by rw [HND.out]; exact hlt)⟩
      have hv : dv = y := by rw [← HDV.out, hd0, List.getD_eq_getElem?_getD, hy]; rfl
      subst hv
      obtain ⟨bd, od, rfl, _, _, _⟩ := HD.out.some_ (by omega)
      have hyc := (HD.out.ext HP2.out.hb).at_ (flatK_at encB 1 (fun _ => rfl) bs k dv 0 _ hy rfl)
      simp only [Nat.mul_one, Nat.add_zero] at hyc
      clear hy hd0
      go_wp2_with fail
      go_meet
      exact ⟨rfl, rfl⟩
    obtain ⟨rfl, rfl⟩ := hcut
    clear HDV
    go_upto_if 83 with fail
    go_cut [18, 21, 22, 23] from 48 to 188 (fun _ _ _ _ wx => PInv W4 wx S A7 c7 gt g gy col (k + 1))
    case first =>
      cases dv with
      | true =>
        have hdt := HP2.out.bt
        go_wp2_with fail
        have D := fun w' (h : Below w2.heap.size w2.drew w') => five hdt (Below.trans (Below.refl _ _).drew h)
        have D7 := fun w' (h : Below w2.heap.size w2.drew w') => four (HB7.out.ext HP2.out.hb) (Below.trans (Below.refl _ _).drew h)
        have Dr := fun w' (h : Below w2.heap.size w2.drew w') => (hVr.ext (Below.trans (Below.refl _ _).drew h)).at_ hri.out.key
        refine wp_region_mix1 ⟨11, 21, fun g => .pointer (some ⟨g, 0, none⟩), .cells #[.string ⟨#[]⟩, .slice none 0 0, .int .i64 0, .bool false, .slice none 0 0] 32⟩
          [(0, true), (1, true), (2, true), (3, true), (4, true), (5, true)] [(6, false), (7, true), (8, true), (9, true), (10, true)] [(12, false), (13, true), (14, true)] (by kernel_rfl) (by kernel_rfl) ?_
        repeat ((with_reducible show wpI _ _ _ _ _ ((_, true) :: _) _ _); (first | (refine wpI_on (v := ?_) rfl rfl (wanted_free rfl) (fun w' hS => ?_) ?_; rotate_left; (focus (go_simp; (try with_reducible rfl); done)); try simp only [List.setIfInBounds_toArray, List.set_cons_zero, List.set_cons_succ]) | (refine wpI_on (v := ?_) rfl rfl (wanted_yes rfl rfl rfl) (fun w' hS => ?_) ?_; rotate_left; (focus (go_simp; (try with_reducible rfl); done)); try simp only [List.setIfInBounds_toArray, List.set_cons_zero, List.set_cons_succ]) | (refine wpI_off rfl rfl (wanted_no rfl rfl rfl) ?_; try simp only [List.setIfInBounds_toArray, List.set_cons_zero, List.set_cons_succ]) | (refine wpI_off rfl rfl (wanted_undef rfl rfl rfl) ?_; try simp only [List.setIfInBounds_toArray, List.set_cons_zero, List.set_cons_succ])))
        refine wpI_done ⟨?_, ?_⟩
        · intro u hu
          simp only [List.mem_cons, List.not_mem_nil, or_false] at hu
          rcases hu with rfl
          exact ⟨_, rfl, rfl, wanted_free rfl, fun w => by go_simp⟩
        clear D D7 Dr
        refine wpI_do rfl (wanted_free rfl) (fun wI hI hSI K hK => ?_); go_simp
        have hwI := Below.trans (Below.refl w2.heap.size w2).drew hSI
        refine (rtakeO_ S rows kv A7 S.cols.length c7 At nt ct wI (HP2.out.rs.ext hwI) HP2.out.ok hn7 (by have := HP2.out.rs.len; omega) hri.out.chk).mono ?_
        rintro e w8 ⟨At2, nt2, ct2, Aq, mq, cq, rfl, RS8, hV8, hb8⟩
        have hV8 := hV8.base (hwI.size)
        simp only [tabA]
        refine hK.out _ _ hb8 ?_
        clear hK K hb8 hI hSI hwI
        repeat ((with_reducible show wpI _ _ _ _ _ ((_, true) :: _) _ _); (first | (refine wpI_on (v := ?_) rfl rfl (wanted_free rfl) (fun w' hS => ?_) ?_; rotate_left; (focus (go_simp; (try with_reducible rfl); done)); try simp only [List.setIfInBounds_toArray, List.set_cons_zero, List.set_cons_succ]) | (refine wpI_on (v := ?_) rfl rfl (wanted_yes rfl rfl rfl) (fun w' hS => ?_) ?_; rotate_left; (focus (go_simp; (try with_reducible rfl); done)); try simp only [List.setIfInBounds_toArray, List.set_cons_zero, List.set_cons_succ]) | (refine wpI_off rfl rfl (wanted_no rfl rfl rfl) ?_; try simp only [List.setIfInBounds_toArray, List.set_cons_zero, List.set_cons_succ]) | (refine wpI_off rfl rfl (wanted_undef rfl rfl rfl) ?_; try simp only [List.setIfInBounds_toArray, List.set_cons_zero, List.set_cons_succ])))
        refine wpI_done ?_
        intro g21 wf he hb hlo1 hhi1 hat1
        try simp only [List.setIfInBounds_toArray, List.set_cons_zero, List.set_cons_succ]
        have B21 : Blk wf g21 32 #[.string ⟨#[]⟩, .slice none 0 0, .int .i64 0, .bool false, .slice none 0 0] := hat1
        have RS8 := RS8.ext he
        have hV8 := hV8.ext he
        clear hat1 he hhi1
        have f0 := B21.frozen 0
        have f1 := B21.frozen 1
        have f2 := B21.frozen 2
        have f3 := B21.frozen 3
        have f4 := B21.frozen 4
        have q := five B21 (Below.refl _ _)
        refine wpPerm_do rfl (wanted_free rfl) (fun K hK => ?_); go_simp
        clear f0 f1 f2 f3 f4 q
        obtain ⟨w9, hw, B21', hl1, hgr⟩ := Blk.set5 B21 (.string S.name) (.slice A7 S.cols.length c7) (.int .i64 S.key) (.bool S.only) (.slice At2 nt2 ct2)
        rw [← hw]
        clear hw
        have RS8 := RS8.blk B21 hgr (by decide) (by decide)
        have hV8 := z_vs hV8 B21 hgr
        have hb := Below.trans hb (hl1 _ hlo1)
        refine hK.out _ _ hb ?_
        clear hK K hl1 hgr B21
        repeat ((with_reducible show wpPerm _ _ _ _ ((_, true) :: _) _ _); (first | (refine wpPerm_on (v := ?_) rfl rfl (wanted_free rfl) (fun w' hS => ?_) ?_; rotate_left; (focus (go_simp; (try with_reducible rfl); done)); try simp only [List.setIfInBounds_toArray, List.set_cons_zero, List.set_cons_succ]) | (refine wpPerm_on (v := ?_) rfl rfl (wanted_yes rfl rfl rfl) (fun w' hS => ?_) ?_; rotate_left; (focus (go_simp; (try with_reducible rfl); done)); try simp only [List.setIfInBounds_toArray, List.set_cons_zero, List.set_cons_succ]) | (refine wpPerm_off rfl rfl (wanted_no rfl rfl rfl) ?_; try simp only [List.setIfInBounds_toArray, List.set_cons_zero, List.set_cons_succ]) | (refine wpPerm_off rfl rfl (wanted_undef rfl rfl rfl) ?_; try simp only [List.setIfInBounds_toArray, List.set_cons_zero, List.set_cons_succ])))
        refine wpPerm_done ?_
        have hb9 := Below.trans (Below.refl w2.heap.size w2).drew hb
        have hP9 := HP2.out.ext hb9
        have hVr9 := hVr.ext hb9
        have B21 := B21'
        clear hb B21' hdt
        cases iv with
        | true =>
          have h1 : (takeL S.key rows kv).1 = 0 := by unfold takeL; rw [HIV.out, if_pos rfl]
          have hrl := rowL_at HIV.out
          obtain ⟨rr, hrr⟩ : ∃ r, rowL S.key rows kv = r := ⟨_, rfl⟩
          have HLK := Lib.hid (lnk_take HP2.out.ix.srt HP2.out.lk HIV.out)
          rw [hrr] at hV8 HLK hrl
          rw [h1]
          obtain ⟨r2, hr2, hr3, _⟩ := hrl
          subst hr3
          have hrm := List.mem_of_getElem? hr2
          have HRR := Lib.hid (rowN_of (HP2.out.ok.fit _ hrm) (HP2.out.fd _ hrm).num hcl hS.key hn7)
          have hshort : mq ≤ 100000 := by rw [← hV8.2]; exact HRR.out.short
          have hVq := hV8.base hHL2
          clear h1 hrr hr2 hrm hV8 hVr9
          have f0 := hP9.bt.frozen 0
          have f1 := hP9.bt.frozen 1
          have f2 := hP9.bt.frozen 2
          have f3 := hP9.bt.frozen 3
          have f4 := hP9.bt.frozen 4
          have q := five hP9.bt (Below.refl _ _)
          have q21 := five B21 (Below.refl _ _)
          go_upto_region 18 with fail
          clear q21 f0 f1 f2 f3 f4 q
          obtain ⟨w11, hw, BT, hl11, hgr11⟩ := Blk.set5 hP9.bt (.string S.name) (.slice A7 S.cols.length c7) (.int .i64 S.key) (.bool S.only) (.slice At2 nt2 ct2)
          rw [← hw]
          clear hw
          have RS := RS8.blk hP9.bt hgr11 (by decide) (by decide)
          have IX := hP9.ix.blk' hP9.bt hgr11 (by decide) (by decide) (by decide)
          have RY := hP9.ry.blk' hP9.bt hgr11 (by decide) (by decide)
          have hVq := hVq.grownL hgr11 hgtL
          have hbx := Below.trans hP9.hb (hl11 _ hg4.2.2)
          clear hl11 hgr11 RS8
          clear B21 hP9 hb9
          go_wp2_with (at_builtin; refine wpList_append_row rfl (.tmp 100) (.tmp 101) 38 rfl w11.heap.size 41 i0 _ 3 32 Try.underlying38 hi hy0 hy1 hy2 rfl (by decide) _ _ _ rfl (own_empty (w := w11) rfl (Nat.le_refl _)) _ _ _ _ (cellsV rr) rfl (hVq.1.ext ((Below.refl _ _).alloc (Nat.le_refl _) _)) ?b1f ?b2f ?b3f ?b4f ?b5f ?_)
          case b1f => rw [lenV, hVq.2]
          case b2f => exact oneV rr
          case b3f => unfold maxLen; omega
          case b4f => omega
          all_goals try (case b5f => first | omega | (simp; done) | (simp; omega))
          intro v8 w8 hown8 hgrow8
          obtain ⟨A8, c8, rfl⟩ := own_slice hown8
          try simp only [Nat.zero_add, List.nil_append] at hown8
          have hb8 : Below w11.heap.size w11 w8 := ((Below.refl _ _).alloc (Nat.le_refl _) (.cells #[] 41)).grown hgrow8 (by simp) (fun b hb => by simp [Value.ownBlock] at hb; omega)
          have hV8 : Vs w8 0 A8 mq c8 rr := (Vs.of_own hown8).base (Nat.zero_le _)
          clear hown8 hgrow8
          have hVq := hVq.ext hb8
          have hbx := Below.trans hbx (Below.mono hb8 hbx.size)
          have BT := BT.ext hb8
          have RS := RS.ext hb8
          have IX := IX.ext hb8
          have RY := RY.ext hb8
          clear hb8
          go_wp2_with fail
          refine (drop_ ws rr (enR col S.key rr) g (g + 1) col S.key Ax cx 0 A8 mq c8 _ IX hV8 hshort HRR.out.colAt HRR.out.keyAt HRR.out.ok (by omega)).mono ?_
          rintro e w9 ⟨ws9, A9, c9, rfl, IX9, hm9, hk9⟩
          have BT := blk_keptX IX hk9 BT (by decide) (by decide)
          have RS := RS.keptX IX hk9
          have RY := RY.keptX IX hk9
          have hVq := Vs.keptLo hVq hk9 hgL (fun m hm => HLX.out m hm)
          have hbx := Below.trans hbx (hk9.below hbx.size hg4.1 (fun m hm => Nat.le_trans hg4.1 (Nat.le_trans (Nat.le_succ _) (IX.own.lt m hm).1)))
          clear IX hk9 hV8
          go_wp2_with fail
          refine (rdrop_ (ws.map (·.e)) rr (enR col S.key rr) gy col S.key Ay cy HL Aq mq cq _ RY hVq HRR.out.colAt HRR.out.keyAt HRR.out.ok (by rw [List.length_map]; omega) HP2.out.ix.srt).mono ?_
          rintro e w10 ⟨Ay2, cy2, rfl, RY10, hk10⟩
          have BT := blk_kept BT RY.blk hk10 (by decide)
          have RS := RS.blk RY.blk hk10 (by decide) (by decide)
          have IX9 := IX9.blk' RY.blk hk10 (by decide) (by decide) (by decide)
          rw [← hm9] at RY10
          have hbx := hbx.grown hk10 hbx.size (fun b hb => by injection hb with hb; omega)
          have hlk := HLK.out
          rw [← hm9] at hlk
          have hwl9 : ws9.length ≤ 50 + (k + 1) := by
            have h1 := congrArg List.length hm9
            rw [List.length_map] at h1
            have h2 := dropN_len (l := ws.map (·.e)) (e := enR col S.key rr)
            rw [List.length_map] at h2
            omega
          clear RY hk10 hm9 hVq
          go_wp2_with fail
          go_meet
          exact ⟨(takeL S.key rows kv).2, At2, nt2, ct2, ws9, A9, c9, Ay2, cy2, ⟨hbx, BT, RS, takeL_ok HP2.out.ok kv, by have h1 := RS.len; have h2 := take_len2 (key := S.key) (rows := rows) (k := kv); have h3 := HP2.out.rs.len; omega, fun y hy => HP2.out.fd y (take_mem hy), IX9, RY10, hlk, hwl9⟩⟩
        | false =>
          have h1 : (takeL S.key rows kv).1 = 2 := by unfold takeL; rw [HIV.out, if_neg (by simp)]
          rw [h1]
          have HRR := HRN
          have hshort : S.cols.length ≤ 100000 := by omega
          have hVq := hVr9
          have BT := hP9.bt
          have RS := hP9.rs
          have IX := hP9.ix
          have RY := hP9.ry
          have hbx := hP9.hb
          clear h1 hV8 RS8 B21 hVr9 hP9 hb9
          go_wp2_with (at_builtin; refine wpList_append_row rfl (.tmp 100) (.tmp 101) 38 rfl w9.heap.size 41 i0 _ 3 32 Try.underlying38 hi hy0 hy1 hy2 rfl (by decide) _ _ _ rfl (own_empty (w := w9) rfl (Nat.le_refl _)) _ _ _ _ (cellsV r) rfl (hVq.1.ext ((Below.refl _ _).alloc (Nat.le_refl _) _)) ?b1n ?b2n ?b3n ?b4n ?b5n ?_)
          case b1n => rw [lenV, hVq.2]
          case b2n => exact oneV r
          case b3n => unfold maxLen; omega
          case b4n => omega
          all_goals try (case b5n => first | omega | (simp; done) | (simp; omega))
          intro v8 w8 hown8 hgrow8
          obtain ⟨A8, c8, rfl⟩ := own_slice hown8
          try simp only [Nat.zero_add, List.nil_append] at hown8
          have hb8 : Below w9.heap.size w9 w8 := ((Below.refl _ _).alloc (Nat.le_refl _) (.cells #[] 41)).grown hgrow8 (by simp) (fun b hb => by simp [Value.ownBlock] at hb; omega)
          have hV8 : Vs w8 0 A8 S.cols.length c8 r := (Vs.of_own hown8).base (Nat.zero_le _)
          clear hown8 hgrow8
          have hVq := hVq.ext hb8
          have hbx := Below.trans hbx (Below.mono hb8 hbx.size)
          have BT := BT.ext hb8
          have RS := RS.ext hb8
          have IX := IX.ext hb8
          have RY := RY.ext hb8
          clear hb8
          go_wp2_with fail
          refine (drop_ ws r (enR col S.key r) g (g + 1) col S.key Ax cx 0 A8 S.cols.length c8 _ IX hV8 hshort HRR.out.colAt HRR.out.keyAt HRR.out.ok (by omega)).mono ?_
          rintro e w9 ⟨ws9, A9, c9, rfl, IX9, hm9, hk9⟩
          have BT := blk_keptX IX hk9 BT (by decide) (by decide)
          have RS := RS.keptX IX hk9
          have RY := RY.keptX IX hk9
          have hVq := Vs.keptLo hVq hk9 hgL (fun m hm => HLX.out m hm)
          have hbx := Below.trans hbx (hk9.below hbx.size hg4.1 (fun m hm => Nat.le_trans hg4.1 (Nat.le_trans (Nat.le_succ _) (IX.own.lt m hm).1)))
          clear IX hk9 hV8
          go_wp2_with fail
          refine (rdrop_ (ws.map (·.e)) r (enR col S.key r) gy col S.key Ay cy HL (some ⟨br, or_, none⟩) S.cols.length cr _ RY hVq HRR.out.colAt HRR.out.keyAt HRR.out.ok (by rw [List.length_map]; omega) HP2.out.ix.srt).mono ?_
          rintro e w10 ⟨Ay2, cy2, rfl, RY10, hk10⟩
          have BT := blk_kept BT RY.blk hk10 (by decide)
          have RS := RS.blk RY.blk hk10 (by decide) (by decide)
          have IX9 := IX9.blk' RY.blk hk10 (by decide) (by decide) (by decide)
          rw [← hm9] at RY10
          have hbx := hbx.grown hk10 hbx.size (fun b hb => by injection hb with hb; omega)
          have hlk := lnk_drop HP2.out.lk (enR col S.key r)
          rw [← hm9] at hlk
          have hwl9 : ws9.length ≤ 50 + (k + 1) := by
            have h1 := congrArg List.length hm9
            rw [List.length_map] at h1
            have h2 := dropN_len (l := ws.map (·.e)) (e := enR col S.key r)
            rw [List.length_map] at h2
            omega
          clear RY hk10 hm9 hVq
          go_wp2_with fail
          go_meet
          exact ⟨rows, At, nt, ct, ws9, A9, c9, Ay2, cy2, ⟨hbx, BT, RS, HP2.out.ok, by omega, HP2.out.fd, IX9, RY10, hlk, hwl9⟩⟩
      | false =>
        cases iv with
        | true =>
          go_wp2_with fail
          go_meet
          exact ⟨_, _, _, _, _, _, _, _, _, HP2.out.more⟩
        | false =>
          have hP9 := HP2.out
          have q := five hP9.bt (Below.refl _ _)
          go_wp2_with fail
          clear q
          refine (rputO_ S rows r 0 A7 S.cols.length c7 At nt ct HL (some ⟨br, or_, none⟩) S.cols.length cr _ (HC7.out.ext HP2.out.hb) HP2.out.rs hVr hri.out.small HP2.out.ok hn7 (by have := HP2.out.rs.len; omega) (by omega)).mono ?_
          rintro e w8 ⟨At2, nt2, ct2, rfl, RS8, hb8⟩
          simp only [tabA]
          have hP9 := HP2.out.ext hb8
          have HRR := HRN
          have hshort : S.cols.length ≤ 100000 := by omega
          have hVq := hVr.ext hb8
          have hnl := HP2.out.rs.len
          have hni := HIV.out
          rw [← hri.out.keyOf] at hni
          have HIS := Lib.hid (isN_lnk HP2.out.lk HP2.out.ok.ord hni)
          have HLK := Lib.hid (lnk_put HP2.out.lk hri.out.fit hni (by omega))
          clear hb8 hni
          have f0 := hP9.bt.frozen 0
          have f1 := hP9.bt.frozen 1
          have f2 := hP9.bt.frozen 2
          have f3 := hP9.bt.frozen 3
          have f4 := hP9.bt.frozen 4
          have q := five hP9.bt (Below.refl _ _)
          go_upto_region 22 with fail
          clear f0 f1 f2 f3 f4 q
          obtain ⟨w11, hw, BT, hl11, hgr11⟩ := Blk.set5 hP9.bt (.string S.name) (.slice A7 S.cols.length c7) (.int .i64 S.key) (.bool S.only) (.slice At2 nt2 ct2)
          rw [← hw]
          clear hw
          have RS := RS8.blk hP9.bt hgr11 (by decide) (by decide)
          have IX := hP9.ix.blk' hP9.bt hgr11 (by decide) (by decide) (by decide)
          have RY := hP9.ry.blk' hP9.bt hgr11 (by decide) (by decide)
          have hVq := hVq.grownL hgr11 hgtL
          have hbx := Below.trans hP9.hb (hl11 _ hg4.2.2)
          clear hl11 hgr11 RS8
          clear hP9
          go_wp2_with (at_builtin; refine wpList_append_row rfl (.tmp 116) (.tmp 117) 38 rfl w11.heap.size 41 i0 _ 3 32 Try.underlying38 hi hy0 hy1 hy2 rfl (by decide) _ _ _ rfl (own_empty (w := w11) rfl (Nat.le_refl _)) _ _ _ _ (cellsV r) rfl (hVq.1.ext ((Below.refl _ _).alloc (Nat.le_refl _) _)) ?b1p ?b2p ?b3p ?b4p ?b5p ?_)
          case b1p => rw [lenV, hVq.2]
          case b2p => exact oneV r
          case b3p => unfold maxLen; omega
          case b4p => omega
          all_goals try (case b5p => first | omega | (simp; done) | (simp; omega))
          intro v8 w8 hown8 hgrow8
          obtain ⟨A8, c8, rfl⟩ := own_slice hown8
          try simp only [Nat.zero_add, List.nil_append] at hown8
          have hb8 : Below w11.heap.size w11 w8 := ((Below.refl _ _).alloc (Nat.le_refl _) (.cells #[] 41)).grown hgrow8 (by simp) (fun b hb => by simp [Value.ownBlock] at hb; omega)
          have hV8 : Vs w8 0 A8 S.cols.length c8 r := (Vs.of_own hown8).base (Nat.zero_le _)
          clear hown8 hgrow8
          have hVq := hVq.ext hb8
          have hbx := Below.trans hbx (Below.mono hb8 hbx.size)
          have BT := BT.ext hb8
          have RS := RS.ext hb8
          have IX := IX.ext hb8
          have RY := RY.ext hb8
          clear hb8
          go_wp2_with fail
          refine (add_ ws r (enR col S.key r) g (g + 1) col S.key Ax cx 0 A8 S.cols.length c8 _ IX hV8 hshort HRR.out.colAt HRR.out.keyAt HRR.out.ok (by omega)).mono ?_
          rintro e w9 ⟨ws9, A9, c9, rfl, IX9, hm9, hk9⟩
          have BT := blk_keptX IX hk9 BT (by decide) (by decide)
          have RS := RS.keptX IX hk9
          have RY := RY.keptX IX hk9
          have hVq := Vs.keptLo hVq hk9 hgL (fun m hm => HLX.out m hm)
          have hbx := Below.trans hbx (hk9.below hbx.size hg4.1 (fun m hm => Nat.le_trans hg4.1 (Nat.le_trans (Nat.le_succ _) (IX.own.lt m hm).1)))
          clear IX hk9 hV8
          go_wp2_with fail
          refine (radd_ (ws.map (·.e)) r (enR col S.key r) gy col S.key Ay cy HL (some ⟨br, or_, none⟩) S.cols.length cr _ RY hVq HRR.out.colAt HRR.out.keyAt HRR.out.ok (by rw [List.length_map]; omega) HIS.out).mono ?_
          rintro e w10 ⟨Ay2, cy2, rfl, RY10, hk10⟩
          have BT := blk_kept BT RY.blk hk10 (by decide)
          have RS := RS.blk RY.blk hk10 (by decide) (by decide)
          have IX9 := IX9.blk' RY.blk hk10 (by decide) (by decide) (by decide)
          rw [← hm9] at RY10
          have hbx := hbx.grown hk10 hbx.size (fun b hb => by injection hb with hb; omega)
          have hlk := HLK.out
          rw [← hm9] at hlk
          have hwl9 : ws9.length ≤ 50 + (k + 1) := by
            have h1 := congrArg List.length hm9
            rw [List.length_map] at h1
            have h2 := addN_le (ws.map (·.e)) (enR col S.key r)
            rw [List.length_map] at h2
            omega
          clear RY hk10 hm9 hVq
          go_wp2_with fail
          go_meet
          exact ⟨(putL S.cols S.key rows r).2, At2, nt2, ct2, ws9, A9, c9, Ay2, cy2, ⟨hbx, BT, RS, putL_ok HP2.out.ok r, by have h1 := RS.len; have h2 := put_len2 (cs := S.cols) (key := S.key) (rows := rows) (r := r); omega, fitd_put HP2.out.fd HFR.out, IX9, RY10, hlk, hwl9⟩⟩
    clear HP2 HIV HRN hVr HFR hri HLX
    obtain ⟨rows, At, nt, ct, ws, Ax, cx, Ay, cy, hP⟩ := hcut
    have q := four (HB7.out.ext hP.hb) (Below.refl _ _)
    go_wp2_with fail
    clear q
    refine (fit_ S 0 A7 S.cols.length c7 ((k : Int) * 7) _ (HC7.out.ext hP.hb) hn7 hS.kinds (by omega) (by omega)).mono ?_
    rintro e w20 ⟨Av, cv, rfl, hownv, hb20⟩
    have hrv := rowN_of (fit_fits hS.kinds ((k : Int) * 7)) (num_fit S.cols ((k : Int) * 7)) hcl hS.key hn7
    have hfl := fitL_len S.cols ((k : Int) * 7)
    have RVc := hrv.colAt
    have hcv := hrv.ok.v.chk
    generalize fitL S.cols ((k : Int) * 7) = rv at *
    have hVv : Vs w20 0 Av S.cols.length cv rv := (Vs.of_own hownv).base (Nat.zero_le _)
    obtain ⟨bv, ov, rfl, _, _, _⟩ := hVv.1.some_ (by omega)
    obtain ⟨v, hv⟩ : ∃ v, (enR col S.key rv).v = v := ⟨_, rfl⟩
    rw [hv] at RVc hcv
    have q3 := hVv.at_ RVc
    have hci : (col : Int) < (S.cols.length : Int) := by omega
    have hP := hP.ext hb20
    clear hrv hv hownv hb20 hVv hfl
    go_upto_region 25 with fail
    clear q3
    obtain ⟨W21, hW_, hb21, BVv⟩ : ∃ W_, W_ = (w20.alloc (.cells #[.int .i64 v.k, .int .i64 v.n, .string v.s] 41)) ∧ Below w20.heap.size w20 W_ ∧ Blk W_ (w20.heap.size) 41 #[.int .i64 v.k, .int .i64 v.n, .string v.s] :=
      ⟨_, rfl, ((Below.refl _ _).alloc (Nat.le_refl _) _), (blk_new_at w20 (w20.heap.size) _ _ (by simp))⟩
    rw [← hW_]
    clear hW_
    have hgv2 := hP.hb.size
    have hgv3 := hb21.size
    obtain ⟨gv, hgv⟩ : ∃ g, w20.heap.size = g := ⟨_, rfl⟩
    rw [hgv] at BVv hb21 hgv2 hgv3 ⊢
    have HGV := Lib.hid hgv
    have HP20 := Lib.hid hP
    clear hgv RVc hP
    rcases Nat.lt_or_ge k nk with hlt | hge
    case inr =>
      have hd : decide ((k : Int) < (nk : Int)) = false := by simp; omega
      have hd0 : decide (k < nk) = false := by simp; omega
      have hP := Lib.hid (HP20.out.ext (by rw [HGV.out]; exact hb21))
      clear hb21
      have q := (HM.out.ext hP.out.hb).at_ HXC.out
      simp only [Nat.mul_one, Nat.add_zero] at q
      obtain ⟨km, hkm, hkl⟩ : ∃ km : Nat, x % 9 = (km : Int) ∧ km < 9 := by
        have h1 := Int.emod_nonneg x (by omega : (9 : Int) ≠ 0)
        have h2 := Int.emod_lt_of_pos x (by omega : (0 : Int) < 9)
        exact ⟨(x % 9).toNat, by omega, by omega⟩
      go_wp2_with fail
      clear q
      refine (within11 x 9 (km : Int) hkm _ (by omega) (by omega) hx64.1 hx64.2).mono ?_
      rintro e wx ⟨rfl, rfl⟩
      clear hkm
      obtain ⟨kn, hkn⟩ : ∃ kn : Int, (km : Int) - 1 = kn := ⟨_, rfl⟩
      have hkn2 : -1 ≤ kn ∧ kn ≤ 8 := by omega
      have BY := hP.out.ry.blk
      rw [List.length_map] at BY
      have hwl := hP.out.wl
      obtain ⟨L1, hL1⟩ : ∃ L, keysN (ws.map (·.e)) v = L := ⟨_, rfl⟩
      obtain ⟨L2, hL2⟩ : ∃ L, fromN (ws.map (·.e)) v kn = L := ⟨_, rfl⟩
      obtain ⟨L3, hL3⟩ : ∃ L, fromN (ws.map (·.e)) ⟨0, 0, ⟨#[]⟩⟩ 99 = L := ⟨_, rfl⟩
      have hl1 : L1.length ≤ 100 := by
        rw [← hL1]
        have := keysN_len (ws.map (·.e)) v
        rw [List.length_map] at this
        omega
      have hl2 : L2.length ≤ 100 := by
        rw [← hL2]
        unfold fromN
        rw [List.length_take]
        have := geN_len (ws.map (·.e)) v
        rw [List.length_map] at this
        omega
      have hl3 : L3.length ≤ 100 := by
        rw [← hL3]
        unfold fromN
        rw [List.length_take]
        have := geN_len (ws.map (·.e)) ⟨0, 0, ⟨#[]⟩⟩
        rw [List.length_map] at this
        omega
      have HL1 := Lib.hid hL1
      have HL2 := Lib.hid hL2
      have HL3 := Lib.hid hL3
      have HKN := Lib.hid hkn
      clear hL1 hL2 hL3
      go_wp2_with fail
      clear hkn
      have D := fun w' (h : Below W21.heap.size W21.drew w') => BY.three (Below.trans (Below.refl _ _).drew h)
      have DV := fun w' (h : Below W21.heap.size W21.drew w') => BVv.three (Below.trans (Below.refl _ _).drew h)
      refine wp_region_one [(0, true), (2, true), (3, true), (4, true), (5, true), (6, true), (1, false), (7, true), (8, true), (9, true), (10, true), (12, true), (13, true), (11, false), (14, false), (15, false), (16, true), (17, true), (18, true), (19, true), (20, true), (21, true), (23, true), (24, true), (25, true), (22, false), (26, false), (27, false), (28, true), (29, true), (30, true), (31, true), (32, true), (34, true), (35, true), (33, false), (36, false), (37, false), (38, true), (39, true)] (by kernel_rfl) (by kernel_rfl) (by kernel_rfl) (by decide) ?_
      repeat ((with_reducible show wpPerm _ _ _ _ ((_, true) :: _) _ _); (first | (refine wpPerm_on (v := ?_) rfl rfl (wanted_free rfl) (fun w' hS => ?_) ?_; rotate_left; (focus (go_simp; (try with_reducible rfl); done)); try simp only [List.setIfInBounds_toArray, List.set_cons_zero, List.set_cons_succ]) | (refine wpPerm_on (v := ?_) rfl rfl (wanted_yes rfl rfl rfl) (fun w' hS => ?_) ?_; rotate_left; (focus (go_simp; (try with_reducible rfl); done)); try simp only [List.setIfInBounds_toArray, List.set_cons_zero, List.set_cons_succ]) | (refine wpPerm_off rfl rfl (wanted_no rfl rfl rfl) ?_; try simp only [List.setIfInBounds_toArray, List.set_cons_zero, List.set_cons_succ]) | (refine wpPerm_off rfl rfl (wanted_undef rfl rfl rfl) ?_; try simp only [List.setIfInBounds_toArray, List.set_cons_zero, List.set_cons_succ])))
      refine wpPerm_do rfl (wanted_free rfl) (fun K hK => ?_); go_simp
      refine (len_ ws g (g + 1) col S.key Ax cx _ (hP.out.ix.ext (Below.refl _ _).drew)).mono ?_
      rintro e w30 ⟨rfl, rfl⟩
      refine hK.out _ _ (Below.refl _ _) ?_
      clear hK K
      repeat ((with_reducible show wpPerm _ _ _ _ ((_, true) :: _) _ _); (first | (refine wpPerm_on (v := ?_) rfl rfl (wanted_free rfl) (fun w' hS => ?_) ?_; rotate_left; (focus (go_simp; (try with_reducible rfl); done)); try simp only [List.setIfInBounds_toArray, List.set_cons_zero, List.set_cons_succ]) | (refine wpPerm_on (v := ?_) rfl rfl (wanted_yes rfl rfl rfl) (fun w' hS => ?_) ?_; rotate_left; (focus (go_simp; (try with_reducible rfl); done)); try simp only [List.setIfInBounds_toArray, List.set_cons_zero, List.set_cons_succ]) | (refine wpPerm_off rfl rfl (wanted_no rfl rfl rfl) ?_; try simp only [List.setIfInBounds_toArray, List.set_cons_zero, List.set_cons_succ]) | (refine wpPerm_off rfl rfl (wanted_undef rfl rfl rfl) ?_; try simp only [List.setIfInBounds_toArray, List.set_cons_zero, List.set_cons_succ])))
      refine wpPerm_do rfl (wanted_yes rfl rfl rfl) (fun K hK => ?_); go_simp
      refine (keys_ ws v g (g + 1) col S.key Ax cx _ (hP.out.ix.ext (Below.refl _ _).drew) (by omega)).mono ?_
      rintro e w31 ⟨A31, c31, rfl, hown31, hb31⟩
      rw [HL1.out] at hown31 ⊢
      refine hK.out _ _ hb31 ?_
      clear hK K
      have hc31 := Below.trans ((Below.refl W21.heap.size W21).drew) hb31
      refine wpPerm_do rfl (wanted_yes rfl rfl rfl) (fun K hK => ?_); go_simp
      refine (rkeys_ (ws.map (·.e)) v gy col S.key Ay cy _ (hP.out.ry.ext hc31) (by rw [List.length_map]; omega) hcv).mono ?_
      rintro e w32 ⟨A32, c32, rfl, hown32, hb32⟩
      rw [HL1.out] at hown32 ⊢
      have hb31 := Below.trans hb31 (Below.mono hb32 hb31.size)
      refine hK.out _ _ hb31 ?_
      clear hK K
      refine wpPerm_do rfl (wanted_yes rfl rfl rfl) (fun K hK => ?_); go_simp
      refine (rrowSame_ L1 0 0 A31 A32 L1.length c31 L1.length c32 _ (by omega) ((Vs.of_own (own_ext hown31 hb32)).base (Nat.zero_le _)) ((Vs.of_own hown32).base (Nat.zero_le _))).mono ?_
      rintro e w33 ⟨rfl, hb33⟩
      have hb31 := Below.trans hb31 (Below.mono hb33 hb31.size)
      refine hK.out _ _ hb31 ?_
      clear hK K hown31 hown32 hb32 hb33 hc31
      repeat ((with_reducible show wpPerm _ _ _ _ ((_, true) :: _) _ _); (first | (refine wpPerm_on (v := ?_) rfl rfl (wanted_free rfl) (fun w' hS => ?_) ?_; rotate_left; (focus (go_simp; (try with_reducible rfl); done)); try simp only [List.setIfInBounds_toArray, List.set_cons_zero, List.set_cons_succ]) | (refine wpPerm_on (v := ?_) rfl rfl (wanted_yes rfl rfl rfl) (fun w' hS => ?_) ?_; rotate_left; (focus (go_simp; (try with_reducible rfl); done)); try simp only [List.setIfInBounds_toArray, List.set_cons_zero, List.set_cons_succ]) | (refine wpPerm_off rfl rfl (wanted_no rfl rfl rfl) ?_; try simp only [List.setIfInBounds_toArray, List.set_cons_zero, List.set_cons_succ]) | (refine wpPerm_off rfl rfl (wanted_undef rfl rfl rfl) ?_; try simp only [List.setIfInBounds_toArray, List.set_cons_zero, List.set_cons_succ])))
      refine wpPerm_do rfl (wanted_yes rfl rfl rfl) (fun K hK => ?_); go_simp
      have hc31 := Below.trans ((Below.refl W21.heap.size W21).drew) hb31
      refine (from_ ws v kn g (g + 1) col S.key Ax cx _ (hP.out.ix.ext hc31) (by omega)).mono ?_
      rintro e w34 ⟨A31, c31, rfl, hown31, hb34⟩
      rw [HL2.out] at hown31 ⊢
      have hb31 := Below.trans hb31 (Below.mono hb34 hb31.size)
      refine hK.out _ _ hb31 ?_
      clear hK K hc31 hb34
      have hc31 := Below.trans ((Below.refl W21.heap.size W21).drew) hb31
      refine wpPerm_do rfl (wanted_yes rfl rfl rfl) (fun K hK => ?_); go_simp
      refine (rfrom_ (ws.map (·.e)) v kn gy col S.key Ay cy _ (hP.out.ry.ext hc31) (by rw [List.length_map]; omega) hcv).mono ?_
      rintro e w35 ⟨A32, c32, rfl, hown32, hb35⟩
      rw [HL2.out] at hown32 ⊢
      have hb31 := Below.trans hb31 (Below.mono hb35 hb31.size)
      refine hK.out _ _ hb31 ?_
      clear hK K
      refine wpPerm_do rfl (wanted_yes rfl rfl rfl) (fun K hK => ?_); go_simp
      refine (rrowSame_ L2 0 0 A31 A32 L2.length c31 L2.length c32 _ (by omega) ((Vs.of_own (own_ext hown31 hb35)).base (Nat.zero_le _)) ((Vs.of_own hown32).base (Nat.zero_le _))).mono ?_
      rintro e w36 ⟨rfl, hb36⟩
      have hb31 := Below.trans hb31 (Below.mono hb36 hb31.size)
      refine hK.out _ _ hb31 ?_
      clear hK K hown31 hown32 hb35 hb36 hc31
      repeat ((with_reducible show wpPerm _ _ _ _ ((_, true) :: _) _ _); (first | (refine wpPerm_on (v := ?_) rfl rfl (wanted_free rfl) (fun w' hS => ?_) ?_; rotate_left; (focus (go_simp; (try with_reducible rfl); done)); try simp only [List.setIfInBounds_toArray, List.set_cons_zero, List.set_cons_succ]) | (refine wpPerm_on (v := ?_) rfl rfl (wanted_yes rfl rfl rfl) (fun w' hS => ?_) ?_; rotate_left; (focus (go_simp; (try with_reducible rfl); done)); try simp only [List.setIfInBounds_toArray, List.set_cons_zero, List.set_cons_succ]) | (refine wpPerm_off rfl rfl (wanted_no rfl rfl rfl) ?_; try simp only [List.setIfInBounds_toArray, List.set_cons_zero, List.set_cons_succ]) | (refine wpPerm_off rfl rfl (wanted_undef rfl rfl rfl) ?_; try simp only [List.setIfInBounds_toArray, List.set_cons_zero, List.set_cons_succ])))
      refine wpPerm_do rfl (wanted_yes rfl rfl rfl) (fun K hK => ?_); go_simp
      have hc31 := Below.trans ((Below.refl W21.heap.size W21).drew) hb31
      refine (from_ ws ⟨0, 0, ⟨#[]⟩⟩ 99 g (g + 1) col S.key Ax cx _ (hP.out.ix.ext hc31) (by omega)).mono ?_
      rintro e w37 ⟨A31, c31, rfl, hown31, hb37⟩
      rw [HL3.out] at hown31 ⊢
      have hb31 := Below.trans hb31 (Below.mono hb37 hb31.size)
      refine hK.out _ _ hb31 ?_
      clear hK K hc31 hb37
      have hc31 := Below.trans ((Below.refl W21.heap.size W21).drew) hb31
      refine wpPerm_do rfl (wanted_yes rfl rfl rfl) (fun K hK => ?_); go_simp
      refine (rfrom_ (ws.map (·.e)) ⟨0, 0, ⟨#[]⟩⟩ 99 gy col S.key Ay cy _ (hP.out.ry.ext hc31) (by rw [List.length_map]; omega) (by rfl)).mono ?_
      rintro e w38 ⟨A32, c32, rfl, hown32, hb38⟩
      rw [HL3.out] at hown32 ⊢
      have hb31 := Below.trans hb31 (Below.mono hb38 hb31.size)
      refine hK.out _ _ hb31 ?_
      clear hK K
      refine wpPerm_do rfl (wanted_yes rfl rfl rfl) (fun K hK => ?_); go_simp
      refine (rrowSame_ L3 0 0 A31 A32 L3.length c31 L3.length c32 _ (by omega) ((Vs.of_own (own_ext hown31 hb38)).base (Nat.zero_le _)) ((Vs.of_own hown32).base (Nat.zero_le _))).mono ?_
      rintro e w39 ⟨rfl, hb39⟩
      have hb31 := Below.trans hb31 (Below.mono hb39 hb31.size)
      refine hK.out _ _ hb31 ?_
      clear hK K hown31 hown32 hb38 hb39 hc31
      repeat ((with_reducible show wpPerm _ _ _ _ ((_, true) :: _) _ _); (first | (refine wpPerm_on (v := ?_) rfl rfl (wanted_free rfl) (fun w' hS => ?_) ?_; rotate_left; (focus (go_simp; (try with_reducible rfl); done)); try simp only [List.setIfInBounds_toArray, List.set_cons_zero, List.set_cons_succ]) | (refine wpPerm_on (v := ?_) rfl rfl (wanted_yes rfl rfl rfl) (fun w' hS => ?_) ?_; rotate_left; (focus (go_simp; (try with_reducible rfl); done)); try simp only [List.setIfInBounds_toArray, List.set_cons_zero, List.set_cons_succ]) | (refine wpPerm_off rfl rfl (wanted_no rfl rfl rfl) ?_; try simp only [List.setIfInBounds_toArray, List.set_cons_zero, List.set_cons_succ]) | (refine wpPerm_off rfl rfl (wanted_undef rfl rfl rfl) ?_; try simp only [List.setIfInBounds_toArray, List.set_cons_zero, List.set_cons_succ])))
      refine wpPerm_done ?_
      clear D DV
      have hPn := Lib.hid (hP.out.ext (Below.trans ((Below.refl W21.heap.size W21).drew) hb31))
      clear hb31
      go_wp2
      go_roundw
      case rel => exact ⟨k + 1, by go_num, by omega, by omega, _, _, _, _, _, _, _, _, _, hPn.out⟩
      case measure => simp [intOf]; omega
    have hd : decide ((k : Int) < (nk : Int)) = true := by simp; omega
    have hkk : (k : Int) < (nk : Int) := by omega
    obtain ⟨y, hy⟩ : ∃ y, as_[k]? = some y := ⟨_, List.getElem?_eq_getElem (by rw [HNK.out]; exact hlt)⟩
    have hy64 := HKZ.out y (List.mem_of_getElem? hy)
    obtain ⟨bk, ok, rfl, _, _, _⟩ := HK.out.some_ (by omega)
    have hyc := flatK_at encI 1 (fun _ => rfl) as_ k y 0 _ hy rfl
    have HYC := Lib.hid hyc
    clear hyc hy
    go_wp2_with fail
    have hPb := Below.trans HP20.out.hb (Below.mono hb21 hgv2)
    have D7 := fun w' (h : Below gv W21 w') => four (HB7.out.ext (Below.trans hPb (Below.mono h hgv2))) (Below.refl _ _)
    have D2 := fun w' (h : Below gv W21 w') => (HK.out.ext (Below.trans hPb (Below.mono h hgv2))).at_ HYC.out
    simp only [Nat.mul_one, Nat.add_zero] at D2
    refine wp_region_oneS (S := fun w' => Below gv W21 w') [(0, true), (1, true), (2, true), (3, true), (4, true), (6, true), (5, false), (7, false), (8, false), (9, false)] (by kernel_rfl) (by kernel_rfl) (by kernel_rfl) (by decide) (Below.refl gv W21).drew ?_
    repeat ((with_reducible show wpPerm _ _ _ _ ((_, true) :: _) _ _); (first | (refine wpPerm_on (v := ?_) rfl rfl (wanted_free rfl) (fun w' hS => ?_) ?_; rotate_left; (focus (go_simp; (try with_reducible rfl); done)); try simp only [List.setIfInBounds_toArray, List.set_cons_zero, List.set_cons_succ]) | (refine wpPerm_on (v := ?_) rfl rfl (wanted_yes rfl rfl rfl) (fun w' hS => ?_) ?_; rotate_left; (focus (go_simp; (try with_reducible rfl); done)); try simp only [List.setIfInBounds_toArray, List.set_cons_zero, List.set_cons_succ]) | (refine wpPerm_off rfl rfl (wanted_no rfl rfl rfl) ?_; try simp only [List.setIfInBounds_toArray, List.set_cons_zero, List.set_cons_succ]) | (refine wpPerm_off rfl rfl (wanted_undef rfl rfl rfl) ?_; try simp only [List.setIfInBounds_toArray, List.set_cons_zero, List.set_cons_succ])))
    refine wpPerm_do rfl (wanted_free rfl) (fun K hK => ?_); go_simp
    refine (fit_ S 0 A7 S.cols.length c7 y _ (HC7.out.ext hPb.drew) hn7 hS.kinds hy64.1 hy64.2).mono ?_
    rintro e w22 ⟨Au, cu, rfl, hownu, hb22⟩
    have hru := rowN_of (fit_fits hS.kinds y) (num_fit S.cols y) hcl hS.key hn7
    have hfl := fitL_len S.cols y
    have RUc := hru.colAt
    have hcu := hru.ok.v.chk
    generalize fitL S.cols y = ru at *
    have hVu : Vs w22 0 Au S.cols.length cu ru := (Vs.of_own hownu).base (Nat.zero_le _)
    obtain ⟨bu, ou, rfl, _, _, _⟩ := hVu.1.some_ (by omega)
    obtain ⟨u, hu⟩ : ∃ u, (enR col S.key ru).v = u := ⟨_, rfl⟩
    rw [hu] at RUc hcu
    have hb22g := Below.trans (Below.refl gv W21).drew (Below.mono hb22 hgv3)
    refine hK.out _ _ hb22g ?_
    clear hK K D7 D2
    have hci : (col : Int) < (S.cols.length : Int) := by omega
    refine wpPerm_do rfl (wanted_free rfl) (fun K hK => ?_); go_simp
    refine hK.out _ _ hb22g ?_
    clear hK K
    have q3 := hVu.at_ RUc
    refine wpPerm_do rfl (wanted_free rfl) (fun K hK => ?_); go_simp
    refine hK.out _ _ hb22g ?_
    clear hK K q3
    have BVv := BVv.ext (Below.trans ((Below.refl W21.heap.size W21).drew) hb22)
    have q := BVv.three (Below.refl _ _)
    have f := BVv.free3
    refine wpPerm_do rfl (wanted_free rfl) (fun K hK => ?_); go_simp
    clear q f
    obtain ⟨w23, hw, BVv, hl23, hf23, hz23⟩ := BVv.set3 (.int .i64 u.k) (.int .i64 u.n) (.string u.s)
    rw [← hw]
    clear hw
    have hb23 := Below.trans hb22g (hl23 gv (Nat.le_refl _))
    refine hK.out _ _ hb23 ?_
    clear hK K
    refine wpPerm_done ?_
    have hP := Lib.hid (HP20.out.ext (by rw [HGV.out]; exact Below.trans hb21 hb23))
    clear hru hownu hu hfl hb22 hb22g hb23 hVu RUc hl23 hf23 hz23 hb21 hPb HP20 HYC
    have q := (HM.out.ext hP.out.hb).at_ HXC.out
    simp only [Nat.mul_one, Nat.add_zero] at q
    obtain ⟨km, hkm, hkl⟩ : ∃ km : Nat, x % 9 = (km : Int) ∧ km < 9 := by
      have h1 := Int.emod_nonneg x (by omega : (9 : Int) ≠ 0)
      have h2 := Int.emod_lt_of_pos x (by omega : (0 : Int) < 9)
      exact ⟨(x % 9).toNat, by omega, by omega⟩
    go_wp2_with fail
    clear q
    refine (within11 x 9 (km : Int) hkm _ (by omega) (by omega) hx64.1 hx64.2).mono ?_
    rintro e wx ⟨rfl, rfl⟩
    clear hkm
    obtain ⟨kn, hkn⟩ : ∃ kn : Int, (km : Int) - 1 = kn := ⟨_, rfl⟩
    have hkn2 : -1 ≤ kn ∧ kn ≤ 8 := by omega
    have BY := hP.out.ry.blk
    rw [List.length_map] at BY
    have hwl := hP.out.wl
    obtain ⟨L1, hL1⟩ : ∃ L, keysN (ws.map (·.e)) u = L := ⟨_, rfl⟩
    obtain ⟨L2, hL2⟩ : ∃ L, fromN (ws.map (·.e)) u kn = L := ⟨_, rfl⟩
    obtain ⟨L3, hL3⟩ : ∃ L, fromN (ws.map (·.e)) ⟨0, 0, ⟨#[]⟩⟩ 99 = L := ⟨_, rfl⟩
    have hl1 : L1.length ≤ 100 := by
      rw [← hL1]
      have := keysN_len (ws.map (·.e)) u
      rw [List.length_map] at this
      omega
    have hl2 : L2.length ≤ 100 := by
      rw [← hL2]
      unfold fromN
      rw [List.length_take]
      have := geN_len (ws.map (·.e)) u
      rw [List.length_map] at this
      omega
    have hl3 : L3.length ≤ 100 := by
      rw [← hL3]
      unfold fromN
      rw [List.length_take]
      have := geN_len (ws.map (·.e)) ⟨0, 0, ⟨#[]⟩⟩
      rw [List.length_map] at this
      omega
    have HL1 := Lib.hid hL1
    have HL2 := Lib.hid hL2
    have HL3 := Lib.hid hL3
    have HKN := Lib.hid hkn
    clear hL1 hL2 hL3
    go_wp2_with fail
    clear hkn
    have D := fun w' (h : Below w23.heap.size w23.drew w') => BY.three (Below.trans (Below.refl _ _).drew h)
    have DV := fun w' (h : Below w23.heap.size w23.drew w') => BVv.three (Below.trans (Below.refl _ _).drew h)
    refine wp_region_one [(0, true), (2, true), (3, true), (4, true), (5, true), (6, true), (1, false), (7, true), (8, true), (9, true), (10, true), (12, true), (13, true), (11, false), (14, false), (15, false), (16, true), (17, true), (18, true), (19, true), (20, true), (21, true), (23, true), (24, true), (25, true), (22, false), (26, false), (27, false), (28, true), (29, true), (30, true), (31, true), (32, true), (34, true), (35, true), (33, false), (36, false), (37, false), (38, true), (39, true)] (by kernel_rfl) (by kernel_rfl) (by kernel_rfl) (by decide) ?_
    repeat ((with_reducible show wpPerm _ _ _ _ ((_, true) :: _) _ _); (first | (refine wpPerm_on (v := ?_) rfl rfl (wanted_free rfl) (fun w' hS => ?_) ?_; rotate_left; (focus (go_simp; (try with_reducible rfl); done)); try simp only [List.setIfInBounds_toArray, List.set_cons_zero, List.set_cons_succ]) | (refine wpPerm_on (v := ?_) rfl rfl (wanted_yes rfl rfl rfl) (fun w' hS => ?_) ?_; rotate_left; (focus (go_simp; (try with_reducible rfl); done)); try simp only [List.setIfInBounds_toArray, List.set_cons_zero, List.set_cons_succ]) | (refine wpPerm_off rfl rfl (wanted_no rfl rfl rfl) ?_; try simp only [List.setIfInBounds_toArray, List.set_cons_zero, List.set_cons_succ]) | (refine wpPerm_off rfl rfl (wanted_undef rfl rfl rfl) ?_; try simp only [List.setIfInBounds_toArray, List.set_cons_zero, List.set_cons_succ])))
    refine wpPerm_do rfl (wanted_free rfl) (fun K hK => ?_); go_simp
    refine (len_ ws g (g + 1) col S.key Ax cx _ (hP.out.ix.ext (Below.refl _ _).drew)).mono ?_
    rintro e w30 ⟨rfl, rfl⟩
    refine hK.out _ _ (Below.refl _ _) ?_
    clear hK K
    repeat ((with_reducible show wpPerm _ _ _ _ ((_, true) :: _) _ _); (first | (refine wpPerm_on (v := ?_) rfl rfl (wanted_free rfl) (fun w' hS => ?_) ?_; rotate_left; (focus (go_simp; (try with_reducible rfl); done)); try simp only [List.setIfInBounds_toArray, List.set_cons_zero, List.set_cons_succ]) | (refine wpPerm_on (v := ?_) rfl rfl (wanted_yes rfl rfl rfl) (fun w' hS => ?_) ?_; rotate_left; (focus (go_simp; (try with_reducible rfl); done)); try simp only [List.setIfInBounds_toArray, List.set_cons_zero, List.set_cons_succ]) | (refine wpPerm_off rfl rfl (wanted_no rfl rfl rfl) ?_; try simp only [List.setIfInBounds_toArray, List.set_cons_zero, List.set_cons_succ]) | (refine wpPerm_off rfl rfl (wanted_undef rfl rfl rfl) ?_; try simp only [List.setIfInBounds_toArray, List.set_cons_zero, List.set_cons_succ])))
    refine wpPerm_do rfl (wanted_yes rfl rfl rfl) (fun K hK => ?_); go_simp
    refine (keys_ ws u g (g + 1) col S.key Ax cx _ (hP.out.ix.ext (Below.refl _ _).drew) (by omega)).mono ?_
    rintro e w31 ⟨A31, c31, rfl, hown31, hb31⟩
    rw [HL1.out] at hown31 ⊢
    refine hK.out _ _ hb31 ?_
    clear hK K
    have hc31 := Below.trans ((Below.refl w23.heap.size w23).drew) hb31
    refine wpPerm_do rfl (wanted_yes rfl rfl rfl) (fun K hK => ?_); go_simp
    refine (rkeys_ (ws.map (·.e)) u gy col S.key Ay cy _ (hP.out.ry.ext hc31) (by rw [List.length_map]; omega) hcu).mono ?_
    rintro e w32 ⟨A32, c32, rfl, hown32, hb32⟩
    rw [HL1.out] at hown32 ⊢
    have hb31 := Below.trans hb31 (Below.mono hb32 hb31.size)
    refine hK.out _ _ hb31 ?_
    clear hK K
    refine wpPerm_do rfl (wanted_yes rfl rfl rfl) (fun K hK => ?_); go_simp
    refine (rrowSame_ L1 0 0 A31 A32 L1.length c31 L1.length c32 _ (by omega) ((Vs.of_own (own_ext hown31 hb32)).base (Nat.zero_le _)) ((Vs.of_own hown32).base (Nat.zero_le _))).mono ?_
    rintro e w33 ⟨rfl, hb33⟩
    have hb31 := Below.trans hb31 (Below.mono hb33 hb31.size)
    refine hK.out _ _ hb31 ?_
    clear hK K hown31 hown32 hb32 hb33 hc31
    repeat ((with_reducible show wpPerm _ _ _ _ ((_, true) :: _) _ _); (first | (refine wpPerm_on (v := ?_) rfl rfl (wanted_free rfl) (fun w' hS => ?_) ?_; rotate_left; (focus (go_simp; (try with_reducible rfl); done)); try simp only [List.setIfInBounds_toArray, List.set_cons_zero, List.set_cons_succ]) | (refine wpPerm_on (v := ?_) rfl rfl (wanted_yes rfl rfl rfl) (fun w' hS => ?_) ?_; rotate_left; (focus (go_simp; (try with_reducible rfl); done)); try simp only [List.setIfInBounds_toArray, List.set_cons_zero, List.set_cons_succ]) | (refine wpPerm_off rfl rfl (wanted_no rfl rfl rfl) ?_; try simp only [List.setIfInBounds_toArray, List.set_cons_zero, List.set_cons_succ]) | (refine wpPerm_off rfl rfl (wanted_undef rfl rfl rfl) ?_; try simp only [List.setIfInBounds_toArray, List.set_cons_zero, List.set_cons_succ])))
    refine wpPerm_do rfl (wanted_yes rfl rfl rfl) (fun K hK => ?_); go_simp
    have hc31 := Below.trans ((Below.refl w23.heap.size w23).drew) hb31
    refine (from_ ws u kn g (g + 1) col S.key Ax cx _ (hP.out.ix.ext hc31) (by omega)).mono ?_
    rintro e w34 ⟨A31, c31, rfl, hown31, hb34⟩
    rw [HL2.out] at hown31 ⊢
    have hb31 := Below.trans hb31 (Below.mono hb34 hb31.size)
    refine hK.out _ _ hb31 ?_
    clear hK K hc31 hb34
    have hc31 := Below.trans ((Below.refl w23.heap.size w23).drew) hb31
    refine wpPerm_do rfl (wanted_yes rfl rfl rfl) (fun K hK => ?_); go_simp
    refine (rfrom_ (ws.map (·.e)) u kn gy col S.key Ay cy _ (hP.out.ry.ext hc31) (by rw [List.length_map]; omega) hcu).mono ?_
    rintro e w35 ⟨A32, c32, rfl, hown32, hb35⟩
    rw [HL2.out] at hown32 ⊢
    have hb31 := Below.trans hb31 (Below.mono hb35 hb31.size)
    refine hK.out _ _ hb31 ?_
    clear hK K
    refine wpPerm_do rfl (wanted_yes rfl rfl rfl) (fun K hK => ?_); go_simp
    refine (rrowSame_ L2 0 0 A31 A32 L2.length c31 L2.length c32 _ (by omega) ((Vs.of_own (own_ext hown31 hb35)).base (Nat.zero_le _)) ((Vs.of_own hown32).base (Nat.zero_le _))).mono ?_
    rintro e w36 ⟨rfl, hb36⟩
    have hb31 := Below.trans hb31 (Below.mono hb36 hb31.size)
    refine hK.out _ _ hb31 ?_
    clear hK K hown31 hown32 hb35 hb36 hc31
    repeat ((with_reducible show wpPerm _ _ _ _ ((_, true) :: _) _ _); (first | (refine wpPerm_on (v := ?_) rfl rfl (wanted_free rfl) (fun w' hS => ?_) ?_; rotate_left; (focus (go_simp; (try with_reducible rfl); done)); try simp only [List.setIfInBounds_toArray, List.set_cons_zero, List.set_cons_succ]) | (refine wpPerm_on (v := ?_) rfl rfl (wanted_yes rfl rfl rfl) (fun w' hS => ?_) ?_; rotate_left; (focus (go_simp; (try with_reducible rfl); done)); try simp only [List.setIfInBounds_toArray, List.set_cons_zero, List.set_cons_succ]) | (refine wpPerm_off rfl rfl (wanted_no rfl rfl rfl) ?_; try simp only [List.setIfInBounds_toArray, List.set_cons_zero, List.set_cons_succ]) | (refine wpPerm_off rfl rfl (wanted_undef rfl rfl rfl) ?_; try simp only [List.setIfInBounds_toArray, List.set_cons_zero, List.set_cons_succ])))
    refine wpPerm_do rfl (wanted_yes rfl rfl rfl) (fun K hK => ?_); go_simp
    have hc31 := Below.trans ((Below.refl w23.heap.size w23).drew) hb31
    refine (from_ ws ⟨0, 0, ⟨#[]⟩⟩ 99 g (g + 1) col S.key Ax cx _ (hP.out.ix.ext hc31) (by omega)).mono ?_
    rintro e w37 ⟨A31, c31, rfl, hown31, hb37⟩
    rw [HL3.out] at hown31 ⊢
    have hb31 := Below.trans hb31 (Below.mono hb37 hb31.size)
    refine hK.out _ _ hb31 ?_
    clear hK K hc31 hb37
    have hc31 := Below.trans ((Below.refl w23.heap.size w23).drew) hb31
    refine wpPerm_do rfl (wanted_yes rfl rfl rfl) (fun K hK => ?_); go_simp
    refine (rfrom_ (ws.map (·.e)) ⟨0, 0, ⟨#[]⟩⟩ 99 gy col S.key Ay cy _ (hP.out.ry.ext hc31) (by rw [List.length_map]; omega) (by rfl)).mono ?_
    rintro e w38 ⟨A32, c32, rfl, hown32, hb38⟩
    rw [HL3.out] at hown32 ⊢
    have hb31 := Below.trans hb31 (Below.mono hb38 hb31.size)
    refine hK.out _ _ hb31 ?_
    clear hK K
    refine wpPerm_do rfl (wanted_yes rfl rfl rfl) (fun K hK => ?_); go_simp
    refine (rrowSame_ L3 0 0 A31 A32 L3.length c31 L3.length c32 _ (by omega) ((Vs.of_own (own_ext hown31 hb38)).base (Nat.zero_le _)) ((Vs.of_own hown32).base (Nat.zero_le _))).mono ?_
    rintro e w39 ⟨rfl, hb39⟩
    have hb31 := Below.trans hb31 (Below.mono hb39 hb31.size)
    refine hK.out _ _ hb31 ?_
    clear hK K hown31 hown32 hb38 hb39 hc31
    repeat ((with_reducible show wpPerm _ _ _ _ ((_, true) :: _) _ _); (first | (refine wpPerm_on (v := ?_) rfl rfl (wanted_free rfl) (fun w' hS => ?_) ?_; rotate_left; (focus (go_simp; (try with_reducible rfl); done)); try simp only [List.setIfInBounds_toArray, List.set_cons_zero, List.set_cons_succ]) | (refine wpPerm_on (v := ?_) rfl rfl (wanted_yes rfl rfl rfl) (fun w' hS => ?_) ?_; rotate_left; (focus (go_simp; (try with_reducible rfl); done)); try simp only [List.setIfInBounds_toArray, List.set_cons_zero, List.set_cons_succ]) | (refine wpPerm_off rfl rfl (wanted_no rfl rfl rfl) ?_; try simp only [List.setIfInBounds_toArray, List.set_cons_zero, List.set_cons_succ]) | (refine wpPerm_off rfl rfl (wanted_undef rfl rfl rfl) ?_; try simp only [List.setIfInBounds_toArray, List.set_cons_zero, List.set_cons_succ])))
    refine wpPerm_done ?_
    clear D DV
    have hPn := Lib.hid (hP.out.ext (Below.trans ((Below.refl w23.heap.size w23).drew) hb31))
    clear hb31
    go_wp2
    go_roundw
    case rel => exact ⟨k + 1, by go_num, by omega, by omega, _, _, _, _, _, _, _, _, _, hPn.out⟩
    case measure => simp [intOf]; omega
end Go.Proofs.Ytnlmbjmgmofeiaa.ix
