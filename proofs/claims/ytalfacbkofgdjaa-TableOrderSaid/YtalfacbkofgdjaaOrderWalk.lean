/- TableOrder: the walk. Printed by genlaw.py. -/
import Derived.Test.YtalfacbkofgdjaaTv
import Derived.Test.YtalfacbkofgdjaaTArg
import Derived.Test.YtalfacbkofgdjaaT
namespace Go.Proofs.Ytalfacbkofgdjaa.tb
open Go.ChangeShapes Go.WideShapes Go.ChangeAt Go.RowKit Go.Proofs.Ytalfacbkofgdjaa.lib Go.Proofs.Ytalfacbkofgdjaa.val
set_option linter.unusedVariables false

set_option maxRecDepth 1000000 in
set_option maxHeartbeats 8000000 in
theorem order_walk (s : ByteArray) (A : Option Addr) (n c : Nat) (l : List Col) (key : Int) (only : Bool) (Ai : Option Addr) (ni ci : Nat) (zs : List Int) (Ab : Option Addr) (nb cb : Nat) (bs : List Bool) (w : World) (hs : s.size ≤ maxLen) (hC : Cs w 0 A n c l) (hn : n ≤ maxLen) (hp : ∀ x ∈ l, RawC x) (hkey : ok64 key)
    (hI : Row w 0 Ai ni ci (flatK encI zs)) (hni : zs.length = ni) (hi2 : ni ≤ maxLen) (hz : ∀ x ∈ zs, ok64 x) (hB : Row w 0 Ab nb cb (flatK encB bs)) (hnb : bs.length = nb) (hb2' : nb ≤ maxLen) :
    Calls Try.prog 3 #[.agg #[.string s, .slice A n c, .int .i64 key, .bool only], .slice Ai ni ci, .slice Ab nb cb] w fun e W' => e = .returned (.bool true) ∧ Below w.heap.size w W' := by
  unfold maxLen at hi2 hb2'
  have HNI := Lib.hid hni
  have HNB := Lib.hid hnb
  have HZ := Lib.hid hz
  clear hni hnb hz
  go_enter Try.func3, Try.ntmps3
  go_upto_region 1 with fail
  obtain ⟨W0, hW_, hbW0, BS⟩ : ∃ W_, W_ = (w.alloc (.cells #[.string s, .slice A n c, .int .i64 key, .bool only] 24)) ∧ Below w.heap.size w W_ ∧ Blk W_ (w.heap.size) 24 #[.string s, .slice A n c, .int .i64 key, .bool only] :=
    ⟨_, rfl, ((Below.refl _ _).alloc (Nat.le_refl _) _), (blk_new_at w (w.heap.size) _ _ (by simp))⟩
  rw [← hW_]
  clear hW_
  go_wp2_with fail
  refine (known_ _).mono ?_
  rintro e w1 ⟨rfl, hb1⟩
  have hbw1 := Below.trans hbW0 (Below.mono hb1 hbW0.size)
  have BS := BS.ext hb1
  clear hbW0 hb1
  have q := four BS (Below.refl _ _)
  go_wp2_with fail
  refine (few9_ s A n c l key only _ hs (hC.ext hbw1) hn (fun x hx => (hp x hx).s)).mono ?_
  rintro e w2 ⟨⟨b, rfl⟩, hb2⟩
  have hbw2 := Below.trans hbw1 (Below.mono hb2 hbw1.size)
  have BS := BS.ext hb2
  clear hbw1 hb2 q
  by_cases hbt : b = true
  case neg =>
    obtain rfl : b = false := by cases b with | false => rfl | true => exact absurd rfl hbt
    go_wp2
    go_ret
    exact ⟨rfl, hbw2⟩
  subst hbt
  have q := four BS (Below.refl _ _)
  go_wp2_with fail
  refine (good9_ s A n c l key only _ (hC.ext hbw2) hn hp hkey).mono ?_
  rintro e w3 ⟨A7, c7, rfl, hC7, hF7, hb3⟩
  have hbw3 := Below.trans hbw2 (Below.mono hb3 hbw2.size)
  have hS : SOk (goodS l key only) := good_ok l key only
  generalize goodS l key only = S at *
  clear hbw2 hb3 q BS
  have h6 := hS.six
  have hn7 : S.cols.length ≤ 100 := by omega
  simp only [schA]
  go_wp2_with fail
  obtain ⟨W, hW_, hbW1, B7, B8⟩ : ∃ W_, W_ = ((w3.alloc (.cells #[.string S.name, .slice A7 S.cols.length c7, .int .i64 S.key, .bool S.only] 24)).alloc (.cells #[.string S.name, .slice A7 S.cols.length c7, .int .i64 S.key, .bool S.only, .slice none 0 0] 32)) ∧ Below w3.heap.size w3 W_ ∧ Blk W_ (w3.heap.size) 24 #[.string S.name, .slice A7 S.cols.length c7, .int .i64 S.key, .bool S.only] ∧ Blk W_ (w3.heap.size + 1) 32 #[.string S.name, .slice A7 S.cols.length c7, .int .i64 S.key, .bool S.only, .slice none 0 0] :=
    ⟨_, rfl, (((Below.refl _ _).alloc (Nat.le_refl _) _).alloc (by simp; try omega) _), ((blk_new_at w3 (w3.heap.size) _ _ (by simp)).alloc _), (blk_new_at (w3.alloc (.cells #[.string S.name, .slice A7 S.cols.length c7, .int .i64 S.key, .bool S.only] 24)) (w3.heap.size + 1) _ _ (by simp))⟩
  rw [← hW_]
  clear hW_
  have hbW := Below.trans hbw3 (Below.mono hbW1 hbw3.size)
  have hV0 : TabV 32 W (w3.heap.size + 1) S [] := ⟨_, _, _, _, _, _, B8, (hC7.ext hbW1).base (Nat.zero_le _), Rs.nil _ _, .inl rfl⟩
  have hgw : w.heap.size ≤ w3.heap.size := hbw3.size
  have hCs : Hid (∀ w', Below w3.heap.size w3 w' → Cs w' 0 A7 S.cols.length c7 S.cols) := Lib.hid (fun w' h => (hC7.ext h).base (Nat.zero_le _))
  have hg3 : Below w3.heap.size w3 W := hbW1
  clear B8 hbW1 hC7 hF7
  go_loopw [9, 10] (fun m i wr => ∃ (k : Nat) (rows : List (List V)), i = .int .i64 k ∧ k ≤ ni ∧ k ≤ 60 ∧ m = .int .i64 rows.length ∧ rows.length ≤ k ∧ Hid (Ok S.cols S.key rows) ∧ TabV 32 wr (w3.heap.size + 1) S rows ∧ Blk wr w3.heap.size 24 #[.string S.name, .slice A7 S.cols.length c7, .int .i64 S.key, .bool S.only] ∧ Below w3.heap.size w3 wr) (fun _ i _ => ni - (intOf i).toNat)
  case atStart => exact ⟨0, [], rfl, Nat.zero_le _, Nat.zero_le _, rfl, Nat.zero_le _, Lib.hid hS.ok0, hV0, B7, hg3⟩
  case round =>
    clear hV0 hbW B7 hg3
    obtain ⟨k, rows, rfl, hk, hk60, rfl, hlen, hOk, hV, B7, hbg⟩ := hrel
    have hbw := Below.trans hbw3 (Below.mono hbg hbw3.size)
    by_cases hgo : k < ni ∧ k < 60
    case neg =>
      obtain ⟨wo, hwo⟩ : ∃ wo : World, wo = wr := ⟨_, rfl⟩
      subst hwo
      have hcond : (¬ k < ni ∧ decide ((k : Int) < (ni : Int)) = false) ∨ (k < ni ∧ decide ((k : Int) < (ni : Int)) = true ∧ ¬ k < 60 ∧ decide ((k : Int) < 60) = false) := by
        by_cases h : k < ni
        · exact .inr ⟨h, by simp; omega, by omega, by simp; omega⟩
        · exact .inl ⟨h, by simp; omega⟩
      obtain ⟨A1, n1, c1, A2, n2, c2, B8, hC8, hR8, hF8⟩ := hV
      have hlen8 := Lib.hid hR8.len
      have hOk8 := hOk
      clear hgo
      obtain ⟨rn, hrn⟩ : ∃ rn, rows.length = rn := ⟨_, rfl⟩
      have hrnn : Hid (n2 = rn) := Lib.hid (by rw [← hrn]; exact hlen8.out.symm)
      have hRN := Lib.hid hrn
      rw [hrn] at hlen ⊢
      clear hrn
      obtain ⟨hs8, R8, H8, _⟩ := hR8
      rcases hcond with ⟨hq0, hd1⟩ | ⟨hq0, hd1, hq1, hd2⟩
      all_goals
        go_wp2_with fail
        go_loopw [17] (fun i wx => ∃ j : Nat, i = .int .i64 ((j : Int) + 1) ∧ j ≤ rn ∧ Below wo.heap.size wo wx) (fun i _ => rn - (intOf i).toNat)
        case atStart => exact ⟨0, rfl, Nat.zero_le _, Below.refl _ _⟩
        case round =>
          obtain ⟨j, rfl, hj, hbj⟩ := hrel
          have q8 := five B8 hbj
          rcases Nat.lt_or_ge (j + 1) n2 with hlt | hge
          case inr =>
            have hdj : decide ((j : Int) + 1 < (n2 : Int)) = false := by simp; omega
            go_wp2
            go_ret
            exact ⟨ret_bool (by simp; have := hrnn.out; omega), Below.trans hbw (Below.mono hbj hbw.size)⟩
          have hdj : decide ((j : Int) + 1 < (n2 : Int)) = true := by simp; omega
          have hj1 : (j : Int) + 1 < (n2 : Int) := by omega
          have hj0 : (j : Int) < (n2 : Int) := by omega
          have hz0 : ∀ a : Nat, (0 : Int) ≤ (a : Int) + 1 := fun a => by omega
          have hwj : IntKind.i64.wrap (j : Int) = (j : Int) := IntWalk.i64_in _ ⟨by omega, by omega⟩
          have hl8 : j + 1 < rows.length := by rw [hlen8.out]; exact hlt
          have hp8 := List.pairwise_iff_getElem.1 hOk8.out.ord j (j + 1) (by omega) hl8 (by omega)
          obtain ⟨ra, hra⟩ : ∃ r, rows[j]? = some r := ⟨_, List.getElem?_eq_getElem (by omega)⟩
          obtain ⟨rb, hrb⟩ : ∃ r, rows[j + 1]? = some r := ⟨_, List.getElem?_eq_getElem hl8⟩
          have ea : rows[j] = ra := by rw [List.getElem?_eq_getElem (by omega)] at hra; injection hra
          have eb : rows[j + 1] = rb := by rw [List.getElem?_eq_getElem hl8] at hrb; injection hrb
          rw [ea, eb] at hp8
          obtain ⟨va, hva, hka, hca⟩ := key_chk hOk8.out.kl (hOk8.out.fit ra (List.mem_of_getElem? hra))
          obtain ⟨vb, hvb, hkb, hcb⟩ := key_chk hOk8.out.kl (hOk8.out.fit rb (List.mem_of_getElem? hrb))
          rw [hka, hkb, ← rcmp_eq hca hcb] at hp8
          have hcmp : decide (0 ≤ rcmpV va vb) = false := by simp; omega
          have hsa : va.s.size ≤ maxLen := by have := (chk_form hca).2.2.2.2.2; unfold maxLen; omega
          have hsb : vb.s.size ≤ maxLen := by have := (chk_form hcb).2.2.2.2.2; unfold maxLen; omega
          obtain ⟨b8, o8, rfl, _, _, hb8⟩ := R8.some_ (by omega)
          obtain ⟨Aa, ca, hea, hvsa⟩ := H8.at_ hra
          obtain ⟨Ab2, cb2, heb, hvsb⟩ := H8.at_ hrb
          have hla := (List.getElem?_eq_some_iff.1 hva).1
          have hlb := (List.getElem?_eq_some_iff.1 hvb).1
          obtain ⟨ba, oa, rfl, _, _, _⟩ := hvsa.1.some_ (by omega)
          obtain ⟨bb, ob, rfl, _, _, _⟩ := hvsb.1.some_ (by omega)
          have hka1 : (S.key : Int) < (ra.length : Int) := by omega
          have hkb1 : (S.key : Int) < (rb.length : Int) := by omega
          have HVA := Lib.hid hva
          have HVB := Lib.hid hvb
          clear hp8 hra hrb ea eb hva hka hca hvb hkb hcb hla hlb
          go_wp2_with fail
          clear q8
          have D8 := fun w' (h : Below wr.heap.size wr.drew w') => five B8 (Below.trans hbj.drew (Below.mono h hbj.size))
          have D7 := fun w' (h : Below wr.heap.size wr.drew w') => four B7 (Below.trans hbj.drew (Below.mono h hbj.size))
          have Da := fun w' (h : Below wr.heap.size wr.drew w') => (R8.ext (Below.trans hbj.drew (Below.mono h hbj.size))).at_ hea
          have Db := fun w' (h : Below wr.heap.size wr.drew w') => (R8.ext (Below.trans hbj.drew (Below.mono h hbj.size))).at_ heb
          have Dva := fun w' (h : Below wr.heap.size wr.drew w') => (hvsa.ext (Below.trans hbj.drew (Below.mono h hbj.size))).at_ HVA.out
          have Dvb := fun w' (h : Below wr.heap.size wr.drew w') => (hvsb.ext (Below.trans hbj.drew (Below.mono h hbj.size))).at_ HVB.out
          refine wp_region_one [(0, true), (1, true), (2, true), (3, true), (4, true), (5, true), (6, true), (7, true), (8, true), (9, true), (10, true), (11, true), (12, true), (13, true), (14, true), (15, true), (16, true), (17, true), (18, true), (19, false), (20, true)] (by kernel_rfl) (by kernel_rfl) (by kernel_rfl) (by decide) ?_
          repeat ((with_reducible show wpPerm _ _ _ _ ((_, true) :: _) _ _); (first | (refine wpPerm_on (v := ?_) rfl rfl (wanted_free rfl) (fun w' hS => ?_) ?_; rotate_left; (focus (go_simp; (try with_reducible rfl); done)); try simp only [List.setIfInBounds_toArray, List.set_cons_zero, List.set_cons_succ]) | (refine wpPerm_on (v := ?_) rfl rfl (wanted_yes rfl rfl rfl) (fun w' hS => ?_) ?_; rotate_left; (focus (go_simp; (try with_reducible rfl); done)); try simp only [List.setIfInBounds_toArray, List.set_cons_zero, List.set_cons_succ]) | (refine wpPerm_off rfl rfl (wanted_no rfl rfl rfl) ?_; try simp only [List.setIfInBounds_toArray, List.set_cons_zero, List.set_cons_succ]) | (refine wpPerm_off rfl rfl (wanted_undef rfl rfl rfl) ?_; try simp only [List.setIfInBounds_toArray, List.set_cons_zero, List.set_cons_succ])))
          refine wpPerm_do rfl (wanted_free rfl) (fun K hK => ?_); go_simp
          refine (rcmp_ va vb _ hsa hsb).mono ?_
          rintro e w8 ⟨rfl, hb9⟩
          refine hK.out _ _ hb9 ?_
          clear hK K
          repeat ((with_reducible show wpPerm _ _ _ _ ((_, true) :: _) _ _); (first | (refine wpPerm_on (v := ?_) rfl rfl (wanted_free rfl) (fun w' hS => ?_) ?_; rotate_left; (focus (go_simp; (try with_reducible rfl); done)); try simp only [List.setIfInBounds_toArray, List.set_cons_zero, List.set_cons_succ]) | (refine wpPerm_on (v := ?_) rfl rfl (wanted_yes rfl rfl rfl) (fun w' hS => ?_) ?_; rotate_left; (focus (go_simp; (try with_reducible rfl); done)); try simp only [List.setIfInBounds_toArray, List.set_cons_zero, List.set_cons_succ]) | (refine wpPerm_off rfl rfl (wanted_no rfl rfl rfl) ?_; try simp only [List.setIfInBounds_toArray, List.set_cons_zero, List.set_cons_succ]) | (refine wpPerm_off rfl rfl (wanted_undef rfl rfl rfl) ?_; try simp only [List.setIfInBounds_toArray, List.set_cons_zero, List.set_cons_succ])))
          refine wpPerm_done ?_
          clear D8 D7 Da Db Dva Dvb
          go_wp2
          go_roundw
          case rel => exact ⟨j + 1, by go_num, by have := hrnn.out; omega, Below.trans hbj.drew (Below.mono hb9 hbj.size)⟩
          case measure => simp [intOf]; have := hrnn.out; omega
    obtain ⟨hgo1, hgo2⟩ := hgo
    have hd1 : decide ((k : Int) < (ni : Int)) = true := by simp; omega
    have hd2 : decide ((k : Int) < 60) = true := by simp; omega
    have hkni : (k : Int) < (ni : Int) := by omega
    obtain ⟨x, hx⟩ : ∃ x, zs[k]? = some x := ⟨_, List.getElem?_eq_getElem (by rw [HNI.out]; exact hgo1)⟩
    have hx64 := HZ.out x (List.mem_of_getElem? hx)
    obtain ⟨bi, oi, rfl, _, _, _⟩ := hI.some_ (by omega)
    have hxc := flatK_at encI 1 (fun _ => rfl) zs k x 0 _ hx rfl
    have HXC := Lib.hid hxc
    clear hxc hx
    go_wp2_with fail
    have D := fun w' (h : Below wr.heap.size wr.drew w') => four B7 (Below.trans (Below.refl _ _).drew h)
    have D2 := fun w' (h : Below wr.heap.size wr.drew w') => (hI.ext (Below.trans hbw.drew (Below.mono h hbw.size))).at_ HXC.out
    simp only [Nat.mul_one, Nat.add_zero] at D2
    refine wp_region_one [(0, true), (1, true), (2, true), (3, true), (4, true), (5, false), (6, true)] (by kernel_rfl) (by kernel_rfl) (by kernel_rfl) (by decide) ?_
    repeat ((with_reducible show wpPerm _ _ _ _ ((_, true) :: _) _ _); (first | (refine wpPerm_on (v := ?_) rfl rfl (wanted_free rfl) (fun w' hS => ?_) ?_; rotate_left; (focus (go_simp; (try with_reducible rfl); done)); try simp only [List.setIfInBounds_toArray, List.set_cons_zero, List.set_cons_succ]) | (refine wpPerm_on (v := ?_) rfl rfl (wanted_yes rfl rfl rfl) (fun w' hS => ?_) ?_; rotate_left; (focus (go_simp; (try with_reducible rfl); done)); try simp only [List.setIfInBounds_toArray, List.set_cons_zero, List.set_cons_succ]) | (refine wpPerm_off rfl rfl (wanted_no rfl rfl rfl) ?_; try simp only [List.setIfInBounds_toArray, List.set_cons_zero, List.set_cons_succ]) | (refine wpPerm_off rfl rfl (wanted_undef rfl rfl rfl) ?_; try simp only [List.setIfInBounds_toArray, List.set_cons_zero, List.set_cons_succ])))
    refine wpPerm_do rfl (wanted_free rfl) (fun K hK => ?_); go_simp
    refine (fit_ S 0 A7 S.cols.length c7 x _ (hCs.out _ hbg.drew) hn7 hS.kinds hx64.1 hx64.2).mono ?_
    rintro e w5 ⟨Ar, cr, rfl, hown5, hb5⟩
    refine hK.out _ _ hb5 ?_
    clear hK K
    repeat ((with_reducible show wpPerm _ _ _ _ ((_, true) :: _) _ _); (first | (refine wpPerm_on (v := ?_) rfl rfl (wanted_free rfl) (fun w' hS => ?_) ?_; rotate_left; (focus (go_simp; (try with_reducible rfl); done)); try simp only [List.setIfInBounds_toArray, List.set_cons_zero, List.set_cons_succ]) | (refine wpPerm_on (v := ?_) rfl rfl (wanted_yes rfl rfl rfl) (fun w' hS => ?_) ?_; rotate_left; (focus (go_simp; (try with_reducible rfl); done)); try simp only [List.setIfInBounds_toArray, List.set_cons_zero, List.set_cons_succ]) | (refine wpPerm_off rfl rfl (wanted_no rfl rfl rfl) ?_; try simp only [List.setIfInBounds_toArray, List.set_cons_zero, List.set_cons_succ]) | (refine wpPerm_off rfl rfl (wanted_undef rfl rfl rfl) ?_; try simp only [List.setIfInBounds_toArray, List.set_cons_zero, List.set_cons_succ])))
    refine wpPerm_done ?_
    clear D D2
    have hbx := Below.trans (Below.refl _ wr).drew hb5
    have hVr : Vs w5 0 Ar S.cols.length cr (fitL S.cols x) := (Vs.of_own hown5).base (Nat.zero_le _)
    have hV := hV.ext hbx
    have B7 := B7.ext hbx
    have hbg := Below.trans hbg (Below.mono hbx hbg.size)
    have hbw := Below.trans hbw3 (Below.mono hbg hbw3.size)
    clear hown5 hb5 hbx HXC
    obtain ⟨r, hr⟩ : ∃ r, fitL S.cols x = r := ⟨_, rfl⟩
    have hrf : Hid (fitsL S.cols r = 0) := Lib.hid (by rw [← hr]; exact fit_fits hS.kinds x)
    rw [hr] at hVr
    have hrs : Small r := by
      intro v hv
      obtain ⟨i, hi, hv⟩ := List.getElem_of_mem hv
      obtain ⟨cc, _, hch, _⟩ := fits_at hrf.out (by rw [List.getElem?_eq_getElem hi, hv])
      have := (chk_form hch).2.2.2.2.2
      unfold maxLen; omega
    have hrs := Lib.hid hrs
    obtain ⟨kv, hkv, hke, hkc⟩ := key_chk hS.key hrf.out
    have HKV := Lib.hid hkv
    have HKE := Lib.hid hke
    clear hr hkv hke hkc
    by_cases htk : k < nb ∧ bs[k]? = some true
    case pos =>
      obtain ⟨htk1, htk2⟩ := htk
      have hdt : decide ((k : Int) < (nb : Int)) = true := by simp; omega
      have hkbi : (k : Int) < (nb : Int) := by omega
      obtain ⟨bB, oB, rfl, _, _, _⟩ := hB.some_ (by omega)
      have hqb := flatK_at encB 1 (fun _ => rfl) bs k true 0 _ htk2 rfl
      have qb := (hB.ext hbw).at_ hqb
      simp only [Nat.mul_one, Nat.add_zero] at qb
      clear hqb htk2
      obtain ⟨A1, n1, c1, A2, n2, c2, B8, hC8, hR8, hF8⟩ := hV
      have hkl : S.key < S.cols.length := hS.key
      obtain ⟨br, or_, rfl, _, _, _⟩ := hVr.1.some_ (by omega)
      have hki : (S.key : Int) < (S.cols.length : Int) := by omega
      have hok' := takeL_ok hOk.out kv
      have htl := take_len (key := S.key) (rows := rows) (k := kv)
      have htake := fun w' (h : Below w5.heap.size w5 w') => take_ S rows kv 0 A1 n1 c1 A2 n2 c2 w' (hC8.ext h) (hR8.ext h) hF8 hOk.out hn7 (by omega)
      obtain ⟨p, hp⟩ : ∃ p, takeL S.key rows kv = p := ⟨_, rfl⟩
      rw [hp] at hok' htl htake
      have Htake := Lib.hid htake
      have Hok' := Lib.hid hok'
      have Htl := Lib.hid htl
      clear hp hok' htl htake
      have hz8 : w3.heap.size + 1 < w5.heap.size := B8.lt
      go_wp2_with fail
      clear qb
      have D8 := fun w' (h : Below w5.heap.size w5.drew w') => five B8 (Below.trans (Below.refl _ _).drew h)
      have D7 := fun w' (h : Below w5.heap.size w5.drew w') => four B7 (Below.trans (Below.refl _ _).drew h)
      have Dr := fun w' (h : Below w5.heap.size w5.drew w') => (hVr.ext (Below.trans (Below.refl _ _).drew h)).at_ HKV.out
      refine wp_region_tree (S := fun w' => Below w5.heap.size w5.drew w') (.take 0 (.take 1 (.take 2 (.take 3 (.take 4 (.take 5 (.two 6 11 (.take 7 (.take 8 (.take 9 (.take 10 (.one 11 (.one 12 (.take 13 (.take 14 .nil)))))))) (.one 6 (.take 7 (.take 8 (.take 9 (.take 10 (.one 12 (.take 13 (.take 14 .nil)))))))))))))))
        (by kernel_rfl) (by kernel_rfl) (by kernel_rfl) (by decide) (by intro c a d v w h; cases d <;> exact h) (Below.refl _ _) ?_
      repeat ((with_reducible show wpTree _ _ _ _ (.take _ _) _ _); (first | (refine wpTree_on (v := ?_) rfl rfl (wanted_free rfl) (fun w' hS => ?_) ?_; rotate_left; (focus (go_simp; (try with_reducible rfl); done)); try simp only [List.setIfInBounds_toArray, List.set_cons_zero, List.set_cons_succ]) | (refine wpTree_on (v := ?_) rfl rfl (wanted_yes rfl rfl rfl) (fun w' hS => ?_) ?_; rotate_left; (focus (go_simp; (try with_reducible rfl); done)); try simp only [List.setIfInBounds_toArray, List.set_cons_zero, List.set_cons_succ]) | (refine wpTree_off rfl rfl (wanted_no rfl rfl rfl) ?_; try simp only [List.setIfInBounds_toArray, List.set_cons_zero, List.set_cons_succ]) | (refine wpTree_off rfl rfl (wanted_undef rfl rfl rfl) ?_; try simp only [List.setIfInBounds_toArray, List.set_cons_zero, List.set_cons_succ])))
      have hd5 : Below w5.heap.size w5 w5.drew := (Below.refl _ _).drew
      have hd5' : w5.heap.size ≤ w5.drew.heap.size := Nat.le_refl _
      clear D8 D7 Dr
      generalize w5.drew = wd at *
      refine wpTree_both rfl (wanted_free rfl) rfl (wanted_free rfl) (fun K hK => ?_) (fun K hK => ?_)
      · go_simp
        refine (Htake.out _ hd5).mono ?_
        rintro e w6 ⟨v, At, mt, ct, rfl, hT6, hVt, hb6⟩
        have hT6' := hT6
        obtain ⟨A5, n5, c5, A6, n6, c6, rfl, _⟩ := hT6
        have hb6' : Below w5.heap.size wd w6 := hb6.mono hd5'
        refine hK.out _ _ hb6' ?_
        clear hK K
        simp only [tabA]
        repeat ((with_reducible show wpTree _ _ _ _ (.take _ _) _ _); (first | (refine wpTree_on (v := ?_) rfl rfl (wanted_free rfl) (fun w' hS => ?_) ?_; rotate_left; (focus (go_simp; (try with_reducible rfl); done)); try simp only [List.setIfInBounds_toArray, List.set_cons_zero, List.set_cons_succ]) | (refine wpTree_on (v := ?_) rfl rfl (wanted_yes rfl rfl rfl) (fun w' hS => ?_) ?_; rotate_left; (focus (go_simp; (try with_reducible rfl); done)); try simp only [List.setIfInBounds_toArray, List.set_cons_zero, List.set_cons_succ]) | (refine wpTree_off rfl rfl (wanted_no rfl rfl rfl) ?_; try simp only [List.setIfInBounds_toArray, List.set_cons_zero, List.set_cons_succ]) | (refine wpTree_off rfl rfl (wanted_undef rfl rfl rfl) ?_; try simp only [List.setIfInBounds_toArray, List.set_cons_zero, List.set_cons_succ])))
        refine wpTree_do rfl (wanted_free rfl) (fun K hK => ?_); go_simp
        refine hK.out _ _ (hb6'.alloc (by have := hb6.size; omega) _) ?_
        clear hK K
        have B12 : Blk (w6.alloc (.cells #[.string ⟨#[]⟩, .slice none 0 0, .int .i64 0, .bool false, .slice none 0 0] 32)) w6.heap.size 32 #[.string ⟨#[]⟩, .slice none 0 0, .int .i64 0, .bool false, .slice none 0 0] := Blk.new _ _ _
        have f0 := B12.frozen 0
        have f1 := B12.frozen 1
        have f2 := B12.frozen 2
        have f3 := B12.frozen 3
        have f4 := B12.frozen 4
        have q := five B12 (Below.refl _ _)
        refine wpTree_do rfl (wanted_free rfl) (fun K hK => ?_); go_simp
        clear f0 f1 f2 f3 f4 q B12
        obtain ⟨w7, hw7⟩ : ∃ w7, w7 = w6.alloc (.cells #[.string S.name, .slice A5 n5 c5, .int .i64 S.key, .bool S.only, .slice A6 n6 c6] 32) := ⟨_, rfl⟩
        have hb67 : Below w6.heap.size w6 w7 := by rw [hw7]; exact (Below.refl _ _).alloc (Nat.le_refl _) _
        have B12 : Blk w7 w6.heap.size 32 #[.string S.name, .slice A5 n5 c5, .int .i64 S.key, .bool S.only, .slice A6 n6 c6] := by rw [hw7]; exact Blk.new _ _ _
        rw [← hw7]
        clear hw7
        have hT7 := hT6'.ext hb67
        have hb7' := Below.trans hb6' (Below.mono hb67 (by have := hb6.size; omega))
        have hb7 : Below w5.heap.size w5 w7 := Below.trans hd5 hb7'
        refine hK.out _ _ hb7' ?_
        clear hK K
        repeat ((with_reducible show wpTree _ _ _ _ (.take _ _) _ _); (first | (refine wpTree_on (v := ?_) rfl rfl (wanted_free rfl) (fun w' hS => ?_) ?_; rotate_left; (focus (go_simp; (try with_reducible rfl); done)); try simp only [List.setIfInBounds_toArray, List.set_cons_zero, List.set_cons_succ]) | (refine wpTree_on (v := ?_) rfl rfl (wanted_yes rfl rfl rfl) (fun w' hS => ?_) ?_; rotate_left; (focus (go_simp; (try with_reducible rfl); done)); try simp only [List.setIfInBounds_toArray, List.set_cons_zero, List.set_cons_succ]) | (refine wpTree_off rfl rfl (wanted_no rfl rfl rfl) ?_; try simp only [List.setIfInBounds_toArray, List.set_cons_zero, List.set_cons_succ]) | (refine wpTree_off rfl rfl (wanted_undef rfl rfl rfl) ?_; try simp only [List.setIfInBounds_toArray, List.set_cons_zero, List.set_cons_succ])))
        refine wpTree_end ?_
        have hbg7 := Below.trans hbg (Below.mono hb7 hbg.size)
        have hbw7 := Below.trans hbw3 (Below.mono hbg7 hbw3.size)
        have B7 := B7.ext hb7
        have B8 : Blk w7 (w3.heap.size + 1) 32 #[.string S.name, .slice A1 n1 c1, .int .i64 S.key, .bool S.only, .slice A2 n2 c2] := B8.ext hb7
        have q12 := five B12 (Below.refl _ _)
        have f0 := B8.frozen 0
        have f1 := B8.frozen 1
        have f2 := B8.frozen 2
        have f3 := B8.frozen 3
        have f4 := B8.frozen 4
        have q8 := five B8 (Below.refl _ _)
        have hTl := Htl.out
        by_cases hp1 : p.1 = 0
        · rw [if_pos hp1] at hTl
          have hdp : (p.1 == 0) = true := by simpa using hp1
          have hlen1 : 1 ≤ rows.length := by omega
          have HTL := Lib.hid hTl
          clear hp1 hTl
          go_wp2
          clear f0 f1 f2 f3 f4 q8 q12
          obtain ⟨w9, hw9, hV9, hlow9, hgr9⟩ := setV B8 hT7 (by omega)
          rw [← hw9]
          clear hw9
          go_roundw
          case rel => exact ⟨k + 1, p.2, by go_num, by omega, by omega, by have := HTL.out; simp; omega, by have := HTL.out; omega, Lib.hid Hok'.out, hV9, B7.grown hgr9 (by simp), Below.trans hbg7 (hlow9 _ (Nat.le_succ _))⟩
          case measure => simp [intOf]; omega
        · rw [if_neg hp1] at hTl
          have hdp : (p.1 == 0) = false := by simpa using hp1
          have HTL := Lib.hid hTl
          clear hp1 hTl
          go_wp2
          clear f0 f1 f2 f3 f4 q8 q12
          obtain ⟨w9, hw9, hV9, hlow9, hgr9⟩ := setV B8 hT7 (by omega)
          rw [← hw9]
          clear hw9
          go_roundw
          case rel => exact ⟨k + 1, p.2, by go_num, by omega, by omega, by have := HTL.out; simp; omega, by have := HTL.out; omega, Lib.hid Hok'.out, hV9, B7.grown hgr9 (by simp), Below.trans hbg7 (hlow9 _ (Nat.le_succ _))⟩
          case measure => simp [intOf]; omega
      · go_simp
        refine hK.out _ _ ((Below.refl w5.heap.size wd).alloc hd5' _) ?_
        clear hK K
        have B12 : Blk (wd.alloc (.cells #[.string ⟨#[]⟩, .slice none 0 0, .int .i64 0, .bool false, .slice none 0 0] 32)) wd.heap.size 32 #[.string ⟨#[]⟩, .slice none 0 0, .int .i64 0, .bool false, .slice none 0 0] := Blk.new _ _ _
        have hda : Below w5.heap.size wd (wd.alloc (.cells #[.string ⟨#[]⟩, .slice none 0 0, .int .i64 0, .bool false, .slice none 0 0] 32)) := (Below.refl w5.heap.size wd).alloc hd5' _
        have hgd : wd.heap.size < (wd.alloc (.cells #[.string ⟨#[]⟩, .slice none 0 0, .int .i64 0, .bool false, .slice none 0 0] 32)).heap.size := B12.lt
        generalize hwe : wd.alloc (.cells #[.string ⟨#[]⟩, .slice none 0 0, .int .i64 0, .bool false, .slice none 0 0] 32) = we at *
        clear hwe
        generalize wd.heap.size = g12 at *
        refine wpTree_do rfl (wanted_free rfl) (fun K hK => ?_); go_simp
        refine (Htake.out _ (Below.trans hd5 hda)).mono ?_
        rintro e w6 ⟨v, At, mt, ct, rfl, hT6, hVt, hb6⟩
        have hT6' := hT6
        obtain ⟨A5, n5, c5, A6, n6, c6, rfl, _⟩ := hT6
        have hb6' : Below w5.heap.size wd w6 := Below.trans hda (hb6.mono (by omega))
        refine hK.out _ _ hb6' ?_
        clear hK K
        simp only [tabA]
        repeat ((with_reducible show wpTree _ _ _ _ (.take _ _) _ _); (first | (refine wpTree_on (v := ?_) rfl rfl (wanted_free rfl) (fun w' hS => ?_) ?_; rotate_left; (focus (go_simp; (try with_reducible rfl); done)); try simp only [List.setIfInBounds_toArray, List.set_cons_zero, List.set_cons_succ]) | (refine wpTree_on (v := ?_) rfl rfl (wanted_yes rfl rfl rfl) (fun w' hS => ?_) ?_; rotate_left; (focus (go_simp; (try with_reducible rfl); done)); try simp only [List.setIfInBounds_toArray, List.set_cons_zero, List.set_cons_succ]) | (refine wpTree_off rfl rfl (wanted_no rfl rfl rfl) ?_; try simp only [List.setIfInBounds_toArray, List.set_cons_zero, List.set_cons_succ]) | (refine wpTree_off rfl rfl (wanted_undef rfl rfl rfl) ?_; try simp only [List.setIfInBounds_toArray, List.set_cons_zero, List.set_cons_succ])))
        have B12 := B12.ext hb6
        have f0 := B12.frozen 0
        have f1 := B12.frozen 1
        have f2 := B12.frozen 2
        have f3 := B12.frozen 3
        have f4 := B12.frozen 4
        have q := five B12 (Below.refl _ _)
        refine wpTree_do rfl (wanted_free rfl) (fun K hK => ?_); go_simp
        clear f0 f1 f2 f3 f4 q
        obtain ⟨w7, hw7, B12', hlow7, hgr7⟩ := Blk.set5 B12 (.string S.name) (.slice A5 n5 c5) (.int .i64 S.key) (.bool S.only) (.slice A6 n6 c6)
        rw [← hw7]
        clear hw7 B12
        have B12 := B12'
        have hT7 := hT6'.grownL hgr7 hgd
        have hb7' := Below.trans hb6' (hlow7 w5.heap.size hd5')
        have hb7 : Below w5.heap.size w5 w7 := Below.trans hd5 hb7'
        refine hK.out _ _ hb7' ?_
        clear hK K
        repeat ((with_reducible show wpTree _ _ _ _ (.take _ _) _ _); (first | (refine wpTree_on (v := ?_) rfl rfl (wanted_free rfl) (fun w' hS => ?_) ?_; rotate_left; (focus (go_simp; (try with_reducible rfl); done)); try simp only [List.setIfInBounds_toArray, List.set_cons_zero, List.set_cons_succ]) | (refine wpTree_on (v := ?_) rfl rfl (wanted_yes rfl rfl rfl) (fun w' hS => ?_) ?_; rotate_left; (focus (go_simp; (try with_reducible rfl); done)); try simp only [List.setIfInBounds_toArray, List.set_cons_zero, List.set_cons_succ]) | (refine wpTree_off rfl rfl (wanted_no rfl rfl rfl) ?_; try simp only [List.setIfInBounds_toArray, List.set_cons_zero, List.set_cons_succ]) | (refine wpTree_off rfl rfl (wanted_undef rfl rfl rfl) ?_; try simp only [List.setIfInBounds_toArray, List.set_cons_zero, List.set_cons_succ])))
        refine wpTree_end ?_
        have hbg7 := Below.trans hbg (Below.mono hb7 hbg.size)
        have hbw7 := Below.trans hbw3 (Below.mono hbg7 hbw3.size)
        have B7 := B7.ext hb7
        have B8 : Blk w7 (w3.heap.size + 1) 32 #[.string S.name, .slice A1 n1 c1, .int .i64 S.key, .bool S.only, .slice A2 n2 c2] := B8.ext hb7
        have q12 := five B12 (Below.refl _ _)
        have f0 := B8.frozen 0
        have f1 := B8.frozen 1
        have f2 := B8.frozen 2
        have f3 := B8.frozen 3
        have f4 := B8.frozen 4
        have q8 := five B8 (Below.refl _ _)
        have hTl := Htl.out
        by_cases hp1 : p.1 = 0
        · rw [if_pos hp1] at hTl
          have hdp : (p.1 == 0) = true := by simpa using hp1
          have hlen1 : 1 ≤ rows.length := by omega
          have HTL := Lib.hid hTl
          clear hp1 hTl
          go_wp2
          clear f0 f1 f2 f3 f4 q8 q12
          obtain ⟨w9, hw9, hV9, hlow9, hgr9⟩ := setV B8 hT7 (by omega)
          rw [← hw9]
          clear hw9
          go_roundw
          case rel => exact ⟨k + 1, p.2, by go_num, by omega, by omega, by have := HTL.out; simp; omega, by have := HTL.out; omega, Lib.hid Hok'.out, hV9, B7.grown hgr9 (by simp), Below.trans hbg7 (hlow9 _ (Nat.le_succ _))⟩
          case measure => simp [intOf]; omega
        · rw [if_neg hp1] at hTl
          have hdp : (p.1 == 0) = false := by simpa using hp1
          have HTL := Lib.hid hTl
          clear hp1 hTl
          go_wp2
          clear f0 f1 f2 f3 f4 q8 q12
          obtain ⟨w9, hw9, hV9, hlow9, hgr9⟩ := setV B8 hT7 (by omega)
          rw [← hw9]
          clear hw9
          go_roundw
          case rel => exact ⟨k + 1, p.2, by go_num, by omega, by omega, by have := HTL.out; simp; omega, by have := HTL.out; omega, Lib.hid Hok'.out, hV9, B7.grown hgr9 (by simp), Below.trans hbg7 (hlow9 _ (Nat.le_succ _))⟩
          case measure => simp [intOf]; omega
    case neg =>
      have hcase : (k < nb ∧ bs[k]? = some false) ∨ ¬ k < nb := by
        by_cases h : k < nb
        · refine .inl ⟨h, ?_⟩
          have e := List.getElem?_eq_getElem (l := bs) (i := k) (by rw [HNB.out]; exact h)
          cases hb : bs[k]'(by rw [HNB.out]; exact h) with
          | false => rw [e, hb]
          | true => exact absurd ⟨h, by rw [e, hb]⟩ htk
        · exact .inr h
      obtain ⟨A1, n1, c1, A2, n2, c2, B8, hC8, hR8, hF8⟩ := hV
      have hok' := putL_ok hOk.out r
      have htl := put_len (cs := S.cols) (key := S.key) (rows := rows) (r := r)
      have hput := fun w' (h : Below w5.heap.size w5 w') => put_ S rows r 0 A1 n1 c1 A2 n2 c2 0 Ar S.cols.length cr w' (hC8.ext h) (hR8.ext h) hF8 (hVr.ext h) hrs.out hOk.out hn7 (by omega) (by omega)
      obtain ⟨p, hp⟩ : ∃ p, putL S.cols S.key rows r = p := ⟨_, rfl⟩
      rw [hp] at hok' htl hput
      have Hput := Lib.hid hput
      have Hok' := Lib.hid hok'
      have Htl := Lib.hid htl
      clear hp hok' htl hput htk
      have hz8 : w3.heap.size + 1 < w5.heap.size := B8.lt
      have q8 := five B8 (Below.refl _ _)
      have hstop : ∃ (pt : Bool) (qv : Value), (pt = true ∧ k < nb ∧ qv = .bool false) ∨ (pt = false ∧ ¬ k < nb) := by
        rcases hcase with h | h
        · exact ⟨true, .bool false, .inl ⟨rfl, h.1, rfl⟩⟩
        · exact ⟨false, .bool false, .inr ⟨rfl, h⟩⟩
      clear hstop
      rcases hcase with ⟨hkb, hbk⟩ | hkb
      · have hdt : decide ((k : Int) < (nb : Int)) = true := by simp; omega
        have hkbi : (k : Int) < (nb : Int) := by omega
        obtain ⟨bB, oB, rfl, _, _, _⟩ := hB.some_ (by omega)
        have hqb := flatK_at encB 1 (fun _ => rfl) bs k false 0 _ hbk rfl
        have qb := (hB.ext hbw).at_ hqb
        simp only [Nat.mul_one, Nat.add_zero] at qb
        clear hqb hbk
        go_wp2_with fail
        refine (Hput.out _ (Below.refl _ _)).mono ?_
        rintro e w6 ⟨v, rfl, hT6, hb6⟩
        have hT6' := hT6
        obtain ⟨A5, n5, c5, A6, n6, c6, rfl, _⟩ := hT6
        simp only [tabA] at hT6' ⊢
        have hbg6 := Below.trans hbg (Below.mono hb6 hbg.size)
        have B7 := B7.ext hb6
        have hB8 : Blk w6 (w3.heap.size + 1) 32 #[.string S.name, .slice A1 n1 c1, .int .i64 S.key, .bool S.only, .slice A2 n2 c2] := B8.ext hb6
        have hg8 : w3.heap.size + 1 < w5.heap.size := hz8
        clear q8
        have f0 := fun o => (hB8.alloc o).frozen 0
        have f1 := fun o => (hB8.alloc o).frozen 1
        have f2 := fun o => (hB8.alloc o).frozen 2
        have f3 := fun o => (hB8.alloc o).frozen 3
        have f4 := fun o => (hB8.alloc o).frozen 4
        have q8 := fun o => five hB8 ((Below.refl _ _).alloc (Nat.le_refl _) o)
        have hTl := Htl.out
        by_cases hp1 : p.1 = 0
        · rw [if_pos hp1] at hTl
          have hdp : (p.1 == 0) = true := by simpa using hp1
          have HTL := Lib.hid hTl
          clear hp1 hTl
          have hw9s := fun o => setV (hB8.alloc o) (hT6'.ext ((Below.refl _ _).alloc (Nat.le_refl _) o)) hg8
          go_wp2
          clear f0 f1 f2 f3 f4 q8 qb
          obtain ⟨w9, hw9, hV9, hlow9, hgr9⟩ := hw9s (.cells #[.string S.name, .slice A5 n5 c5, .int .i64 S.key, .bool S.only, .slice A6 n6 c6] 32)
          rw [← hw9]
          clear hw9 hw9s
          go_roundw
          case rel => exact ⟨k + 1, p.2, by go_num, by omega, by omega, by have := HTL.out; simp; omega, by have := HTL.out; omega, Lib.hid Hok'.out, hV9, (B7.alloc _).grown hgr9 (by simp), Below.trans (hbg6.alloc hbg6.size _) (hlow9 _ (Nat.le_succ _))⟩
          case measure => simp [intOf]; omega
        · rw [if_neg hp1] at hTl
          have hdp : (p.1 == 0) = false := by simpa using hp1
          have HTL := Lib.hid hTl
          clear hp1 hTl
          have hw9s := fun o => setV (hB8.alloc o) (hT6'.ext ((Below.refl _ _).alloc (Nat.le_refl _) o)) hg8
          go_wp2
          clear f0 f1 f2 f3 f4 q8 qb
          obtain ⟨w9, hw9, hV9, hlow9, hgr9⟩ := hw9s (.cells #[.string S.name, .slice A5 n5 c5, .int .i64 S.key, .bool S.only, .slice A6 n6 c6] 32)
          rw [← hw9]
          clear hw9 hw9s
          go_roundw
          case rel => exact ⟨k + 1, p.2, by go_num, by omega, by omega, by have := HTL.out; simp; omega, by have := HTL.out; omega, Lib.hid Hok'.out, hV9, (B7.alloc _).grown hgr9 (by simp), Below.trans (hbg6.alloc hbg6.size _) (hlow9 _ (Nat.le_succ _))⟩
          case measure => simp [intOf]; omega
      · have hdt : decide ((k : Int) < (nb : Int)) = false := by simp; omega
        have qb : True := trivial
        go_wp2_with fail
        refine (Hput.out _ (Below.refl _ _)).mono ?_
        rintro e w6 ⟨v, rfl, hT6, hb6⟩
        have hT6' := hT6
        obtain ⟨A5, n5, c5, A6, n6, c6, rfl, _⟩ := hT6
        simp only [tabA] at hT6' ⊢
        have hbg6 := Below.trans hbg (Below.mono hb6 hbg.size)
        have B7 := B7.ext hb6
        have hB8 : Blk w6 (w3.heap.size + 1) 32 #[.string S.name, .slice A1 n1 c1, .int .i64 S.key, .bool S.only, .slice A2 n2 c2] := B8.ext hb6
        have hg8 : w3.heap.size + 1 < w5.heap.size := hz8
        clear q8
        have f0 := fun o => (hB8.alloc o).frozen 0
        have f1 := fun o => (hB8.alloc o).frozen 1
        have f2 := fun o => (hB8.alloc o).frozen 2
        have f3 := fun o => (hB8.alloc o).frozen 3
        have f4 := fun o => (hB8.alloc o).frozen 4
        have q8 := fun o => five hB8 ((Below.refl _ _).alloc (Nat.le_refl _) o)
        have hTl := Htl.out
        by_cases hp1 : p.1 = 0
        · rw [if_pos hp1] at hTl
          have hdp : (p.1 == 0) = true := by simpa using hp1
          have HTL := Lib.hid hTl
          clear hp1 hTl
          have hw9s := fun o => setV (hB8.alloc o) (hT6'.ext ((Below.refl _ _).alloc (Nat.le_refl _) o)) hg8
          go_wp2
          clear f0 f1 f2 f3 f4 q8 qb
          obtain ⟨w9, hw9, hV9, hlow9, hgr9⟩ := hw9s (.cells #[.string S.name, .slice A5 n5 c5, .int .i64 S.key, .bool S.only, .slice A6 n6 c6] 32)
          rw [← hw9]
          clear hw9 hw9s
          go_roundw
          case rel => exact ⟨k + 1, p.2, by go_num, by omega, by omega, by have := HTL.out; simp; omega, by have := HTL.out; omega, Lib.hid Hok'.out, hV9, (B7.alloc _).grown hgr9 (by simp), Below.trans (hbg6.alloc hbg6.size _) (hlow9 _ (Nat.le_succ _))⟩
          case measure => simp [intOf]; omega
        · rw [if_neg hp1] at hTl
          have hdp : (p.1 == 0) = false := by simpa using hp1
          have HTL := Lib.hid hTl
          clear hp1 hTl
          have hw9s := fun o => setV (hB8.alloc o) (hT6'.ext ((Below.refl _ _).alloc (Nat.le_refl _) o)) hg8
          go_wp2
          clear f0 f1 f2 f3 f4 q8 qb
          obtain ⟨w9, hw9, hV9, hlow9, hgr9⟩ := hw9s (.cells #[.string S.name, .slice A5 n5 c5, .int .i64 S.key, .bool S.only, .slice A6 n6 c6] 32)
          rw [← hw9]
          clear hw9 hw9s
          go_roundw
          case rel => exact ⟨k + 1, p.2, by go_num, by omega, by omega, by have := HTL.out; simp; omega, by have := HTL.out; omega, Lib.hid Hok'.out, hV9, (B7.alloc _).grown hgr9 (by simp), Below.trans (hbg6.alloc hbg6.size _) (hlow9 _ (Nat.le_succ _))⟩
          case measure => simp [intOf]; omega
end Go.Proofs.Ytalfacbkofgdjaa.tb
