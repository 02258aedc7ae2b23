/- Contracts: within, Fill. Printed by gen14.py. -/
import Derived.Test.YtnlmbjmgmofeiaaMD
import Derived.Test.YtnlmbjmgmofeiaaT16
import Derived.Test.YtnlmbjmgmofeiaaU4
import Derived.Test.YtnlmbjmgmofeiaaT
import Derived.Test.YtnlmbjmgmofeiaaJ
namespace Go.Proofs.Ytnlmbjmgmofeiaa.ix
open Go.ChangeShapes Go.WideShapes Go.ChangeAt Go.RowKit Go.Proofs.Ytnlmbjmgmofeiaa.lib Go.Proofs.Ytnlmbjmgmofeiaa.val Go.Proofs.Ytnlmbjmgmofeiaa.tb
set_option linter.unusedVariables false

theorem within11 (a n k : Int) (hk : a % n = k) (w : World) (hn : 1 ≤ n) (hn2 : n ≤ 2000000000000) (ha : -9223372036854775808 ≤ a) (hb : a ≤ 9223372036854775807) :
    Calls Try.prog 12 #[.int .i64 a, .int .i64 n] w fun e w' => e = .returned (.int .i64 k) ∧ w = w' := by
  subst hk
  have h0 : (n == 0) = false := by simp; omega
  have h1 := Int.emod_nonneg a (by omega : n ≠ 0)
  have h2 := Int.emod_lt_of_pos a (by omega : 0 < n)
  go_enter Try.func12, Try.ntmps12
  go_wp2
  · have h := tmod_pos a n hn (by assumption)
    go_ret
    exact ⟨ret_int (by simp [h]; exact IntWalk.wrap64_in _ ⟨by omega, by omega⟩), rfl⟩
  · have h := tmod_nn a n hn (by assumption)
    go_ret
    exact ⟨ret_int (by simp [h]), rfl⟩
/-- numbers that are small -/
def Num (r : List V) : Prop := ∀ v ∈ r, -100 ≤ v.n ∧ v.n ≤ 100
theorem num_fit (cs : List Col) (x : Int) : Num (fitL cs x) := by
  intro v hv
  unfold fitL at hv
  rw [List.mem_mapIdx] at hv
  obtain ⟨i, hi, rfl⟩ := hv
  have hk := kk_bd i x
  unfold fitV rawV
  split
  · exact ⟨by decide, by decide⟩
  split
  · show -100 ≤ kkV i x % 2 ∧ kkV i x % 2 ≤ 100
    omega
  split
  · show -100 ≤ kkV i x ∧ kkV i x ≤ 100
    omega
  split
  · show (-100 : Int) ≤ 0 ∧ (0 : Int) ≤ 100; omega
  · show (-100 : Int) ≤ 0 ∧ (0 : Int) ≤ 100; omega
/-- a row that Fit made -/
def Fitd (cs : List Col) (r : List V) : Prop := ∃ x, r = fitL cs x
theorem Fitd.num {cs : List Col} {r : List V} (h : Fitd cs r) : Num r := by
  obtain ⟨x, rfl⟩ := h
  exact num_fit cs x
theorem fitd_put {cs : List Col} {key : Nat} {rows : List (List V)} {r : List V} (h : ∀ x ∈ rows, Fitd cs x) (hr : Fitd cs r) : ∀ x ∈ (putL cs key rows r).2, Fitd cs x := by
  unfold putL
  split
  · exact h
  split
  · exact h
  split
  · exact h
  · intro x hx
    rcases List.mem_append.1 hx with hx | hx
    · exact h x (List.mem_of_mem_take hx)
    · rcases List.mem_cons.1 hx with rfl | hx
      · exact hr
      · exact h x (List.mem_of_mem_drop hx)
theorem rowN_of {S : Sch} {col : Nat} {r : List V} (hf : fitsL S.cols r = 0) (hn : Num r) (hc : col < S.cols.length) (hk : S.key < S.cols.length) (h6 : S.cols.length ≤ 100) : RowN col S.key r := by
  have hl := fits_len hf
  have hat : ∀ i, i < S.cols.length → Fit64 ((r[i]?).getD ⟨0, 0, ⟨#[]⟩⟩) := by
    intro i hi
    rw [List.getElem?_eq_getElem (by omega), Option.getD_some]
    have hm := hn r[i] (List.getElem_mem (by omega))
    have hg : fitsGo S.cols r = 0 := by
      unfold fitsL at hf
      rw [if_neg (by omega)] at hf
      exact hf
    exact ⟨(fitsGo_at S.cols r i r[i] S.cols[i] hg (List.getElem?_eq_getElem (by omega)) (List.getElem?_eq_getElem hi)).1, by omega, by omega⟩
  exact ⟨by omega, by omega, by omega, ⟨hat col hc, hat S.key hk⟩⟩
/-- what Fill answers -/
def FillP (S : Sch) (A7 : Option Addr) (c7 : Nat) (w : World) (e : Ending) (w' : World) : Prop := ∃ rows A n c, e = .returned (.agg (tabA S A7 S.cols.length c7 A n c)) ∧ Rs w' w.heap.size A n c rows ∧ Fine A ∧ Ok S.cols S.key rows ∧ rows.length ≤ 50 ∧ (∀ r ∈ rows, Fitd S.cols r) ∧ Below w.heap.size w w'
set_option maxRecDepth 1000000 in
set_option maxHeartbeats 8000000 in
theorem fill_ (S : Sch) (A7 : Option Addr) (c7 : Nat) (Ai : Option Addr) (ni ci : Nat) (zs : List Int) (w : World) (hS : SOk S) (hC : Cs w 0 A7 S.cols.length c7 S.cols)
    (hI : Row w 0 Ai ni ci (flatK encI zs)) (hni : zs.length = ni) (hi2 : ni ≤ maxLen) (hz : ∀ x ∈ zs, ok64 x) :
    Calls Try.prog 13 #[.agg (schA S A7 S.cols.length c7), .slice Ai ni ci] w (FillP S A7 c7 w) := by
  unfold maxLen at hi2
  have HNI := Lib.hid hni
  have HZ := Lib.hid hz
  have h6 := hS.six
  have hn7 : S.cols.length ≤ 100 := by omega
  have hCs : Hid (∀ w', Below w.heap.size w w' → Cs w' 0 A7 S.cols.length c7 S.cols) := Lib.hid (fun w' h => (hC.ext h))
  have HIx := Lib.hid (fun w' (h : Below w.heap.size w w') => hI.ext h)
  clear hni hz hC
  simp only [schA]
  go_enter Try.func13, Try.ntmps13
  go_upto_region 2 with fail
  obtain ⟨W, hW_, hbW, B7, BR, BX⟩ : ∃ W_, W_ = (((w.alloc (.cells #[.string S.name, .slice A7 S.cols.length c7, .int .i64 S.key, .bool S.only] 24)).alloc (.cells #[.string ⟨#[]⟩, .slice none 0 0, .int .i64 0, .bool false, .slice none 0 0] 32)).alloc (.cells #[.string S.name, .slice A7 S.cols.length c7, .int .i64 S.key, .bool S.only, .slice none 0 0] 32)) ∧ Below w.heap.size w W_ ∧ Blk W_ (w.heap.size) 24 #[.string S.name, .slice A7 S.cols.length c7, .int .i64 S.key, .bool S.only] ∧ Blk W_ (w.heap.size + 1) 32 #[.string ⟨#[]⟩, .slice none 0 0, .int .i64 0, .bool false, .slice none 0 0] ∧ Blk W_ (w.heap.size + 1 + 1) 32 #[.string S.name, .slice A7 S.cols.length c7, .int .i64 S.key, .bool S.only, .slice none 0 0] :=
    ⟨_, rfl, ((((Below.refl _ _).alloc (Nat.le_refl _) _).alloc (by simp; try omega) _).alloc (by simp; try omega) _), (((blk_new_at w (w.heap.size) _ _ (by simp)).alloc _).alloc _), ((blk_new_at (w.alloc (.cells #[.string S.name, .slice A7 S.cols.length c7, .int .i64 S.key, .bool S.only] 24)) (w.heap.size + 1) _ _ (by simp)).alloc _), (blk_new_at ((w.alloc (.cells #[.string S.name, .slice A7 S.cols.length c7, .int .i64 S.key, .bool S.only] 24)).alloc (.cells #[.string ⟨#[]⟩, .slice none 0 0, .int .i64 0, .bool false, .slice none 0 0] 32)) (w.heap.size + 1 + 1) _ _ (by simp))⟩
  rw [← hW_]
  clear hW_
  have hxl := BX.lt
  obtain ⟨H, hH⟩ : ∃ H, w.heap.size = H := ⟨_, rfl⟩
  have hHle : H ≤ w.heap.size := Nat.le_of_eq hH.symm
  rw [hH] at B7 BR BX hxl hbW hCs HIx ⊢
  go_wp2_with fail
  go_loopw [6] (fun i wr => ∃ (k : Nat) (rows : List (List V)) (A2 : Option Addr) (n2 c2 : Nat), i = .int .i64 k ∧ k ≤ ni ∧ k ≤ 50 ∧ rows.length ≤ k ∧ Ok S.cols S.key rows ∧ (∀ r ∈ rows, Fitd S.cols r) ∧ Blk wr (H + 1 + 1) 32 #[.string S.name, .slice A7 S.cols.length c7, .int .i64 S.key, .bool S.only, .slice A2 n2 c2] ∧ Rs wr (H + 3) A2 n2 c2 rows ∧ Fine A2 ∧ Blk wr H 24 #[.string S.name, .slice A7 S.cols.length c7, .int .i64 S.key, .bool S.only] ∧ Blk wr (H + 1) 32 #[.string ⟨#[]⟩, .slice none 0 0, .int .i64 0, .bool false, .slice none 0 0] ∧ Below H w wr) (fun i _ => ni - (intOf i).toNat)
  case atStart => exact ⟨0, [], none, 0, 0, rfl, Nat.zero_le _, Nat.zero_le _, Nat.zero_le _, hS.ok0, by simp, BX, Rs.nil _ _, .inl rfl, B7, BR, hbW⟩
  case round =>
    clear B7 BX BR hbW hxl
    obtain ⟨k, rows, A2, n2, c2, rfl, hk, hk30, hlen, hOk, hNum, BX, hRx, hF8, B7, BR, hbg⟩ := hrel
    have hOk := Lib.hid hOk
    have hNum := Lib.hid hNum
    have hbw := hbg
    by_cases hgo : k < ni ∧ k < 50
    case neg =>
      have hcond : (¬ k < ni ∧ decide ((k : Int) < (ni : Int)) = false) ∨ (k < ni ∧ decide ((k : Int) < (ni : Int)) = true ∧ ¬ k < 50 ∧ decide ((k : Int) < 50) = false) := by
        by_cases h : k < ni
        · exact .inr ⟨h, by simp; omega, by omega, by simp; omega⟩
        · exact .inl ⟨h, by simp; omega⟩
      clear hgo
      rcases hcond with ⟨hq0, hd1⟩ | ⟨hq0, hd1, hq1, hd2⟩
      all_goals
        have q8 := five BX (Below.refl _ _)
        have q9 := five BR (Below.refl _ _)
        have f0 := BR.frozen 0
        have f1 := BR.frozen 1
        have f2 := BR.frozen 2
        have f3 := BR.frozen 3
        have f4 := BR.frozen 4
        have hrl := BR.lt
        go_wp2
        clear f0 f1 f2 f3 f4 q8 q9
        obtain ⟨wz, hwz, Bz, hlowz, hgrz⟩ := Blk.set5 BR (.string S.name) (.slice A7 S.cols.length c7) (.int .i64 S.key) (.bool S.only) (.slice A2 n2 c2)
        rw [← hwz]
        clear hwz
        have q := five Bz (Below.refl _ _)
        refine bodyPost_ret (v := .agg (tabA S A7 S.cols.length c7 A2 n2 c2)) (by simp [results, Try.results13, go_sem, q, tabA]; try rfl) rfl ?_
        unfold FillP
        rw [hH]
        exact ⟨rows, A2, n2, c2, rfl, (hRx.grownL hgrz (by omega)).base (by omega), hF8, hOk.out, by omega, hNum.out, Below.trans hbg (hlowz _ (by omega))⟩
    obtain ⟨hgo1, hgo2⟩ := hgo
    have hd1 : decide ((k : Int) < (ni : Int)) = true := by simp; omega
    have hd2 : decide ((k : Int) < 50) = true := by simp; omega
    have hkni : (k : Int) < (ni : Int) := by omega
    obtain ⟨x, hx⟩ : ∃ x, zs[k]? = some x := ⟨_, List.getElem?_eq_getElem (by rw [HNI.out]; exact hgo1)⟩
    have hx64 := HZ.out x (List.mem_of_getElem? hx)
    obtain ⟨bi, oi, rfl, _, _, _⟩ := hI.some_ (by omega)
    have hxc := flatK_at encI 1 (fun _ => rfl) zs k x 0 _ hx rfl
    have HXC := Lib.hid hxc
    clear hxc hx
    obtain ⟨kv, hri⟩ := row_i hS x
    obtain ⟨r, hr⟩ : ∃ r, fitL S.cols x = r := ⟨_, rfl⟩
    rw [hr] at hri
    have hri := Lib.hid hri
    have HNP := Lib.hid (fitd_put (cs := S.cols) (key := S.key) hNum.out ⟨x, hr.symm⟩)
    have htl := put_len (cs := S.cols) (key := S.key) (rows := rows) (r := r)
    have hok' := putL_ok hOk.out r
    obtain ⟨p, hp⟩ : ∃ p, putL S.cols S.key rows r = p := ⟨_, rfl⟩
    rw [hp] at htl hok' HNP
    have Htl := Lib.hid htl
    have Hid' := Lib.hid hok'
    clear htl hok'
    go_wp2_with fail
    have hrd : Below wr.heap.size wr wr.drew := (Below.refl _ _).drew
    have B7 := B7.ext hrd
    have BR := BR.ext hrd
    have B8 : Blk wr.drew (H + 1 + 1) 32 #[.string S.name, .slice A7 S.cols.length c7, .int .i64 S.key, .bool S.only, .slice A2 n2 c2] := BX.ext hrd
    have hR8 := hRx.ext hrd
    have hbgd := Below.trans hbg (Below.mono hrd (Nat.le_trans hHle hbg.size))
    have hg8 := B8.lt
    have D := fun w' (h : Below (H + 1 + 1) wr.drew w') => four (B7.below h (by omega)) (Below.refl _ _)
    have D2 := fun w' (h : Below (H + 1 + 1) wr.drew w') => (HIx.out _ (Below.trans hbgd (Below.mono h (by omega)))).at_ HXC.out
    simp only [Nat.mul_one, Nat.add_zero] at D2
    refine wp_region_tree (S := fun w' => Below (H + 1 + 1) wr.drew w') (.take 1 (.take 2 (.take 3 (.take 4 (.take 5 (.two 0 6 (.one 6 (.one 7 (.take 8 (.take 9 (.take 10 (.one 11 .nil)))))) (.one 0 (.one 7 (.take 8 (.take 9 (.take 10 (.one 11 .nil))))))))))))
      (by kernel_rfl) (by kernel_rfl) (by kernel_rfl) (by decide) (by intro c a d v w h; cases d <;> exact h) (Below.refl _ _) ?_
    repeat ((with_reducible show wpTree _ _ _ _ (.take _ _) _ _); (first | (refine wpTree_on (v := ?_) rfl rfl (wanted_free rfl) (fun w' hS => ?_) ?_; rotate_left; (focus (go_simp; (try with_reducible rfl); done)); try simp only [List.setIfInBounds_toArray, List.set_cons_zero, List.set_cons_succ]) | (refine wpTree_on (v := ?_) rfl rfl (wanted_yes rfl rfl rfl) (fun w' hS => ?_) ?_; rotate_left; (focus (go_simp; (try with_reducible rfl); done)); try simp only [List.setIfInBounds_toArray, List.set_cons_zero, List.set_cons_succ]) | (refine wpTree_off rfl rfl (wanted_no rfl rfl rfl) ?_; try simp only [List.setIfInBounds_toArray, List.set_cons_zero, List.set_cons_succ]) | (refine wpTree_off rfl rfl (wanted_undef rfl rfl rfl) ?_; try simp only [List.setIfInBounds_toArray, List.set_cons_zero, List.set_cons_succ])))
    clear D D2
    have hrr : wr.heap.size = wr.drew.heap.size := rfl
    generalize wr.drew = wd at *
    refine wpTree_both rfl (wanted_free rfl) rfl (wanted_free rfl) (fun K hK => ?_) (fun K hK => ?_)
    · have q8 := five B8 (Below.refl _ _)
      go_simp
      refine hK.out _ _ (Below.refl _ _) ?_
      clear hK K q8
      refine wpTree_do rfl (wanted_free rfl) (fun K hK => ?_); go_simp
      refine (fit_ S 0 A7 S.cols.length c7 x _ (hCs.out _ (Below.trans hbgd (Below.mono (Below.refl (H + 1 + 1) wd) (by omega)))) hn7 hS.kinds hx64.1 hx64.2).mono ?_
      rintro e w5 ⟨Ar, cr, rfl, hown5, hb5⟩
      have hb5' : Below (H + 1 + 1) wd w5 := Below.trans (Below.refl (H + 1 + 1) wd) (Below.mono hb5 (by have := B8.lt; omega))
      refine hK.out _ _ hb5' ?_
      clear hK K
      rw [hr] at hown5
      have hVr : Vs w5 0 Ar S.cols.length cr r := (Vs.of_own hown5).base (Nat.zero_le _)
      have hC5 := hCs.out _ (Below.trans hbgd (Below.mono hb5' (by omega)))
      have hR5 := hR8.ext hb5
      have B85 := B8.ext hb5
      have hz5 := hb5.size
      have hz8 := B8.lt
      refine wpTree_do rfl (wanted_free rfl) (fun K hK => ?_); go_simp
      refine (rput_ S rows r 0 (H + 3) A7 S.cols.length c7 A2 n2 c2 0 Ar S.cols.length cr w5 hC5 hR5 hF8 (by omega) hVr hri.out.small hOk.out hn7 (by omega) (by omega)).mono ?_
      rintro e w6 ⟨A6, n6, c6, rfl, hR6, hF6, hb6⟩
      rw [hp] at hR6 ⊢
      have hb6' := Below.trans hb5' (Below.mono hb6 (by omega))
      refine hK.out _ _ hb6' ?_
      clear hK K
      simp only [tabA]
      repeat ((with_reducible show wpTree _ _ _ _ (.take _ _) _ _); (first | (refine wpTree_on (v := ?_) rfl rfl (wanted_free rfl) (fun w' hS => ?_) ?_; rotate_left; (focus (go_simp; (try with_reducible rfl); done)); try simp only [List.setIfInBounds_toArray, List.set_cons_zero, List.set_cons_succ]) | (refine wpTree_on (v := ?_) rfl rfl (wanted_yes rfl rfl rfl) (fun w' hS => ?_) ?_; rotate_left; (focus (go_simp; (try with_reducible rfl); done)); try simp only [List.setIfInBounds_toArray, List.set_cons_zero, List.set_cons_succ]) | (refine wpTree_off rfl rfl (wanted_no rfl rfl rfl) ?_; try simp only [List.setIfInBounds_toArray, List.set_cons_zero, List.set_cons_succ]) | (refine wpTree_off rfl rfl (wanted_undef rfl rfl rfl) ?_; try simp only [List.setIfInBounds_toArray, List.set_cons_zero, List.set_cons_succ])))
      have hB8 : Blk w6 (H + 1 + 1) 32 #[.string S.name, .slice A7 S.cols.length c7, .int .i64 S.key, .bool S.only, .slice A2 n2 c2] := (Blk.below B85 hb6 (by omega))
      have f0 := hB8.frozen 0
      have f1 := hB8.frozen 1
      have f2 := hB8.frozen 2
      have f3 := hB8.frozen 3
      have f4 := hB8.frozen 4
      have q8 := five hB8 (Below.refl _ _)
      refine wpTree_do rfl (wanted_free rfl) (fun K hK => ?_); go_simp
      clear f0 f1 f2 f3 f4 q8
      obtain ⟨w9, hw9, B9, hlow9, hgr9⟩ := Blk.set5 hB8 (.string S.name) (.slice A7 S.cols.length c7) (.int .i64 S.key) (.bool S.only) (.slice A6 n6 c6)
      rw [← hw9]
      clear hw9
      have hR9 := hR6.grownL hgr9 (by omega)
      have hb9' := Below.trans hb6' (hlow9 _ (Nat.le_refl _))
      refine hK.out _ _ hb9' ?_
      clear hK K
      refine wpTree_end ?_
      have hbg9 := Below.trans hbgd (Below.mono hb9' (by omega))
      go_wp2
      go_roundw
      case rel => exact ⟨k + 1, p.2, A6, n6, c6, by go_num, by omega, by omega, by have := Htl.out; split at this <;> omega, Hid'.out, HNP.out, B9, hR9, hF6, Blk.below B7 hb9' (by omega), Blk.below BR hb9' (by omega), hbg9⟩
      case measure => simp [intOf]; omega
    · go_simp
      refine (fit_ S 0 A7 S.cols.length c7 x _ (hCs.out _ (Below.trans hbgd (Below.mono (Below.refl (H + 1 + 1) wd) (by omega)))) hn7 hS.kinds hx64.1 hx64.2).mono ?_
      rintro e w5 ⟨Ar, cr, rfl, hown5, hb5⟩
      have hb5' : Below (H + 1 + 1) wd w5 := Below.trans (Below.refl (H + 1 + 1) wd) (Below.mono hb5 (by have := B8.lt; omega))
      refine hK.out _ _ hb5' ?_
      clear hK K
      rw [hr] at hown5
      have hVr : Vs w5 0 Ar S.cols.length cr r := (Vs.of_own hown5).base (Nat.zero_le _)
      have hC5 := hCs.out _ (Below.trans hbgd (Below.mono hb5' (by omega)))
      have hR5 := hR8.ext hb5
      have B85 := B8.ext hb5
      have hz5 := hb5.size
      have hz8 := B8.lt
      have q8 := five (B85 : Blk w5 (H + 1 + 1) 32 #[.string S.name, .slice A7 S.cols.length c7, .int .i64 S.key, .bool S.only, .slice A2 n2 c2]) (Below.refl _ _)
      refine wpTree_do rfl (wanted_free rfl) (fun K hK => ?_); go_simp
      refine hK.out _ _ hb5' ?_
      clear hK K q8
      refine wpTree_do rfl (wanted_free rfl) (fun K hK => ?_); go_simp
      refine (rput_ S rows r 0 (H + 3) A7 S.cols.length c7 A2 n2 c2 0 Ar S.cols.length cr w5 hC5 hR5 hF8 (by omega) hVr hri.out.small hOk.out hn7 (by omega) (by omega)).mono ?_
      rintro e w6 ⟨A6, n6, c6, rfl, hR6, hF6, hb6⟩
      rw [hp] at hR6 ⊢
      have hb6' := Below.trans hb5' (Below.mono hb6 (by omega))
      refine hK.out _ _ hb6' ?_
      clear hK K
      simp only [tabA]
      repeat ((with_reducible show wpTree _ _ _ _ (.take _ _) _ _); (first | (refine wpTree_on (v := ?_) rfl rfl (wanted_free rfl) (fun w' hS => ?_) ?_; rotate_left; (focus (go_simp; (try with_reducible rfl); done)); try simp only [List.setIfInBounds_toArray, List.set_cons_zero, List.set_cons_succ]) | (refine wpTree_on (v := ?_) rfl rfl (wanted_yes rfl rfl rfl) (fun w' hS => ?_) ?_; rotate_left; (focus (go_simp; (try with_reducible rfl); done)); try simp only [List.setIfInBounds_toArray, List.set_cons_zero, List.set_cons_succ]) | (refine wpTree_off rfl rfl (wanted_no rfl rfl rfl) ?_; try simp only [List.setIfInBounds_toArray, List.set_cons_zero, List.set_cons_succ]) | (refine wpTree_off rfl rfl (wanted_undef rfl rfl rfl) ?_; try simp only [List.setIfInBounds_toArray, List.set_cons_zero, List.set_cons_succ])))
      have hB8 : Blk w6 (H + 1 + 1) 32 #[.string S.name, .slice A7 S.cols.length c7, .int .i64 S.key, .bool S.only, .slice A2 n2 c2] := (Blk.below B85 hb6 (by omega))
      have f0 := hB8.frozen 0
      have f1 := hB8.frozen 1
      have f2 := hB8.frozen 2
      have f3 := hB8.frozen 3
      have f4 := hB8.frozen 4
      have q8 := five hB8 (Below.refl _ _)
      refine wpTree_do rfl (wanted_free rfl) (fun K hK => ?_); go_simp
      clear f0 f1 f2 f3 f4 q8
      obtain ⟨w9, hw9, B9, hlow9, hgr9⟩ := Blk.set5 hB8 (.string S.name) (.slice A7 S.cols.length c7) (.int .i64 S.key) (.bool S.only) (.slice A6 n6 c6)
      rw [← hw9]
      clear hw9
      have hR9 := hR6.grownL hgr9 (by omega)
      have hb9' := Below.trans hb6' (hlow9 _ (Nat.le_refl _))
      refine hK.out _ _ hb9' ?_
      clear hK K
      refine wpTree_end ?_
      have hbg9 := Below.trans hbgd (Below.mono hb9' (by omega))
      go_wp2
      go_roundw
      case rel => exact ⟨k + 1, p.2, A6, n6, c6, by go_num, by omega, by omega, by have := Htl.out; split at this <;> omega, Hid'.out, HNP.out, B9, hR9, hF6, Blk.below B7 hb9' (by omega), Blk.below BR hb9' (by omega), hbg9⟩
      case measure => simp [intOf]; omega
end Go.Proofs.Ytnlmbjmgmofeiaa.ix
