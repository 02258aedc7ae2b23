/- Contracts: within, Fill. Printed by gen14.py. -/
import Derived.Test.YtnlmbjmgmofeiaaMD
import Derived.Test.YtnlmbjmgmofeiaaT16
import Derived.Test.YtnlmbjmgmofeiaaU4
import Derived.Test.YtnlmbjmgmofeiaaT
import Derived.Test.YtnlmbjmgmofeiaaJ
namespace Go.Proofs.Ytnlmbjmgmofeiaa.ix
open Go.ChangeShapes Go.WideShapes Go.ChangeAt Go.RowKit Go.Proofs.Ytnlmbjmgmofeiaa.lib Go.Proofs.Ytnlmbjmgmofeiaa.val Go.Proofs.Ytnlmbjmgmofeiaa.tb
set_option linter.unusedVariables false

theorem within11 (a n k : Int) (hk : a % n = k) (w : World) (hn : 1 ≤ n) (hn2 : n ≤ 2000000000000) (ha : -9223372036854775808 ≤ a) (hb : a ≤ 9223372036854775807) :
    Calls Try.prog 12 #[.int .i64 a, .int .i64 n] w fun e w' => e = .returned (.int .i64 k) ∧ w = w' := by
  subst hk
  have h0 : (n == 0) = false := by simp; omega
  have h1 := Int.emod_nonneg a (by omega : n ≠ 0)
  have h2 := Int.emod_lt_of_pos a (by omega : 0 < n)
  go_enter Try.func12, Try.ntmps12
  go_wp2
  · have h := tmod_pos a n hn (by assumption)
    go_ret
    exact ⟨ret_int (by simp [h]; exact IntWalk.wrap64_in _ ⟨by omega, by omega⟩), rfl⟩
  · have h := tmod_nn a n hn (by assumption)
    go_ret
    exact ⟨ret_int (by simp [h]), rfl⟩
/-- numbers that are small -/
def Num (r : List V) : Prop := ∀ v ∈ r, -100 ≤ v.n ∧ v.n ≤ 100
theorem num_fit (cs : List Col) (x : Int) : Num (fitL cs x) := by
  intro v hv
  unfold fitL at hv
  rw [List.mem_mapIdx] at hv
  obtain ⟨i, hi, rfl⟩ := hv
  have hk := kk_bd i x
  unfold fitV rawV
  split
  · exact ⟨by decide, by decide⟩
  split
  · show -100 ≤ kkV i x % 2 ∧ kkV i x % 2 ≤ 100
    omega
  split
  · show -100 ≤ kkV i x ∧ kkV i x ≤ 100
    omega
  split
  · show (-100 : Int) ≤ 0 ∧ (0 : Int) ≤ 100; omega
  · show (-100 : Int) ≤ 0 ∧ (0 : Int) ≤ 100; omega
/-- a row that Fit made -/
def Fitd (cs : List Col) (r : List V) : Prop := ∃ x, r = fitL cs x
theorem Fitd.num {cs : List Col} {r : List V} (h : Fitd cs r) : Num r := by
  obtain ⟨x, rfl⟩ := h
  exact num_fit cs x
theorem fitd_put {cs : List Col} {key : Nat} {rows : List (List V)} {r : List V} (h : ∀ x ∈ rows, Fitd cs x) (hr : Fitd cs r) : ∀ x ∈ (putL cs key rows r).2, Fitd cs x := by
  unfold putL
  split
  · exact h
  split
  · exact h
  split
  · exact h
  · intro x hx
    rcases List.mem_append.1 hx with hx | hx
    · exact h x (List.mem_of_mem_take hx)
    · rcases List.mem_cons.1 hx with rfl | hx
      · exact hr
      · exact h x (List.mem_of_mem_drop hx)
theorem rowN_of {S : Sch} {col : Nat} {r : List V} (hf : fitsL S.cols r = 0) (hn : Num r) (hc : col < S.cols.length) (hk : S.key < S.cols.length) (h6 : S.cols.length ≤ 100) : RowN col S.key r := by
  have hl := fits_len hf
  have hat : ∀ i, i < S.cols.length → Fit64 ((r[i]?).getD ⟨0, 0, ⟨#[]⟩⟩) := by
    intro i hi
    rw [List.getElem?_eq_getElem (by omega), Option.getD_some]
    have hm := hn r[i] (List.getElem_mem (by omega))
    have hg : fitsGo S.cols r = 0 := by
      unfold fitsL at hf
      rw [if_neg (by omega)] at hf
      exact hf
    exact ⟨(fitsGo_at S.cols r i r[i] S.cols[i] hg (List.getElem?_eq_getElem (by omega)) (List.getElem?_eq_getElem hi)).1, by omega, by omega⟩
  exact ⟨by omega, by omega, by omega, ⟨hat col hc, hat S.key hk⟩⟩
/-- what Fill answers -/
def FillP (S : Sch) (A7 : Option Addr) (c7 : Nat) (w : World) (e : Ending) (w' : World) : Prop := ∃ rows A n c, e = .returned (.agg (tabA S A7 S.cols.length c7 A n c)) ∧ Rs w' w.heap.size A n c rows ∧ Fine A ∧ Ok S.cols S.key rows ∧ rows.length ≤ 50 ∧ (∀ r ∈ rows, Fitd S.cols r) ∧ Below w.heap.size w w'
set_option maxRecDepth 1000000 in
set_option maxHeartbeats 8000000 in
theorem fill_ (S : Sch) (A7 : Option Addr) (c7 : Nat) (Ai : Option Addr) (ni ci : Nat) (zs : List Int) (w : World) (hS : SOk S) (hC : Cs w 0 A7 S.cols.length c7 S.cols)
    (hI : Row w 0 Ai ni ci (flatK encI zs)) (hni : zs.length = ni) (hi2 : ni ≤ maxLen) (hz : ∀ x ∈ zs, ok64 x) :
    Calls Try.prog 13 #[.agg (schA S A7 S.cols.length c7), .slice Ai ni ci] w (FillP S A7 c7 w) := by
  unfold maxLen at hi2
  have HNI := Lib.hid hni
  have HZ := Lib.hid hz
  have h6 := hS.six
  have hn7 : S.cols.length ≤ 100 := by omega
  have hCs : Hid (∀ w', Below w.heap.size w w' → Cs w' 0 A7 S.cols.length c7 S.cols) := Lib.hid (fun w' h => (hC.ext h))
  have HIx := Lib.hid (fun w' (h : Below w.heap.size w w') => hI.ext h)
  clear hni hz hC
  simp only [schA]
  go_enter Try.func13, Try.ntmps13
  go_upto_region 2 with fail
  obtain ⟨W, hW_, hbW, B7, BR, BX⟩ : ∃ W_, W_ = (((w.alloc (.cells #[.string S.name, .slice A7 S.cols.length c7, .int .i64 S.key, .bool S.only] 24)).alloc (.cells #[.string ⟨#[]⟩, .slice none 0 0, .int .i64 0, .bool false, .slice none 0 0] 32)).alloc (.cells #[.string S.name, .slice A7 S.cols.length c7, .int .i64 S.key, .bool S.only, .slice none 0 0] 32)) ∧ Below w.heap.size w W_ ∧ Blk W_ (w.heap.size) 24 #[.string S.name, .slice A7 S.cols.length c7, .int .i64 S.key, .bool S.only] ∧ Blk W_ (w.heap.size + 1) 32 #[.string ⟨#[]⟩, .slice none 0 0, .int .i64 0, .bool false, .slice none 0 0] ∧ Blk W_ (w.heap.size + 1 + 1) 32 #[.string S.name, .slice A7 S.cols.length c7, .int .i64 S.key, .bool S.only, .slice none 0 0] :=
    ⟨_, rfl, ((((Below.refl _ _).alloc (Nat.le_refl _) _).alloc (by simp; try omega) _).alloc (by simp; try omega) _), (((blk_new_at w (w.heap.size) _ _ (by simp)).alloc _).alloc _), ((blk_new_at (w.alloc (.cells #[.string S.name, .slice A7 S.cols.length c7, .int .i64 S.key, .bool S.only] 24)) (w.heap.size + 1) _ _ (by simp)).alloc _), (blk_new_at ((w.alloc (.cells #[.string S.name, .slice A7 S.cols.length c7, .int .i64 S.key, .bool S.only] 24)).alloc (.cells #[.string ⟨#[]⟩, .slice none 0 0, .int .i64 0, .bool false, .slice none 0 0] 32)) (w.heap.size + 1 + 1) _ _ (by simp))⟩
  rw [← hW_]
  clear hW_
  have hxl := BX.lt
  obtain ⟨H, hH⟩ : ∃ H, w.heap.size = H := ⟨_, rfl⟩
  have hHle : H ≤ w.heap.size := Nat.le_of_eq hH.symm
  rw [hH] at B7 BR BX hxl hbW hCs HIx ⊢
  go_wp2_with fail
  go_loopw [6] (fun i wr => ∃ (k : Nat) (rows : List (List V)) (A2 : Option Addr) (n2 c2 : Nat), i = .int .i64 k ∧ k ≤ ni ∧ k ≤ 50 ∧ rows.length ≤ k ∧ Ok S.cols S.key rows ∧ (∀ r ∈ rows, Fitd S.cols r) ∧ Blk wr (H + 1 + 1) 32 #[.string S.name, .slice A7 S.cols.length c7, .int .i64 S.key, .bool S.only, .slice A2 n2 c2] ∧ Rs wr (H + 3) A2 n2 c2 rows ∧ Fine A2 ∧ Blk wr H 24 #[.string S.name, .slice A7 S.cols.length c7, .int .i64 S.key, .bool S.only] ∧ Blk wr (H + 1) 32 #[.string ⟨#[]⟩, .slice none 0 0, .int .i64 0, .bool false, .slice none 0 0] ∧ Below H w wr) (fun i _ => ni - (intOf i).toNat)
  case atStart => exact ⟨0, [], none, 0, 0, rfl, Nat.zero_le _, Nat.zero_le _, Nat.zero_le _, hS.ok0, by simp, BX, Rs.nil _ _, .inl rfl, B7, BR, hbW⟩
  case round =>
    clear B7 BX BR hbW hxl
    obtain ⟨k, rows, A2, n2, c2, rfl, hk, hk30, hlen, hOk, hNum, BX, hRx, hF8, B7, BR, hbg⟩ := hrel
    have hOk := Lib.hid hOk
    have hNum := Lib.hid hNum
    have hbw := hbg
    by_cases hgo : k < ni ∧ k < 50
    case neg =>
      have hcond : (¬ k < ni ∧ decide ((k : Int) < (ni : Int)) = false) ∨ (k < ni ∧ decide ((k : Int) < (ni : Int)) = true ∧ ¬ k < 50 ∧ decide ((k : Int) < 50) = false) := by
        by_cases h : k < ni
        · exact .inr ⟨h, by simp; omega, by omega, by simp; omega⟩
        · exact .inl ⟨h, by simp; omega⟩
      clear hgo
      rcases hcond with ⟨hq0, hd1⟩ | ⟨hq0, hd1, hq1, hd2⟩
      all_goals
        have q8 := five BX (Below.refl _ _)
        have q9 := five BR (Below.refl _ _)
        have f0 := BR.frozen 0
        have f1 := BR.frozen 1
        have f2 := BR.frozen 2
        have f3 := BR.frozen 3
        have f4 := BR.frozen 4
        have hrl := BR.lt
        go_wp2
        clear f0 f1 f2 f3 f4 q8 q9
        obtain ⟨wz, hwz, Bz, hlowz, hgrz⟩ := Blk.set5 BR (.string S.name) (.slice A7 S.cols.length c7) (.int .i64 S.key) (.bool S.only) (.slice A2 n2 c2)
        rw [← hwz]
        clear hwz
        have q := five Bz (Below.refl _ _)
        refine bodyPost_ret (v := .agg (tabA S A7 S.cols.length c7 A2 n2 c2)) (by simp [results, Try.results13, go_sem, q, tabA]; try rfl) rfl ?_
        unfold FillP
        rw [hH]
        exact ⟨rows, A2, n2, c2, rfl, (hRx.grownL hgrz (by omega)).base (by omega), hF8, hOk.out, by omega, hNum.out, Below.trans hbg (hlowz _ (by omega))⟩
    obtain ⟨hgo1, hgo2⟩ := hgo
    have hd1 : decide ((k : Int) < (ni : Int)) = true := by simp; omega
    have hd2 : decide ((k : Int) < 50) = true := by simp; omega
    have hkni : (k : Int) < (ni : Int) := by omega
    obtain ⟨x, hx⟩ : ∃ x, zs[k]? = some x := ⟨_, List.getElem?_eq_getElem (by rw [HNI.out]; exact hgo1)⟩
    have hx64 := HZ.out x (List.mem_of_getElem? hx)
    obtain ⟨bi, oi, rfl, _, _, _⟩ := hI.some_ (by omega)
    have hxc := flatK_at encI 1 (fun _ => rfl) zs k x 0 _ hx rfl
    have HXC := Lib.hid hxc
    clear hxc hx
    obtain ⟨kv, hri⟩ := row_i hS x
    obtain ⟨r, hr⟩ : ∃ r, fitL S.cols x = r := ⟨_, rfl⟩
    rw [hr] at hri
    have hri := Lib.hid hri
    have HNP := Lib.hid (fitd_put (cs := S.cols) (key := S.key) hNum.out ⟨x, hr.symm⟩)
    have htl := put_len (cs := S.cols) (key := S.key) (rows := rows) (r := r)
    have hok' := putL_ok hOk.out r
    obtain ⟨p, hp⟩ : ∃ p, putL S.cols S.key rows r = p := ⟨_, rfl⟩
    rw [hp] at htl hok' HNP
    have Htl := Lib.hid htl
    have Hid' := Lib.hid hok'
    clear htl hok'
    go_wp2_with fail
    have hrd : Below wr.heap.size wr wr.drew := (Below.refl _ _).drew
    have B7 := B7.ext hrd
    have BR := BR.ext hrd
    have B8 : Blk wr.drew (H + 1 + 1) 32 #[.string S.name, .slice A7 S.cols.length c7, .int .i64 S.key, .bool S.only, .slice A2 n2 c2] := BX.ext hrd
    have hR8 := hRx.ext hrd
    have hbgd := Below.trans hbg (Below.mono hrd (Nat.le_trans hHle hbg.size))
    have hg8 := B8.lt
    have D := fun w' (h : Below (H + 1 + 1) wr.drew w') => four (B7.below h (by omega)) (Below.refl _ _)
    have D2 := fun w' (h : Below (H + 1 + 1) wr.drew w') => (HIx.out _ (Below.trans hbgd (Below.mono h (by omega)))).at_ HXC.out
    simp only [Nat.mul_one, Nat.add_zero] at D2
    refine wp_region_tree (S := fun w' => Below (H + 1 + 1) wr.drew w') (.take 1 (.take 2 (.take 3 (.take 4 (.take 5 (.two 0 6 (.one 6 (.one 7 (.take 8 (.take 9 (.take 10 (.one 11 .nil)))))) (.one 0 (.one 7 (.take 8 (.take 9 (.take 10 (.one 11 .nil))))))))))))
      (by kernel_rfl) (by kernel_rfl) (by kernel_rfl) (by decide) (by intro c a d v w h; cases d <;> exact h) (Below.refl _ _) ?_
    repeat ((with_reducible show wpTree _ _ _ _ (.take _ _) _ _); (first | (refine wpTree_on (v := ?_) rfl rfl (wanted_free rfl) (fun w' hS => ?_) ?_; rotate_left; (focus (go_simp; (try with_reducible rfl); done)); try simp only [List.setIfInBounds_toArray, List.set_cons_zero, List.set_cons_succ]) | (refine wpTree_on (v := ?_) rfl rfl (wanted_yes rfl rfl rfl) (fun w' hS => ?_) ?_; rotate_left; (focus (go_simp; (try with_reducible rfl); done)); try simp only [List.setIfInBounds_toArray, List.set_cons_zero, List.set_cons_succ]) | (refine wpTree_off rfl rfl (wanted_no rfl rfl rfl) ?_; try simp only [List.setIfInBounds_toArray, List.set_cons_zero, List.set_cons_succ]) | (refine wpTree_off rfl rfl (wanted_undef rfl rfl rfl) ?_; try simp only [List.setIfInBounds_toArray, List.set_cons_zero, List.set_cons_succ])))
    clear D D2
    have hrr : wr.heap.size = wr.drew.heap.size := rfl
    generalize wr.drew = wd at *
    refine wpTree_both rfl (wanted_free rfl) rfl (wanted_free rfl) (fun K hK => ?_) (fun K hK => ?_)
    · have q8 := five B8 (Below.refl _ _)
      go_simp
      refine hK.out _ _ (Below.refl _ _) ?_
      clear hK K q8
      refine wpTree_do rfl (wanted_free rfl) (fun K hK => ?_); go_simp
      refine (fit_ S 0 A7 S.cols.length c7 x _ (hCs.out _ (Below.trans hbgd (Below.mono (Below.refl (H + 1 + 1) wd) (by omega)))) hn7 hS.kinds hx64.1 hx64.2).mono ?_
      rintro e w5 ⟨Ar, cr, rfl, hown5, hb5⟩
      have hb5' : Below (H + 1 + 1) wd w5 := Below.trans (Below.refl (H + 1 + 1) wd) (Below.mono hb5 (by have := B8.lt; omega))
      refine hK.out _ _ hb5' ?_
      clear hK K
      rw [hr] at hown5
      have hVr : Vs w5 0 Ar S.cols.length cr r := (Vs.of_own hown5).base (Nat.zero_le _)
      have hC5 := hCs.out _ (Below.trans hbgd (Below.mono hb5' (by omega)))
      have hR5 := hR8.ext hb5
      have B85 := B8.ext hb5
      have hz5 := hb5.size
      have hz8 := B8.lt
      refine wpTree_do rfl (wanted_free rfl) (fun K hK => ?_); go_simp
      refine (rput_ S rows r 0 (H + 3) A7 S.cols.length c7 A2 n2 c2 0 Ar S.cols.length cr w5 hC5 hR5 hF8 (by omega) hVr hri.out.small hOk.out hn7 (by omega) (by omega)).mono ?_
      rintro e w6 ⟨A6, n6, c6, rfl, hR6, hF6, hb6⟩
      rw [hp] at hR6 ⊢
      have hb6' := Below.trans hb5' (Below.mono hb6 (by omega))
      refine hK.out _ _ hb6' ?_
      clear hK K
      simp only [tabA]
      repeat ((with_reducible show wpTree _ _ _ _ (.take _ _) _ _); (first | (refine wpTree_on (v := ?_) rfl rfl (wanted_free rfl) (fun w' hS => ?_) ?_; rotate_left; (focus (go_simp; (try with_reducible rfl); done)); try simp only [List.setIfInBounds_toArray, List.set_cons_zero, List.set_cons_succ]) | (refine wpTree_on (v := ?_) rfl rfl (wanted_yes rfl rfl rfl) (fun w' hS => ?_) ?_; rotate_left; (focus (go_simp; (try with_reducible rfl); done)); try simp only [List.setIfInBounds_toArray, List.set_cons_zero, List.set_cons_succ]) | (refine wpTree_off rfl rfl (wanted_no rfl rfl rfl) ?_; try simp only [List.setIfInBounds_toArray, List.set_cons_zero, List.set_cons_succ]) | (refine wpTree_off rfl rfl (wanted_undef rfl rfl rfl) ?_; try simp only [List.setIfInBounds_toArray, List.set_cons_zero, List.set_cons_succ])))
      have hB8 : Blk w6 (H + 1 + 1) 32 #[.string S.name, .slice A7 S.cols.length c7, .int .i64 S.key, .bool S.only, .slice A2 n2 c2] := (Blk.below B85 hb6 (by omega))
      have f0 := hB8.frozen 0
      have f1 := hB8.frozen 1
      have f2 := hB8.frozen 2
      have f3 := hB8.frozen 3
      have f4 := hB8.frozen 4
      have q8 := five hB8 (Below.refl _ _)
      refine wpTree_do rfl (wanted_free rfl) (fun K hK => ?_); go_simp
      clear f0 f1 f2 f3 f4 q8
      obtain ⟨w9, hw9, B9, hlow9, hgr9⟩ := Blk.set5 hB8 (.string S.name) (.slice A7 S.cols.length c7) (.int .i64 S.key) (.bool S.only) (.slice A6 n6 c6)
      rw [← hw9]
      clear hw9
      have hR9 := hR6.grownL hgr9 (by omega)
      have hb9' := Below.trans hb6' (hlow9 _ (Nat.le_refl _))
      refine hK.out _ _ hb9' ?_
      clear hK K
      refine wpTree_end ?_
      have hbg9 := Below.trans hbgd (Below.mono hb9' (by omega))
      go_wp2
      go_roundw
      case rel => exact ⟨k + 1, p.2, A6, n6, c6, by go_num, by omega, by omega, by have := Htl.out; split at this <;> omega, Hid'.out, HNP.out, B9, hR9, hF6, Blk.below B7 hb9' (by omega), Blk.below BR hb9' (by omega), hbg9⟩
      case measure => simp [intOf]; omega
    · go_simp
      refine (fit_ S 0 A7 S.cols.length c7 x _ (hCs.out _ (Below.trans hbgd (Below.mono (Below.refl (H + 1 + 1) wd) (by omega)))) hn7 hS.kinds hx64.1 hx64.2).mono ?_
      rintro e w5 ⟨Ar, cr, rfl, hown5, hb5⟩
      have hb5' : Below (H + 1 + 1) wd w5 := Below.trans (Below.refl (H + 1 + 1) wd) (Below.mono hb5 (by have := B8.lt; omega))
      refine hK.out _ _ hb5' ?_
      clear hK K
      rw [hr] at hown5
      have hVr : Vs w5 0 Ar S.cols.length cr r := (Vs.of_own hown5).base (Nat.zero_le _)
      have hC5 := hCs.out _ (Below.trans hbgd (Below.mono hb5' (by omega)))
      have hR5 := hR8.ext hb5
      have B85 := B8.ext hb5
      have hz5 := hb5.size
      have hz8 := B8.lt
      have q8 := five (B85 : Blk w5 (H + 1 + 1) 32 #[.string S.name, .slice A7 S.cols.length c7, .int .i64 S.key, .bool S.only, .slice A2 n2 c2]) (Below.refl _ _)
      refine wpTree_do rfl (wanted_free rfl) (fun K hK => ?_); go_simp
      refine hK.out _ _ hb5' ?_
      clear hK K q8
      refine wpTree_do rfl (wanted_free rfl) (fun K hK => ?_); go_simp
      refine (rput_ S rows r 0 (H + 3) A7 S.cols.length c7 A2 n2 c2 0 Ar S.cols.length cr w5 hC5 hR5 hF8 (by omega) hVr hri.out.small hOk.out hn7 (by omega) (by omega)).mono ?_
      rintro e w6 ⟨A6, n6, c6, rfl, hR6, hF6, hb6⟩
      rw [hp] at hR6 ⊢
      have hb6' := Below.trans hb5' (Below.mono hb6 (by omega))
      refine hK.out _ _ hb6' ?_
      clear hK K
      simp only [tabA]
      repeat ((with_reducible show wpTree _ _ _ _ (.take _ _) _ _); (first | (refine wpTree_on (v := ?_) rfl rfl (wanted_free rfl) (fun w' hS => ?_) ?_; rotate_left; (focus (go_simp; (try with_reducible rfl); done)); try simp only [List.setIfInBounds_toArray, List.set_cons_zero, List.set_cons_succ]) | (refine wpTree_on (v := ?_) rfl rfl (wanted_yes rfl rfl rfl) (fun w' hS => ?_) ?_; rotate_left; (focus (go_simp; (try with_reducible rfl); done)); try simp only [List.setIfInBounds_toArray, List.set_cons_zero, List.set_cons_succ]) | (refine wpTree_off rfl rfl (wanted_no rfl rfl rfl) ?_; try simp only [List.setIfInBounds_toArray, List.set_cons_zero, List.set_cons_succ]) | (refine wpTree_off rfl rfl (wanted_undef rfl rfl rfl) ?_; try simp only [List.setIfInBounds_toArray, List.set_cons_zero, List.set_cons_succ])))
      have hB8 : Blk w6 (H + 1 + 1) 32 #[.string S.name, .slice A7 S.cols.length c7, .int .i64 S.key, .bool S.only, .slice A2 n2 c2] := (Blk.below B85 hb6 (by omega))
      have f0 := hB8.frozen 0
      have f1 := hB8.frozen 1
      have f2 := hB8.frozen 2
      have f3 := hB8.frozen 3
      have f4 := hB8.frozen 4
      have q8 := five hB8 (Below.refl _ _)
      refine wpTree_do rfl (wanted_free rfl) (fun K hK => ?_); go_simp
      clear f0 f1 f2 f3 f4 q8
      obtain ⟨w9, hw9, B9, hlow9, hgr9⟩ := Blk.set5 hB8 (.string S.name) (.slice A7 S.cols.length c7) (.int .i64 S.key) (.bool S.only) (.slice A6 n6 c6)
      rw [← hw9]
      clear hw9
      have hR9 := hR6.grownL hgr9 (by omega)
      have hb9' := Below.trans hb6' (hlow9 _ (Nat.le_refl _))
      refine hK.out _ _ hb9' ?_
      clear hK K
      refine wpTree_end ?_
      have hbg9 := Below.trans hbgd (Below.mono hb9' (by omega))
      go_wp2
      go_roundw
      case rel => exact ⟨k + 1, p.2, A6, n6, c6, by go_num, by omega, by omega, by have := Htl.out; split at this <;> omega, Hid'.out, HNP.out, B9, hR9, hF6, Blk.below B7 hb9' (by omega), Blk.below BR hb9' (by omega), hbg9⟩
      case measure => simp [intOf]; omega
end Go.Proofs.Ytnlmbjmgmofeiaa.ix

/- Contract: law11's known. Plain: entries of rows that Fit made. -/
namespace Go.Proofs.Ytnlmbjmgmofeiaa.ix
open Go.ChangeShapes Go.WideShapes Go.ChangeAt Go.RowKit Go.Proofs.Ytnlmbjmgmofeiaa.lib Go.Proofs.Ytnlmbjmgmofeiaa.val Go.Proofs.Ytnlmbjmgmofeiaa.tb
set_option linter.unusedVariables false

theorem mem_foldN {col key : Nat} : ∀ (rows : List (List V)) (l : List En) {x : En}, x ∈ rows.foldl (fun es r => addN es (enR col key r)) l → x ∈ l ∨ ∃ r ∈ rows, x = enR col key r
  | [], l, x, h => .inl h
  | r :: rs, l, x, h => by
    rcases mem_foldN rs _ h with h | ⟨r', h1, h2⟩
    · rcases mem_addN h with h | h
      · exact .inr ⟨r, List.mem_cons_self, h⟩
      · exact .inl h
    · exact .inr ⟨r', List.mem_cons_of_mem _ h1, h2⟩
theorem mem_buildN {col key : Nat} {rows : List (List V)} {x : En} (h : x ∈ buildN col key rows) : ∃ r ∈ rows, x = enR col key r := by
  rcases mem_foldN rows [] h with h | h
  · cases h
  · exact h
set_option maxRecDepth 1000000 in
set_option maxHeartbeats 4000000 in
theorem known11_ (w : World) : Calls Try.prog 9 #[] w fun e w' => e = .returned (.bool true) ∧ Below w.heap.size w w' := by
  go_enter Try.func9, Try.ntmps9
  go_wp2_with fail
  obtain ⟨W, hW_, hbW, BC⟩ : ∃ W_, W_ = (w.alloc (.cells #[.string ⟨#[97]⟩, .int .i64 2, .bool false] 66)) ∧ Below w.heap.size w W_ ∧ Blk W_ (w.heap.size) 66 #[.string ⟨#[97]⟩, .int .i64 2, .bool false] :=
    ⟨_, rfl, ((Below.refl _ _).alloc (Nat.le_refl _) _), (blk_new_at w (w.heap.size) _ _ (by simp))⟩
  rw [← hW_]
  clear hW_
  refine (of_ ⟨⟨#[120]⟩, [], 0, false⟩ (some ⟨w.heap.size, 0, none⟩) 1 1 none 0 0 _).mono ?_
  rintro e w1 ⟨rfl, hb1⟩
  have hbw1 := Below.trans hbW (Below.mono hb1 hbW.size)
  simp only [tabA]
  go_wp2_with fail
  refine (build_ ⟨⟨#[120]⟩, [], 0, false⟩ [] 0 0 0 (some ⟨w.heap.size, 0, none⟩) 1 1 none 0 0 _ rfl (Rs.nil _ _) (by decide) (by simp)).mono ?_
  rintro e w2 ⟨g, ws, A, c, rfl, hx, hmap, hlo, hb2⟩
  have hbw2 := Below.trans hbw1 (Below.mono hb2 hbw1.size)
  obtain rfl : ws = [] := List.map_eq_nil_iff.1 hmap
  have HX := Lib.hid hx
  clear hx hmap
  go_wp2_with fail
  refine (len_ [] g (g + 1) 0 0 A c _ HX.out).mono ?_
  rintro e w3 ⟨rfl, rfl⟩
  go_wp2_with fail
  refine (keys_ [] ⟨0, 0, ⟨#[]⟩⟩ g (g + 1) 0 0 A c _ HX.out (by decide)).mono ?_
  rintro e w4 ⟨A2, c2, rfl, _, hb4⟩
  go_wp2
  go_ret
  exact ⟨rfl, Below.trans hbw2 (Below.mono hb4 hbw2.size)⟩
end Go.Proofs.Ytnlmbjmgmofeiaa.ix

/- Plain: what an index that is built of a table's rows tells. -/
namespace Go.Proofs.Ytnlmbjmgmofeiaa.ix
open Go.ChangeShapes Go.WideShapes Go.ChangeAt Go.RowKit Go.Proofs.Ytnlmbjmgmofeiaa.lib Go.Proofs.Ytnlmbjmgmofeiaa.val Go.Proofs.Ytnlmbjmgmofeiaa.tb
set_option linter.unusedVariables false

theorem enR_k (col key : Nat) (r : List V) : (enR col key r).k = tb.keyOf key r := by
  unfold enR tb.keyOf zV
  simp only [List.getD_eq_getElem?_getD]
  rfl
/-- an entry whose key is above all others' is new -/
theorem isN_above {es : List En} {e : En} (h : ∀ x ∈ es, cmpV x.k e.k < 0) : isN e es = false := by
  cases hb : isN e es with
  | false => rfl
  | true =>
    obtain ⟨x, hx, hz⟩ := n_isL_at hb
    have h1 := h x (List.mem_of_getElem? hx)
    rw [cmpN_zero hz, cmpV_refl] at h1
    omega
theorem keysN_add {es : List En} {e : En} (ho : Srt es) (h : ∀ x ∈ es, cmpV x.k e.k < 0) (v : V) : keysN (addN es e) v = if cmpV e.v v = 0 then keysN es v ++ [e.k] else keysN es v := by
  unfold addN
  rw [isN_above h, if_neg (by simp)]
  have hes : keysN es v = keysN (es.take (posN e es)) v ++ keysN (es.drop (posN e es)) v := by
    unfold keysN
    rw [← List.map_append, ← List.filter_append, List.take_append_drop]
  have hsp : keysN (es.take (posN e es) ++ e :: es.drop (posN e es)) v = keysN (es.take (posN e es)) v ++ ((if cmpV e.v v = 0 then [e.k] else []) ++ keysN (es.drop (posN e es)) v) := by
    unfold keysN
    rw [List.filter_append, List.map_append, List.filter_cons]
    by_cases hc : cmpV e.v v = 0
    · rw [if_pos (by simpa using hc), if_pos hc, List.map_cons]; rfl
    · rw [if_neg (by simpa using hc), if_neg hc]; rfl
  rw [hsp, hes]
  by_cases hc : cmpV e.v v = 0
  · rw [if_pos hc, if_pos hc]
    have hd : keysN (es.drop (posN e es)) v = [] := by
      unfold keysN
      rw [List.filter_eq_nil_iff.2 ?_]
      · rfl
      intro x hx
      obtain ⟨j, hj, rfl⟩ := List.getElem_of_mem hx
      rw [List.getElem_drop]
      have hlt : posN e es + j < es.length := by rw [List.length_drop] at hj; omega
      have hb := n_ge_at ho (k := e) (i := posN e es + j) (Nat.le_add_right _ _) (List.getElem?_eq_getElem hlt)
      have hk := h es[posN e es + j] (List.getElem_mem hlt)
      intro hz
      simp only [decide_eq_true_eq] at hz
      unfold belowN at hb
      simp only [decide_eq_false_iff_not] at hb
      apply hb
      unfold cmpN
      rw [cmp_eq1 hz, cmp_eq1 hc, cmpV_refl, if_pos rfl]
      exact hk
    rw [hd, List.append_nil, List.append_nil]
  · rw [if_neg hc, if_neg hc, List.nil_append]
/-- the keys of rows whose value is v, in order -/
def wantL (col key : Nat) (rows : List (List V)) (v : V) : List V := (rows.filter fun r => decide (cmpV (enR col key r).v v = 0)).map fun r => (enR col key r).k
theorem wantL_snoc {col key : Nat} {rows : List (List V)} {v : V} {i : Nat} {r : List V} (h : rows[i]? = some r) :
    wantL col key (rows.take (i + 1)) v = if cmpV (enR col key r).v v = 0 then wantL col key (rows.take i) v ++ [(enR col key r).k] else wantL col key (rows.take i) v := by
  unfold wantL
  rw [List.take_add_one, h, Option.toList_some, List.filter_append, List.map_append]
  by_cases hc : cmpV (enR col key r).v v = 0
  · rw [if_pos hc, List.filter_cons, if_pos (by simpa using hc)]; rfl
  · rw [if_neg hc, List.filter_cons, if_neg (by simpa using hc), List.filter_nil, List.map_nil, List.append_nil]
theorem wantL_len (col key : Nat) (rows : List (List V)) (v : V) : (wantL col key rows v).length ≤ rows.length := by
  unfold wantL
  rw [List.length_map]
  exact List.length_filter_le _ _
theorem foldN_srt {col key : Nat} : ∀ (rows : List (List V)) {l : List En}, Srt l → Srt (rows.foldl (fun es r => addN es (enR col key r)) l)
  | [], l, h => h
  | r :: rs, l, h => foldN_srt rs (addN_srt h _)
theorem buildN_srt (col key : Nat) (rows : List (List V)) : Srt (buildN col key rows) := foldN_srt rows List.Pairwise.nil
theorem build_above {col key : Nat} {rows : List (List V)} (ho : rows.Pairwise fun a b => cmpV (tb.keyOf key a) (tb.keyOf key b) < 0) {i : Nat} {r : List V} (h : rows[i]? = some r) :
    ∀ x ∈ buildN col key (rows.take i), cmpV x.k (enR col key r).k < 0 := by
  intro x hx
  obtain ⟨r', hr', rfl⟩ := mem_buildN hx
  rw [enR_k, enR_k]
  obtain ⟨j, hj, rfl⟩ := List.getElem_of_mem hr'
  rw [List.getElem_take]
  rw [List.length_take] at hj
  obtain ⟨hi, rfl⟩ := List.getElem?_eq_some_iff.1 h
  exact List.pairwise_iff_getElem.1 ho j i (by omega) hi (by omega)
theorem keys_want {col key : Nat} {rows : List (List V)} (ho : rows.Pairwise fun a b => cmpV (tb.keyOf key a) (tb.keyOf key b) < 0) (v : V) (i : Nat) : keysN (buildN col key (rows.take i)) v = wantL col key (rows.take i) v := by
  induction i with
  | zero => rw [List.take_zero]; rfl
  | succ i ih =>
    cases h : rows[i]? with
    | none =>
      have : rows.take (i + 1) = rows.take i := by rw [List.take_add_one, h, Option.toList_none, List.append_nil]
      rw [this, ih]
    | some r => rw [buildN_snoc h, keysN_add (buildN_srt _ _ _) (build_above ho h), wantL_snoc h, ih]
theorem build_len {col key : Nat} {rows : List (List V)} (ho : rows.Pairwise fun a b => cmpV (tb.keyOf key a) (tb.keyOf key b) < 0) (i : Nat) : (buildN col key (rows.take i)).length = (rows.take i).length := by
  induction i with
  | zero => rw [List.take_zero]; rfl
  | succ i ih =>
    cases h : rows[i]? with
    | none =>
      have : rows.take (i + 1) = rows.take i := by rw [List.take_add_one, h, Option.toList_none, List.append_nil]
      rw [this, ih]
    | some r =>
      rw [buildN_snoc h, addN_len, isN_above (build_above ho h), if_neg (by simp), ih, List.take_add_one, h, List.length_append]
      rfl
theorem keys_all {col key : Nat} {rows : List (List V)} (ho : rows.Pairwise fun a b => cmpV (tb.keyOf key a) (tb.keyOf key b) < 0) (v : V) : keysN (buildN col key rows) v = wantL col key rows v := by
  have := keys_want (col := col) ho v rows.length
  rwa [List.take_of_length_le (Nat.le_refl _)] at this
theorem len_all {col key : Nat} {rows : List (List V)} (ho : rows.Pairwise fun a b => cmpV (tb.keyOf key a) (tb.keyOf key b) < 0) : (buildN col key rows).length = rows.length := by
  have := build_len (col := col) ho rows.length
  rwa [List.take_of_length_le (Nat.le_refl _)] at this
end Go.Proofs.Ytnlmbjmgmofeiaa.ix

/- Plain: the order in which rows are added does not count; what is dropped is gone. -/
namespace Go.Proofs.Ytnlmbjmgmofeiaa.ix
open Go.ChangeShapes Go.WideShapes Go.ChangeAt Go.RowKit Go.Proofs.Ytnlmbjmgmofeiaa.lib Go.Proofs.Ytnlmbjmgmofeiaa.val Go.Proofs.Ytnlmbjmgmofeiaa.tb
set_option linter.unusedVariables false

theorem addN_self {l : List En} (e : En) : e ∈ addN l e := by
  unfold addN
  split
  · next h =>
    obtain ⟨x, hx, hz⟩ := n_isL_at h
    rw [← cmpN_zero hz]
    exact List.mem_of_getElem? hx
  · exact List.mem_append_right _ List.mem_cons_self
theorem addN_old {l : List En} {e x : En} (h : x ∈ l) : x ∈ addN l e := by
  unfold addN
  split
  · exact h
  · rw [← List.take_append_drop (posN e l) l] at h
    rcases List.mem_append.1 h with h | h
    · exact List.mem_append_left _ h
    · exact List.mem_append_right _ (List.mem_cons_of_mem _ h)
theorem foldN_old {col key : Nat} : ∀ (rows : List (List V)) {l : List En} {x : En}, x ∈ l → x ∈ rows.foldl (fun es r => addN es (enR col key r)) l
  | [], l, x, h => h
  | r :: rs, l, x, h => foldN_old rs (addN_old h)
theorem foldN_new {col key : Nat} : ∀ (rows : List (List V)) {l : List En} {r : List V}, r ∈ rows → enR col key r ∈ rows.foldl (fun es r => addN es (enR col key r)) l
  | r' :: rs, l, r, h => by
    rcases List.mem_cons.1 h with rfl | h
    · exact foldN_old rs (addN_self _)
    · exact foldN_new rs h
theorem buildN_mem {col key : Nat} {rows : List (List V)} {r : List V} (h : r ∈ rows) : enR col key r ∈ buildN col key rows := foldN_new rows h
theorem srt_ext : ∀ {a b : List En}, Srt a → Srt b → (∀ x, x ∈ a ↔ x ∈ b) → a = b
  | [], [], _, _, _ => rfl
  | [], y :: b, _, _, h => absurd ((h y).2 List.mem_cons_self) (by simp)
  | x :: a, [], _, _, h => absurd ((h x).1 List.mem_cons_self) (by simp)
  | x :: a, y :: b, ha, hb, h => by
    obtain ⟨ha1, ha2⟩ := List.pairwise_cons.1 ha
    obtain ⟨hb1, hb2⟩ := List.pairwise_cons.1 hb
    have e : x = y := by
      rcases List.mem_cons.1 ((h x).1 List.mem_cons_self) with e | h1
      · exact e
      rcases List.mem_cons.1 ((h y).2 List.mem_cons_self) with e | h2
      · exact e.symm
      have k1 := hb1 x h1
      have k2 := ha1 y h2
      have k3 := cmpN_anti x y
      omega
    subst e
    have hne : ∀ z ∈ a, z ≠ x := fun z hz e => by
      have := ha1 z hz
      rw [e, cmpN_refl] at this
      omega
    have hne2 : ∀ z ∈ b, z ≠ x := fun z hz e => by
      have := hb1 z hz
      rw [e, cmpN_refl] at this
      omega
    rw [srt_ext ha2 hb2 (fun z => ⟨fun hz => by
      rcases List.mem_cons.1 ((h z).1 (List.mem_cons_of_mem _ hz)) with e | h1
      · exact absurd e (hne z hz)
      · exact h1, fun hz => by
      rcases List.mem_cons.1 ((h z).2 (List.mem_cons_of_mem _ hz)) with e | h1
      · exact absurd e (hne2 z hz)
      · exact h1⟩)]
theorem build_same {col key : Nat} {rows rows' : List (List V)} (h : ∀ r, r ∈ rows ↔ r ∈ rows') : buildN col key rows = buildN col key rows' :=
  srt_ext (buildN_srt _ _ _) (buildN_srt _ _ _) (fun x => ⟨fun hx => by
    obtain ⟨r, hr, rfl⟩ := mem_buildN hx
    exact buildN_mem ((h r).1 hr), fun hx => by
    obtain ⟨r, hr, rfl⟩ := mem_buildN hx
    exact buildN_mem ((h r).2 hr)⟩)
theorem dropN_ne {l : List En} (ho : Srt l) {e x : En} (h : x ∈ dropN l e) : x ≠ e := by
  rintro rfl
  unfold dropN at h
  split at h
  · next hi =>
    obtain ⟨y, hy, hz⟩ := n_isL_at hi
    rcases List.mem_append.1 h with h | h
    · obtain ⟨j, hj, hjx⟩ := List.getElem_of_mem h
      rw [List.length_take] at hj
      rw [List.getElem_take] at hjx
      have hb := n_lt_at (k := x) (rows := l) (i := j) (by omega) (List.getElem?_eq_getElem (by omega))
      unfold belowN at hb
      rw [hjx, cmpN_refl] at hb
      simp at hb
    · obtain ⟨j, hj, hjx⟩ := List.getElem_of_mem h
      rw [List.length_drop] at hj
      rw [List.getElem_drop] at hjx
      obtain ⟨hp, hpy⟩ := List.getElem?_eq_some_iff.1 hy
      have hb := List.pairwise_iff_getElem.1 ho (posN x l) (posN x l + 1 + j) hp (by omega) (by omega)
      rw [hjx, hpy, hz] at hb
      omega
  · next hi =>
    exact n_isL_none ho (by simpa using hi) x h (cmpN_refl x)
/-- every place is met when one goes round -/
theorem round_all {n b m : Nat} (hm : m < n) (hb : b < n) : ∃ j, j < n ∧ (j + b) % n = m := by
  by_cases h : b ≤ m
  · exact ⟨m - b, by omega, by rw [Nat.sub_add_cancel h]; exact Nat.mod_eq_of_lt hm⟩
  · refine ⟨m + n - b, by omega, ?_⟩
    rw [show m + n - b + b = m + n by omega, Nat.add_mod_right]
    exact Nat.mod_eq_of_lt hm
theorem drops_nil {col key : Nat} {rows : List (List V)} {n b : Nat} (hn : rows.length = n) (hb : b < n) {es : List En} (h : ∀ x ∈ es, x ∈ buildN col key rows ∧ ∀ j, j < n → x ≠ enR col key (rows.getD ((j + b) % n) [])) : es = [] := by
  cases es with
  | nil => rfl
  | cons x t =>
    obtain ⟨h1, h2⟩ := h x List.mem_cons_self
    obtain ⟨r, hr, rfl⟩ := mem_buildN h1
    obtain ⟨m, hm, rfl⟩ := List.getElem_of_mem hr
    obtain ⟨j, hj, hjm⟩ := round_all (n := n) (b := b) (m := m) (by omega) hb
    have := h2 j hj
    rw [hjm, List.getD_eq_getElem?_getD, List.getElem?_eq_getElem hm, Option.getD_some] at this
    exact absurd rfl this
end Go.Proofs.Ytnlmbjmgmofeiaa.ix
