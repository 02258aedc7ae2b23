/- Contract: BinarySearchFunc over entries. Printed by gen5.py out of the table's XT5. -/
import Derived.Test.YtnlmbjmgmofeiaaMA
import Derived.Test.YtnlmbjmgmofeiaaSl
import Derived.Test.YtnlmbjmgmofeiaaS
import Derived.Test.YtnlmbjmgmofeiaaT8
import Derived.Lib.Overlaps
import Derived.Test.YtnlmbjmgmofeiaaJ
import Derived.Test.YtnlmbjmgmofeiaaTy
namespace Go.Proofs.Ytnlmbjmgmofeiaa.ix
open Go.ChangeShapes Go.WideShapes Go.ChangeAt Go.RowKit Go.Proofs.Ytnlmbjmgmofeiaa.lib Go.Proofs.Ytnlmbjmgmofeiaa.val Go.Proofs.Ytnlmbjmgmofeiaa.tb
set_option linter.unusedVariables false

theorem kW (x : Ew) : (encW x).length = 7 := rfl
theorem row7 {w : World} {lo n c b off : Nat} {ws : List Ew} (h : Row w lo (some ⟨b, off, none⟩) n c (flatK encW ws)) {i : Nat} {x : Ew} (hi : ws[i]? = some x) :
    w.cell? ⟨b, off + i * 7, none⟩ = some (.int .i64 x.e.v.k) ∧ w.cell? ⟨b, off + i * 7 + 1, none⟩ = some (.int .i64 x.e.v.n) ∧ w.cell? ⟨b, off + i * 7 + 2, none⟩ = some (.string x.e.v.s) ∧ w.cell? ⟨b, off + i * 7 + 3, none⟩ = some (.int .i64 x.e.k.k) ∧
    w.cell? ⟨b, off + i * 7 + 4, none⟩ = some (.int .i64 x.e.k.n) ∧ w.cell? ⟨b, off + i * 7 + 5, none⟩ = some (.string x.e.k.s) ∧ w.cell? ⟨b, off + i * 7 + 6, none⟩ = some (.slice (some ⟨x.g, 0, none⟩) x.n x.c) := by
  have key : ∀ j u, (encW x)[j]? = some u → w.cell? ⟨b, off + i * 7 + j, none⟩ = some u := fun j u hu => by
    rw [Nat.add_assoc]; exact h.at_ (flatK_at encW 7 kW ws i x j u hi hu)
  exact ⟨key 0 _ rfl, key 1 _ rfl, key 2 _ rfl, key 3 _ rfl, key 4 _ rfl, key 5 _ rfl, key 6 _ rfl⟩
set_option maxRecDepth 1000000 in
set_option maxHeartbeats 4000000 in
theorem ebs_ (ws : List Ew) (t : Ew) (lo : Nat) (A : Option Addr) (n c : Nat) (w : World) (hR : Row w lo A n c (flatK encW ws)) (hw : ws.length = n) (hall : ∀ x ∈ ws, EwOk w x) (ht : EwOk w t) (ho : Srt (ws.map (·.e))) (hn : n ≤ 100000) :
    Calls Try.prog 44 #[.slice A n c, t.agg, .func (.func 45) #[] #[]] w
      fun e w' => e = .returned (.tuple #[.int .i64 (posN t.e (ws.map (·.e)) : Nat), .bool (isN t.e (ws.map (·.e)))]) ∧ Below w.heap.size w w' := by
  obtain ⟨es, hes⟩ : ∃ es, ws.map (·.e) = es := ⟨_, rfl⟩
  rw [hes] at ho ⊢
  have HN := Lib.hid (show es.length = n from by rw [← hes, List.length_map, hw])
  have HW := Lib.hid hw
  have HES := Lib.hid hes
  have HO := Lib.hid ho
  have HALL := Lib.hid hall
  have HT := Lib.hid ht
  clear hw hes ho hall ht
  unfold Ew.agg
  go_enter Try.func44, Try.ntmps44
  go_upto_region 1 with fail
  obtain ⟨W, hW_, hbW, B1⟩ : ∃ W_, W_ = (w.alloc (.cells #[.int .i64 t.e.v.k, .int .i64 t.e.v.n, .string t.e.v.s, .int .i64 t.e.k.k, .int .i64 t.e.k.n, .string t.e.k.s, .slice (some ⟨t.g, 0, none⟩) t.n t.c] 78)) ∧ Below w.heap.size w W_ ∧ Blk W_ (w.heap.size) 78 #[.int .i64 t.e.v.k, .int .i64 t.e.v.n, .string t.e.v.s, .int .i64 t.e.k.k, .int .i64 t.e.k.n, .string t.e.k.s, .slice (some ⟨t.g, 0, none⟩) t.n t.c] :=
    ⟨_, rfl, ((Below.refl _ _).alloc (Nat.le_refl _) _), (blk_new_at w (w.heap.size) _ _ (by simp))⟩
  rw [← hW_]
  clear hW_
  go_wp2_with fail
  go_loopw [9, 10] (fun i j wr => ∃ l h : Nat, i = .int .i64 l ∧ j = .int .i64 h ∧ l ≤ h ∧ h ≤ n ∧ Below W.heap.size W wr ∧ Hid ((∀ (j : Nat) r, j < l → es[j]? = some r → belowN t.e r = true) ∧ (∀ (j : Nat) r, h ≤ j → es[j]? = some r → belowN t.e r = false))) (fun i j _ => (intOf j).toNat - (intOf i).toNat)
  case atStart => exact ⟨0, n, rfl, rfl, Nat.zero_le _, Nat.le_refl _, Below.refl _ _, Lib.hid ⟨fun j r h => absurd h (by omega), fun j r h hr => by have := (List.getElem?_eq_some_iff.1 hr).1; have := HN.out; omega⟩⟩
  case round =>
    obtain ⟨l, h, rfl, rfl, hlh, hhn, hbw, HI⟩ := hrel
    rcases Nat.lt_or_ge l h with hlt | hge
    · have hd : decide ((l : Int) < (h : Int)) = true := by simp; omega
      obtain ⟨m, hmi, hm1, hm2⟩ : ∃ m : Nat, Hid (((l : Int) + (h : Int)) / 2 = (m : Int)) ∧ l ≤ m ∧ m < h := ⟨(l + h) / 2, Lib.hid (by omega), by omega, by omega⟩
      have hmn : (m : Int) < (n : Int) := by omega
      obtain ⟨x, hx⟩ : ∃ x, ws[m]? = some x := ⟨_, List.getElem?_eq_getElem (by rw [HW.out]; omega)⟩
      obtain ⟨b, off, rfl, _, _, hb⟩ := hR.some_ (by omega)
      have he := fun w' (h : Below w.heap.size w w') => row7 (hR.ext h) hx
      have HV := Lib.hid (HALL.out x (List.mem_of_getElem? hx))
      have HX := Lib.hid (show es[m]? = some x.e from by rw [← HES.out, List.getElem?_map, hx]; rfl)
      clear hx
      go_wp2_with fail
      rw [hmi.out]
      have hw1 := Below.trans hbW (Below.mono hbw hbW.size)
      have D := fun w' (h : Below wr.heap.size wr.drew w') => he _ (Below.trans hw1.drew (Below.mono h hw1.size))
      have D2 := fun w' (h : Below wr.heap.size wr.drew w') => seven B1 (Below.trans hbw.drew (Below.mono h hbw.size))
      obtain ⟨p, hp⟩ : ∃ p, decide (cmpN x.e t.e < 0) = p := ⟨_, rfl⟩
      refine wp_region_one [(0, true), (1, true), (2, true), (3, true), (4, true), (5, true), (6, false), (7, true)] (by kernel_rfl) (by kernel_rfl) (by kernel_rfl) (by decide) ?_
      repeat ((with_reducible show wpPerm _ _ _ _ ((_, true) :: _) _ _); (first | (refine wpPerm_on (v := ?_) rfl rfl (wanted_free rfl) (fun w' hS => ?_) ?_; rotate_left; (focus (go_simp; (try with_reducible rfl); done)); try simp only [List.setIfInBounds_toArray, List.set_cons_zero, List.set_cons_succ]) | (refine wpPerm_on (v := ?_) rfl rfl (wanted_yes rfl rfl rfl) (fun w' hS => ?_) ?_; rotate_left; (focus (go_simp; (try with_reducible rfl); done)); try simp only [List.setIfInBounds_toArray, List.set_cons_zero, List.set_cons_succ]) | (refine wpPerm_off rfl rfl (wanted_no rfl rfl rfl) ?_; try simp only [List.setIfInBounds_toArray, List.set_cons_zero, List.set_cons_succ]) | (refine wpPerm_off rfl rfl (wanted_undef rfl rfl rfl) ?_; try simp only [List.setIfInBounds_toArray, List.set_cons_zero, List.set_cons_succ])))
      refine wpPerm_do rfl (wanted_free rfl) (fun K hK => ?_); go_simp
      refine (ecmp_ x t _ (HV.out.ext hw1.drew) (HT.out.ext hw1.drew)).mono ?_
      rintro e w1 ⟨rfl, hb1⟩
      refine hK.out _ _ hb1 ?_
      clear hK K
      repeat ((with_reducible show wpPerm _ _ _ _ ((_, true) :: _) _ _); (first | (refine wpPerm_on (v := ?_) rfl rfl (wanted_free rfl) (fun w' hS => ?_) ?_; rotate_left; (focus (go_simp; (try with_reducible rfl); done)); try simp only [List.setIfInBounds_toArray, List.set_cons_zero, List.set_cons_succ]) | (refine wpPerm_on (v := ?_) rfl rfl (wanted_yes rfl rfl rfl) (fun w' hS => ?_) ?_; rotate_left; (focus (go_simp; (try with_reducible rfl); done)); try simp only [List.setIfInBounds_toArray, List.set_cons_zero, List.set_cons_succ]) | (refine wpPerm_off rfl rfl (wanted_no rfl rfl rfl) ?_; try simp only [List.setIfInBounds_toArray, List.set_cons_zero, List.set_cons_succ]) | (refine wpPerm_off rfl rfl (wanted_undef rfl rfl rfl) ?_; try simp only [List.setIfInBounds_toArray, List.set_cons_zero, List.set_cons_succ])))
      refine wpPerm_done ?_
      clear D D2
      have hbw2 := Below.trans hbw.drew (Below.mono hb1 hbw.size)
      have HP := Lib.hid hp
      clear hp
      cases p with
      | true =>
        go_wp2
        go_roundw
        case rel =>
          refine ⟨m + 1, h, by go_num, rfl, by omega, hhn, hbw2, Lib.hid ⟨fun j r' ht hr' => ?_, HI.out.2⟩⟩
          exact n_below_mono HO.out (by omega) hr' HX.out HP.out
        case measure => simp [intOf]; omega
      | false =>
        go_wp2
        go_roundw
        case rel =>
          refine ⟨l, m, rfl, rfl, by omega, by omega, hbw2, Lib.hid ⟨HI.out.1, fun j r' ht hr' => ?_⟩⟩
          cases hb : belowN t.e r' with
          | false => rfl
          | true =>
            have := n_below_mono HO.out ht HX.out hr' hb
            unfold belowN at this
            rw [HP.out] at this
            cases this
        case measure => simp [intOf]; omega
    · have hd : decide ((l : Int) < (h : Int)) = false := by simp; omega
      have hlh' : l = h := by omega
      subst hlh'
      have hat : posN t.e es = l := n_at_unique (by rw [HN.out]; exact hhn) (fun i r hi hr => HI.out.1 i r hi hr) (fun r hr => HI.out.2 l r (Nat.le_refl _) hr)
      have HA := Lib.hid hat
      clear hat
      have hw1 := Below.trans hbW (Below.mono hbw hbW.size)
      rcases Nat.lt_or_ge l n with hln | hln
      · have hd2 : decide ((l : Int) < (n : Int)) = true := by simp; omega
        have hd3 : decide (l < n) = true := by simp; omega
        have hmn : (l : Int) < (n : Int) := by omega
        obtain ⟨x, hx⟩ : ∃ x, ws[l]? = some x := ⟨_, List.getElem?_eq_getElem (by rw [HW.out]; omega)⟩
        obtain ⟨b, off, rfl, _, _, hb⟩ := hR.some_ (by omega)
        have he := fun w' (h : Below w.heap.size w w') => row7 (hR.ext h) hx
        have his : isN t.e es = (cmpN x.e t.e == 0) := by
          unfold isN
          rw [HA.out, show es[l]? = some x.e from by rw [← HES.out, List.getElem?_map, hx]; rfl]
          simp only
          cases h : (cmpN x.e t.e == 0) <;> simpa using h
        have HIS := Lib.hid his
        have HV := Lib.hid (HALL.out x (List.mem_of_getElem? hx))
        clear hx his
        go_wp2_with fail
        have D := fun w' (h : Below wr.heap.size wr.drew w') => he _ (Below.trans hw1.drew (Below.mono h hw1.size))
        have D2 := fun w' (h : Below wr.heap.size wr.drew w') => seven B1 (Below.trans hbw.drew (Below.mono h hbw.size))
        obtain ⟨p, hp⟩ : ∃ p, (cmpN x.e t.e == 0) = p := ⟨_, rfl⟩
        refine wp_region_one [(0, true), (1, true), (2, true), (3, true), (4, true), (5, true), (6, true), (7, true), (8, true), (9, true), (10, true), (11, false), (12, true), (13, true), (14, true), (15, true)] (by kernel_rfl) (by kernel_rfl) (by kernel_rfl) (by decide) ?_
        repeat ((with_reducible show wpPerm _ _ _ _ ((_, true) :: _) _ _); (first | (refine wpPerm_on (v := ?_) rfl rfl (wanted_free rfl) (fun w' hS => ?_) ?_; rotate_left; (focus (go_simp; (try with_reducible rfl); done)); try simp only [List.setIfInBounds_toArray, List.set_cons_zero, List.set_cons_succ]) | (refine wpPerm_on (v := ?_) rfl rfl (wanted_yes rfl rfl rfl) (fun w' hS => ?_) ?_; rotate_left; (focus (go_simp; (try with_reducible rfl); done)); try simp only [List.setIfInBounds_toArray, List.set_cons_zero, List.set_cons_succ]) | (refine wpPerm_off rfl rfl (wanted_no rfl rfl rfl) ?_; try simp only [List.setIfInBounds_toArray, List.set_cons_zero, List.set_cons_succ]) | (refine wpPerm_off rfl rfl (wanted_undef rfl rfl rfl) ?_; try simp only [List.setIfInBounds_toArray, List.set_cons_zero, List.set_cons_succ])))
        refine wpPerm_do rfl (wanted_yes rfl rfl rfl) (fun K hK => ?_); go_simp
        refine (ecmp_ x t _ (HV.out.ext hw1.drew) (HT.out.ext hw1.drew)).mono ?_
        rintro e w1 ⟨rfl, hb1⟩
        refine hK.out _ _ hb1 ?_
        clear hK K
        repeat ((with_reducible show wpPerm _ _ _ _ ((_, true) :: _) _ _); (first | (refine wpPerm_on (v := ?_) rfl rfl (wanted_free rfl) (fun w' hS => ?_) ?_; rotate_left; (focus (go_simp; (try with_reducible rfl); done)); try simp only [List.setIfInBounds_toArray, List.set_cons_zero, List.set_cons_succ]) | (refine wpPerm_on (v := ?_) rfl rfl (wanted_yes rfl rfl rfl) (fun w' hS => ?_) ?_; rotate_left; (focus (go_simp; (try with_reducible rfl); done)); try simp only [List.setIfInBounds_toArray, List.set_cons_zero, List.set_cons_succ]) | (refine wpPerm_off rfl rfl (wanted_no rfl rfl rfl) ?_; try simp only [List.setIfInBounds_toArray, List.set_cons_zero, List.set_cons_succ]) | (refine wpPerm_off rfl rfl (wanted_undef rfl rfl rfl) ?_; try simp only [List.setIfInBounds_toArray, List.set_cons_zero, List.set_cons_succ])))
        refine wpPerm_done ?_
        clear D D2
        have HP := Lib.hid hp
        clear hp
        go_wp2
        exact bodyPost_ret (v := .tuple #[.int .i64 (l : Int), .bool p]) (by simp [results, Try.results44, go_sem]; try rfl) rfl ⟨by rw [HA.out, HIS.out, HP.out], Below.trans hw1.drew (Below.mono hb1 hw1.size)⟩
      · have hd2 : decide ((l : Int) < (n : Int)) = false := by simp; omega
        have hd3 : decide (l < n) = false := by simp; omega
        have his : isN t.e es = false := by
          unfold isN
          rw [HA.out, List.getElem?_eq_none (by rw [HN.out]; exact hln)]
        have HIS := Lib.hid his
        clear his
        go_wp2_with fail
        refine wp_region_one [(0, true), (1, true), (2, true), (3, true), (4, true), (5, true), (6, true), (7, true), (8, true), (9, true), (10, true), (11, true), (12, true), (13, true), (14, true), (15, true)] (by kernel_rfl) (by kernel_rfl) (by kernel_rfl) (by decide) ?_
        repeat ((with_reducible show wpPerm _ _ _ _ ((_, true) :: _) _ _); (first | (refine wpPerm_on (v := ?_) rfl rfl (wanted_free rfl) (fun w' hS => ?_) ?_; rotate_left; (focus (go_simp; (try with_reducible rfl); done)); try simp only [List.setIfInBounds_toArray, List.set_cons_zero, List.set_cons_succ]) | (refine wpPerm_on (v := ?_) rfl rfl (wanted_yes rfl rfl rfl) (fun w' hS => ?_) ?_; rotate_left; (focus (go_simp; (try with_reducible rfl); done)); try simp only [List.setIfInBounds_toArray, List.set_cons_zero, List.set_cons_succ]) | (refine wpPerm_off rfl rfl (wanted_no rfl rfl rfl) ?_; try simp only [List.setIfInBounds_toArray, List.set_cons_zero, List.set_cons_succ]) | (refine wpPerm_off rfl rfl (wanted_undef rfl rfl rfl) ?_; try simp only [List.setIfInBounds_toArray, List.set_cons_zero, List.set_cons_succ])))
        refine wpPerm_done ?_
        go_wp2
        exact bodyPost_ret (v := .tuple #[.int .i64 (l : Int), .bool false]) (by simp [results, Try.results44, go_sem]; try rfl) rfl ⟨by rw [HA.out, HIS.out], hw1.drew⟩
end Go.Proofs.Ytnlmbjmgmofeiaa.ix

/- Contracts: Insert, Delete over entries. Printed by gen6.py. -/
namespace Go.Proofs.Ytnlmbjmgmofeiaa.ix
open Go.ChangeShapes Go.WideShapes Go.ChangeAt Go.RowKit Go.Proofs.Ytnlmbjmgmofeiaa.lib Go.Proofs.Ytnlmbjmgmofeiaa.val Go.Proofs.Ytnlmbjmgmofeiaa.tb
set_option linter.unusedVariables false

theorem oneW (x : Ew) : ∀ u ∈ encW x, u.oneCell' = true := fun u hu => by
  simp only [encW, List.mem_cons, List.not_mem_nil, or_false] at hu
  rcases hu with rfl | rfl | rfl | rfl | rfl | rfl | rfl <;> rfl
theorem oneWs (l : List Ew) : ∀ u ∈ flatK encW l, u.oneCell' = true := flatK_all encW (p := fun u => u.oneCell' = true) oneW l
theorem lenW (l : List Ew) : (flatK encW l).length = l.length * 7 := flatK_len encW 7 kW l
set_option maxRecDepth 1000000 in
set_option maxHeartbeats 4000000 in
theorem insert_end (ws : List Ew) (t : Ew) (B : Nat) (A : Option Addr) (n c gv : Nat) (w : World) (hO : w.ownsRow B 78 7 (.slice A n c) n (flatK encW ws)) (hw : ws.length = n) (hv : Blk w gv 78 (encW t).toArray) (hB : B ≤ w.heap.size) (hn : n ≤ 10000) :
    Calls Try.prog 49 #[.slice A n c, .int .i64 n, .slice (some ⟨gv, 0, none⟩) 1 1] w fun e w' => ∃ A' c', e = .returned (.slice A' (n + 1) c') ∧ w'.ownsRow B 78 7 (.slice A' (n + 1) c') (n + 1) (flatK encW (ws ++ [t])) ∧ w.grownBy w' (Value.slice A n c).ownBlock := by
  obtain ⟨i0, hi0, hy0, hy1, hy2⟩ := info_parts (P := Try.prog) (e := 78) (z := .agg #[.int .i64 0, .int .i64 0, .string ⟨#[]⟩, .int .i64 0, .int .i64 0, .string ⟨#[]⟩, .slice none 0 0]) (size := 7) (bytes := 88) (by kernel_rfl)
  have HO := Lib.hid hO
  have hnc := (Row.of_own hO).le_
  have hsrc : ∀ j u, (encW t)[j]? = some u → w.cell? ((⟨gv, 0, none⟩ : Addr).add j) = some u := (Row.of_blk hv (Nat.zero_le _) 1 1 (Nat.le_refl _)).src
  have hA : A = none ∨ ∃ g, A = some ⟨g, 0, none⟩ := by
    rcases hO.2 with ⟨h, _⟩ | ⟨g, cap, cur, h, _⟩
    · injection h with h; exact .inl h
    · injection h with h; exact .inr ⟨g, h⟩
  clear hO hw
  rcases hA with rfl | ⟨g, rfl⟩
  · have hn0 : n = 0 ∧ c = 0 := by
      rcases Row.of_own HO.out with h | ⟨_, h, _⟩ | ⟨_, _, h, _⟩
      · exact ⟨h.2.1, h.2.2.1⟩
      · cases h
      · cases h
    obtain ⟨rfl, rfl⟩ := hn0
    go_enter Try.func49, Try.ntmps49
    have hd0 : (((0 : Nat) : Int) == ((0 : Nat) : Int)) = true := by simp
    have hle := HO.out.1
    go_wp2_with (at_builtin; (refine wpList_append_own _ rfl (.tmp 23) (.tmp 24) 68 rfl B 78 i0 _ 7 88 Try.underlying68 hi0 hy0 hy1 hy2 rfl (by decide) _ 0 _ rfl HO.out ⟨gv, 0, none⟩ 1 1 (encW t) rfl ?a1 ?a2 ?a3 ?a4 ?a5 ?a6 ?_))
    all_goals try (case a1 => rfl)
    all_goals try (case a2 => exact hsrc)
    all_goals try (case a3 => exact oneW t)
    all_goals try (case a4 => unfold maxLen; omega)
    all_goals try (case a5 => omega)
    all_goals try (case a6 => exact hB)
    intro v' wa hown hgrow _
    obtain ⟨A', c', rfl⟩ := own_slice hown
    have HA := Lib.hid hown
    have HG := Lib.hid hgrow
    clear hown hgrow
    go_wp2
    go_ret
    exact ⟨A', c', rfl, by rw [flatK_append, flatK_one]; simpa using HA.out, HG.out⟩
  · by_cases hcn : c = n
    · subst hcn
      go_enter Try.func49, Try.ntmps49
      have hd0 : ((c : Int) == (c : Int)) = true := by simp
      have hle := HO.out.1
      go_wp2_with (at_builtin; (refine wpList_append_own _ rfl (.tmp 23) (.tmp 24) 68 rfl B 78 i0 _ 7 88 Try.underlying68 hi0 hy0 hy1 hy2 rfl (by decide) _ c _ rfl HO.out ⟨gv, 0, none⟩ 1 1 (encW t) rfl ?a1 ?a2 ?a3 ?a4 ?a5 ?a6 ?_))
      all_goals try (case a1 => rfl)
      all_goals try (case a2 => exact hsrc)
      all_goals try (case a3 => exact oneW t)
      all_goals try (case a4 => unfold maxLen; omega)
      all_goals try (case a5 => omega)
      all_goals try (case a6 => exact hB)
      intro v' wa hown hgrow _
      obtain ⟨A', c', rfl⟩ := own_slice hown
      have HA := Lib.hid hown
      have HG := Lib.hid hgrow
      clear hown hgrow
      go_wp2
      go_ret
      exact ⟨A', c', rfl, by rw [flatK_append, flatK_one]; simpa using HA.out, HG.out⟩
    · go_enter Try.func49, Try.ntmps49
      have hd0 : ((n : Int) == (n : Int)) = true := by simp
      have hle := HO.out.1
      go_wp2_with (at_builtin; (refine wpList_append_own _ rfl (.tmp 23) (.tmp 24) 68 rfl B 78 i0 _ 7 88 Try.underlying68 hi0 hy0 hy1 hy2 rfl (by decide) _ n _ rfl HO.out ⟨gv, 0, none⟩ 1 1 (encW t) rfl ?a1 ?a2 ?a3 ?a4 ?a5 ?a6 ?_))
      all_goals try (case a1 => rfl)
      all_goals try (case a2 => exact hsrc)
      all_goals try (case a3 => exact oneW t)
      all_goals try (case a4 => unfold maxLen; omega)
      all_goals try (case a5 => omega)
      all_goals try (case a6 => exact hB)
      intro v' wa hown hgrow _
      obtain ⟨A', c', rfl⟩ := own_slice hown
      have HA := Lib.hid hown
      have HG := Lib.hid hgrow
      clear hown hgrow
      go_wp2
      go_ret
      exact ⟨A', c', rfl, by rw [flatK_append, flatK_one]; simpa using HA.out, HG.out⟩

set_option maxRecDepth 1000000 in
set_option maxHeartbeats 4000000 in
theorem insert_room (ws : List Ew) (t : Ew) (B : Nat) (g n c i gv : Nat) (w : World) (hO : w.ownsRow B 78 7 (.slice (some ⟨g, 0, none⟩) n c) n (flatK encW ws)) (hw : ws.length = n) (hv : Blk w gv 78 (encW t).toArray) (hne : gv ≠ g) (hi : i < n) (hc : n + 1 ≤ c) (hn : n ≤ 10000) :
    Calls Try.prog 49 #[.slice (some ⟨g, 0, none⟩) n c, .int .i64 i, .slice (some ⟨gv, 0, none⟩) 1 1] w fun e w' => ∃ A' c', e = .returned (.slice A' (n + 1) c') ∧ w'.ownsRow B 78 7 (.slice A' (n + 1) c') (n + 1) (flatK encW (ws.take i ++ t :: ws.drop i)) ∧ w.grownBy w' (some g) := by
  obtain ⟨i0, hi0, hy0, hy1, hy2⟩ := info_parts (P := Try.prog) (e := 78) (z := .agg #[.int .i64 0, .int .i64 0, .string ⟨#[]⟩, .int .i64 0, .int .i64 0, .string ⟨#[]⟩, .slice none 0 0]) (size := 7) (bytes := 88) (by kernel_rfl)
  obtain ⟨cur, hcur, hcs, hnc, hcm, hBg, hcells⟩ := own_cells hO
  unfold maxLen at hcm
  have hov : ∀ lb cb', (callFunc 59 #[.slice (some ⟨gv, 0, none⟩) 1 1, .slice (some ⟨g, (i + 1) * 7, none⟩) lb cb']).run Try.prog w = .ok (.value (.bool false)) w := fun lb cb' => by
    rw [run_callFunc_extern Try.func59 (by kernel_rfl) (by kernel_rfl) (by kernel_rfl) (e := Extern.SlicesOverlaps.overlaps #[68, 68] #[4]) (by kernel_rfl),
      Lib.run_overlaps_apart w 68 4 78 Try.underlying68 7 (fun w => by simp [sizeOf, typeInfo, hi0, hy1]) ⟨gv, 0, none⟩ ⟨g, (i + 1) * 7, none⟩ 1 1 lb cb' hne 78 78 7 (c * 7) (by unfold World.shape?; rw [show w.heap[gv]? = some (.cells (encW t).toArray 78 (0, 0)) from hv]; rfl) (by unfold World.shape?; rw [show w.heap[g]? = some (.cells cur 78 (0, 0)) from hcur]; simp only [hcs]) (by omega) (hv.frozen 0) (hv.frozen 7)]
    rfl
  have hd1 : ((i : Int) == (n : Int)) = false := by rw [beq_eq_false_iff_ne]; omega
  have hd1n : (i == n) = false := by rw [beq_eq_false_iff_ne]; omega
  have hd1e : ((i : Int) = (n : Int)) = False := by rw [eq_iff_iff, iff_false]; omega
  have hw1 : IntKind.i64.wrap ((i : Int) + 1) = (i : Int) + 1 := IntWalk.i64_in _ ⟨by omega, by omega⟩
  have hb1 : (0 : Int) ≤ (i : Int) + 1 := by omega
  have htn : ((i : Int) + 1).toNat = i + 1 := by omega
  have hb2 : ¬ (c = i + 1) := by omega
  have hb3 : (i : Int) ≤ (n : Int) + 1 := by omega
  have hb5 : (i : Int) + 1 ≤ (n : Int) + 1 := by omega
  have hb6 : i + 1 ≤ n + 1 := by omega
  have hb4 : ¬ (c = i) := by omega
  go_enter Try.func49, Try.ntmps49
  go_upto_region 15 with fail
  refine wp_region_oneS (S := fun _ => True) [(0, true), (1, true), (2, true), (3, true), (4, true), (5, true), (6, true), (7, true), (8, false)] (by kernel_rfl) (by kernel_rfl) (by kernel_rfl) (by decide) trivial ?_
  repeat ((with_reducible show wpPerm _ _ _ _ ((_, true) :: _) _ _); (first | (refine wpPerm_on (v := ?_) rfl rfl (wanted_free rfl) (fun w' hS => ?_) ?_; rotate_left; (focus (go_simp; (try with_reducible rfl); done)); try simp only [List.setIfInBounds_toArray, List.set_cons_zero, List.set_cons_succ]) | (refine wpPerm_on (v := ?_) rfl rfl (wanted_yes rfl rfl rfl) (fun w' hS => ?_) ?_; rotate_left; (focus (go_simp; (try with_reducible rfl); done)); try simp only [List.setIfInBounds_toArray, List.set_cons_zero, List.set_cons_succ]) | (refine wpPerm_off rfl rfl (wanted_no rfl rfl rfl) ?_; try simp only [List.setIfInBounds_toArray, List.set_cons_zero, List.set_cons_succ]) | (refine wpPerm_off rfl rfl (wanted_undef rfl rfl rfl) ?_; try simp only [List.setIfInBounds_toArray, List.set_cons_zero, List.set_cons_succ])))
  refine wpPerm_do rfl (wanted_free rfl) (fun K hK => ?_)
  obtain ⟨X, hXd⟩ : ∃ X, flatK encW ws = X := ⟨_, rfl⟩
  rw [hXd] at hcells
  have hXl : X.length = n * 7 := by rw [← hXd, lenW, hw]
  have hdl : (X.drop (i * 7)).length = (n - i) * 7 := by rw [List.length_drop, hXl, Nat.sub_mul]
  have hsome : ∀ j, j < c * 7 → (w.cell? ⟨g, j, none⟩).isSome = true := fun j hj => by rw [hcur.cell j, Array.getElem?_eq_getElem (by rw [hcs]; exact hj)]; rfl
  have hfz : ∀ j, w.frozen? ⟨g, j, none⟩ = false := fun j => hcur.frozen j
  have hmin : Nat.min (n + 1 - i) (n - i) = n - i := by simp only [Nat.min_def]; split <;> omega
  have hcw : ∀ a, w.drew.cell? a = w.cell? a := fun _ => rfl
  have hfw : ∀ a, w.drew.frozen? a = w.frozen? a := fun _ => rfl
  refine wp_copy_to (.tmp 73) (.tmp 76) 68 rfl 78 i0 7 Try.underlying68 hi0 hy1 g _ _ _ ⟨g, i * 7, none⟩ _ _ rfl rfl (X.drop (i * 7)) ?_ ?_ ?_ ?_ ?_ ?_
  · rw [hmin]; exact hdl
  · intro j v hj
    rw [List.getElem?_drop] at hj
    rw [Addr.add_lit, hcw]
    exact hcells _ _ hj
  · intro j hj
    rw [hcw]
    exact hsome _ (by omega)
  · intro j hj
    exact hfz _
  · intro v hv
    exact oneWs ws v (by rw [hXd]; exact List.mem_of_mem_drop hv)
  obtain ⟨cur1, hcur1, hcs1, hgr1⟩ := Blk.setCells (X.drop (i * 7)) ((i + 1) * 7) (show Blk w.drew g 78 cur from hcur)
  obtain ⟨W1, hW1⟩ : ∃ W1, w.drew.setCells g ((i + 1) * 7) (X.drop (i * 7)) = W1 := ⟨_, rfl⟩
  rw [hW1] at hcur1 hgr1 ⊢
  have hgr1 : w.grownBy W1 (some g) := ⟨hgr1.os, hgr1.tape, hgr1.output, hgr1.size, hgr1.block⟩
  have hv1 : Blk W1 gv 78 (encW t).toArray := hv.grown (show w.grownBy W1 (some g) from hgr1) (by simpa using hne)
  have HW1 := Lib.hid hW1
  clear hW1
  refine hK.out _ _ trivial ?_
  clear hK K
  refine wpPerm_done ?_
  go_wp2_with (with_reducible show wpList _ _ _ (Oper.mk (some 82) _ _ _ _ _ :: _) _ _; (refine wpList_copy_to rfl (.tmp 80) (.tmp 81) 68 rfl 78 i0 7 Try.underlying68 hi0 hy1 g _ _ _ ⟨gv, 0, none⟩ _ _ rfl rfl (encW t) ?b1 ?b2 ?b3 ?b4 ?b5 ?_))
  case b1 => rw [show Nat.min 1 (n + 1 - i) = 1 by simp only [Nat.min_def]; split <;> omega]; rfl
  case b2 => exact (Row.of_blk hv1 (Nat.zero_le _) 1 1 (Nat.le_refl _)).src
  case b3 =>
    intro j hj
    have hj7 : j < 7 := hj
    rw [hcur1.cell (i * 7 + j), Array.getElem?_eq_getElem (by rw [hcs1, hcs]; omega)]
    rfl
  case b4 => exact fun j hj => hcur1.frozen _
  case b5 => exact oneW t
  obtain ⟨cur2, hcur2, hcs2, hgr2⟩ := Blk.setCells (encW t) (i * 7) hcur1
  have hins := ins_cells (w := w.drew) (g := g) X (encW t) (i * 7) (by omega) (fun j u hj => hcells j u hj) (fun j hj => by
    have h7 : (encW t).length = 7 := rfl
    rw [hcw]
    exact hsome _ (by omega))
  rw [show i * 7 + (encW t).length = (i + 1) * 7 by rw [show (encW t).length = 7 from rfl]; omega, HW1.out] at hins
  have hxs : flatK encW (ws.take i ++ t :: ws.drop i) = X.take (i * 7) ++ (encW t ++ X.drop (i * 7)) := by
    rw [← hXd, flatK_append, flatK_take encW 7 kW, flatK_drop encW 7 kW]
    rfl
  have hOwn := own_of_cells (size := 7) (n := n + 1) (c := c) (B := B) hBg hcur2 (by rw [hcs2, hcs1, hcs]) hc (by unfold maxLen; omega) (xs := flatK encW (ws.take i ++ t :: ws.drop i)) (by rw [lenW]; simp; omega) (by rw [hxs]; exact hins)
  have HOwn := Lib.hid hOwn
  have hgr := grown_trans hgr1 hgr2
  clear hOwn hins hxs
  go_ret
  exact ⟨_, c, rfl, HOwn.out, hgr⟩

set_option maxRecDepth 1000000 in
set_option maxHeartbeats 4000000 in
theorem insert_grow (ws : List Ew) (t : Ew) (B : Nat) (g n c i gv : Nat) (w : World) (hO : w.ownsRow B 78 7 (.slice (some ⟨g, 0, none⟩) n c) n (flatK encW ws)) (hw : ws.length = n) (hv : Blk w gv 78 (encW t).toArray) (hi : i < n) (hc : c < n + 1) (hn : n ≤ 10000) (hB : B ≤ w.heap.size) :
    Calls Try.prog 49 #[.slice (some ⟨g, 0, none⟩) n c, .int .i64 i, .slice (some ⟨gv, 0, none⟩) 1 1] w fun e w' => ∃ A' c', e = .returned (.slice A' (n + 1) c') ∧ w'.ownsRow B 78 7 (.slice A' (n + 1) c') (n + 1) (flatK encW (ws.take i ++ t :: ws.drop i)) ∧ w.grownBy w' (some g) := by
  obtain ⟨i0, hi0, hy0, hy1, hy2⟩ := info_parts (P := Try.prog) (e := 78) (z := .agg #[.int .i64 0, .int .i64 0, .string ⟨#[]⟩, .int .i64 0, .int .i64 0, .string ⟨#[]⟩, .slice none 0 0]) (size := 7) (bytes := 88) (by kernel_rfl)
  obtain ⟨cur, hcur, hcs, hnc, hcm, hBg, hcells⟩ := own_cells hO
  obtain rfl : n = c := by omega
  obtain ⟨X, hXd⟩ : ∃ X, flatK encW ws = X := ⟨_, rfl⟩
  rw [hXd] at hcells
  have hXl : X.length = n * 7 := by rw [← hXd, lenW, hw]
  have htl : (X.take (i * 7)).length = i * 7 := by rw [List.length_take, hXl]; omega
  have hdl : (X.drop (i * 7)).length = (n - i) * 7 := by rw [List.length_drop, hXl, Nat.sub_mul]
  have hsub : (n : Int) + 1 - (i : Int) = ((n + 1 - i : Nat) : Int) := by omega
  obtain ⟨gc, hgc⟩ : ∃ gc, grownCap w (n + 1) n 78 = gc := ⟨_, rfl⟩
  have hgc1 : n + 1 ≤ gc := by rw [← hgc]; exact grownCap_ge w (n + 1) n 78
  have hgc2 : gc ≤ maxLen := by rw [← hgc]; exact grownCap_le_maxLen w (n + 1) n 78 (by unfold maxLen; omega)
  obtain ⟨Z, hZ, hZs⟩ : ∃ Z : Value, i0.zero = some Z ∧ Z.cells.size = 7 := ⟨_, hy0, rfl⟩
  obtain ⟨CS, hCS⟩ : ∃ CS, ((X.take (i * 7)).toArray ++ Builtin.zeroCells Z.cells (n + 1 - i) ++ Builtin.zeroCells Z.cells (gc - (n + 1))) = CS := ⟨_, rfl⟩
  have hCSl : CS.size = gc * 7 := by
    rw [← hCS, Array.size_append, Array.size_append, size_zeroCells, size_zeroCells, List.size_toArray, htl, hZs]
    omega
  have hCSx : ∀ (j : Nat) u, (X.take (i * 7))[j]? = some u → CS[j]? = some u := fun j u hu => by
    have hj := (List.getElem?_eq_some_iff.1 hu).1
    rw [← hCS, Array.getElem?_append, if_pos (by simp; omega), Array.getElem?_append, if_pos (by simpa using hj)]
    simpa using hu
  have hrun : ∀ ty, (Builtin.append_ #[68, 3] ty #[.slice (some ⟨g, 0, none⟩) i n, .int .i64 ((n + 1 - i : Nat) : Int)]).run Try.prog w = .ok (.slice (some ⟨w.heap.size, 0, none⟩) (n + 1) gc) (w.drew.alloc (.cells CS 78)) := fun ty => by
    have h := run_append_zeros (P := Try.prog) w 68 3 ty 78 i0 _ .i64 .i64 Try.underlying68 Try.underlying3 hi0 hZ ⟨g, 0, none⟩ i n (X.take (i * 7)) (by rw [htl, hy1]) (fun j v hj => by
      rw [Addr.add_lit, Nat.zero_add]
      have hj2 := (List.getElem?_eq_some_iff.1 hj).1
      rw [List.getElem?_take, if_pos (by omega)] at hj
      exact hcells j v hj) (n + 1 - i) (by omega) (by omega) (by omega) (by omega) (by rw [hy2]; omega) (by rw [hy2]; exact growslice_fits (by omega) (by omega))
    rw [show i + (n + 1 - i) = n + 1 by omega, hgc, hCS] at h
    exact h
  have hd1 : ((i : Int) == (n : Int)) = false := by rw [beq_eq_false_iff_ne]; omega
  have hd1n : (i == n) = false := by rw [beq_eq_false_iff_ne]; omega
  have hd1e : ((i : Int) = (n : Int)) = False := by rw [eq_iff_iff, iff_false]; omega
  have hw0 : IntKind.i64.wrap ((n : Int) + 1) = (n : Int) + 1 := IntWalk.i64_in _ ⟨by omega, by omega⟩
  have hw2 : IntKind.i64.wrap ((n : Int) + 1 - (i : Int)) = (n : Int) + 1 - (i : Int) := IntWalk.i64_in _ ⟨by omega, by omega⟩
  have hw1 : IntKind.i64.wrap ((i : Int) + 1) = (i : Int) + 1 := IntWalk.i64_in _ ⟨by omega, by omega⟩
  have hb0 : (i : Int) ≤ (n : Int) := by omega
  have hb1 : (0 : Int) ≤ (i : Int) + 1 := by omega
  have htn : ((i : Int) + 1).toNat = i + 1 := by omega
  have hb2 : ¬ (gc = i + 1) := by omega
  have hb3 : (i : Int) ≤ (n : Int) + 1 := by omega
  have hb5 : (i : Int) + 1 ≤ (n : Int) + 1 := by omega
  have hb6 : i + 1 ≤ n + 1 := by omega
  have hb4 : ¬ (gc = i) := by omega
  have hb7 : ¬ (n = i) := by omega
  go_enter Try.func49, Try.ntmps49
  go_upto_region 10 with (at_builtin; (refine Lib.wpList_append_run _ rfl _ _ _ _ rfl _ _ rfl rfl _ _ (hrun _) ?_))
  obtain ⟨W1, hW1⟩ : ∃ W1, (w.alloc (.cells CS 78)).drew = W1 := ⟨_, rfl⟩
  obtain ⟨gn, hgn⟩ : ∃ gn, w.heap.size = gn := ⟨_, rfl⟩
  have hbW1 : Below w.heap.size w W1 := by rw [← hW1]; exact ((Below.refl _ _).alloc (Nat.le_refl _) _).drew
  have B1 : Blk W1 gn 78 CS := by rw [← hW1, ← hgn]; exact Blk.new _ _ _
  have hv1 := hv.ext hbW1
  have hbW1 : Below gn w W1 := hgn ▸ hbW1
  have hgw : g < gn := by rw [← hgn]; exact (Array.getElem?_eq_some_iff.1 hcur).1
  have hgvw : gv < gn := by rw [← hgn]; exact (Array.getElem?_eq_some_iff.1 hv).1
  have hcells1 : ∀ (j : Nat) u, X[j]? = some u → W1.cell? ⟨g, j, none⟩ = some u := fun j u hu => (World.cell?_of_block (hbW1.block g hgw)).trans (hcells j u hu)
  rw [hW1, hgn]
  clear hW1
  go_wp2_with (with_reducible show wpList _ _ _ (Oper.mk (some 45) _ _ _ _ _ :: _) _ _; (refine wpList_copy_to rfl (.tmp 43) (.tmp 44) 68 rfl 78 i0 7 Try.underlying68 hi0 hy1 gn _ _ _ ⟨gv, 0, none⟩ _ _ rfl rfl (encW t) ?b1 ?b2 ?b3 ?b4 ?b5 ?_))
  case b1 => rw [show Nat.min 1 (n + 1 - i) = 1 by simp only [Nat.min_def]; split <;> omega]; rfl
  case b2 => exact (Row.of_blk hv1 (Nat.zero_le _) 1 1 (Nat.le_refl _)).src
  case b3 =>
    intro j hj
    have hj7 : j < 7 := hj
    rw [B1.cell (i * 7 + j), Array.getElem?_eq_getElem (by rw [hCSl]; omega)]
    rfl
  case b4 => exact fun j hj => B1.frozen _
  case b5 => exact oneW t
  obtain ⟨cur2, hcur2, hcs2, hgr2⟩ := Blk.setCells (encW t) (i * 7) B1
  obtain ⟨W2, hW2⟩ : ∃ W2, W1.setCells gn (i * 7) (encW t) = W2 := ⟨_, rfl⟩
  rw [hW2] at hcur2 hgr2 ⊢
  have HW2 := Lib.hid hW2
  have hcells2 : ∀ (j : Nat) u, X[j]? = some u → W2.cell? ⟨g, j, none⟩ = some u := fun j u hu => by
    rw [← hW2, World.cell?_setCells_out _ _ _ _ _ (fun h _ => absurd h (by show g ≠ gn; omega))]
    exact hcells1 j u hu
  clear hW2
  simp only [Act.put, List.setIfInBounds_toArray, List.set_cons_zero, List.set_cons_succ]
  refine wp_region_oneS (S := fun _ => True) [(0, true), (1, true), (2, true), (3, true), (4, true), (5, true), (6, true), (7, true), (8, false)] (by kernel_rfl) (by kernel_rfl) (by kernel_rfl) (by decide) trivial ?_
  repeat ((with_reducible show wpPerm _ _ _ _ ((_, true) :: _) _ _); (first | (refine wpPerm_on (v := ?_) rfl rfl (wanted_free rfl) (fun w' hS => ?_) ?_; rotate_left; (focus (go_simp; (try with_reducible rfl); done)); try simp only [List.setIfInBounds_toArray, List.set_cons_zero, List.set_cons_succ]) | (refine wpPerm_on (v := ?_) rfl rfl (wanted_yes rfl rfl rfl) (fun w' hS => ?_) ?_; rotate_left; (focus (go_simp; (try with_reducible rfl); done)); try simp only [List.setIfInBounds_toArray, List.set_cons_zero, List.set_cons_succ]) | (refine wpPerm_off rfl rfl (wanted_no rfl rfl rfl) ?_; try simp only [List.setIfInBounds_toArray, List.set_cons_zero, List.set_cons_succ]) | (refine wpPerm_off rfl rfl (wanted_undef rfl rfl rfl) ?_; try simp only [List.setIfInBounds_toArray, List.set_cons_zero, List.set_cons_succ])))
  refine wpPerm_do rfl (wanted_free rfl) (fun K hK => ?_)
  refine wp_copy_to (.tmp 50) (.tmp 53) 68 rfl 78 i0 7 Try.underlying68 hi0 hy1 gn _ _ _ ⟨g, i * 7, none⟩ _ _ rfl rfl (X.drop (i * 7)) ?_ ?_ ?_ ?_ ?_ ?_
  · rw [show Nat.min (n - i) (n - i) = n - i by simp]; exact hdl
  · intro j v hj
    rw [List.getElem?_drop] at hj
    rw [Addr.add_lit]
    exact hcells2 _ _ hj
  · intro j hj
    show (W2.cell? _).isSome = true
    rw [hcur2.cell _, Array.getElem?_eq_getElem (by rw [hcs2, hCSl]; omega)]
    rfl
  · intro j hj
    exact hcur2.frozen _
  · intro v hv
    exact oneWs ws v (by rw [hXd]; exact List.mem_of_mem_drop hv)
  obtain ⟨cur3, hcur3, hcs3, hgr3⟩ := Blk.setCells (X.drop (i * 7)) ((i + 1) * 7) (show Blk W2.drew gn 78 cur2 from hcur2)
  have hins := ins_cells2 (w := W1) (v := W2.drew) (g := gn) X (encW t) (i * 7) (by omega) (fun j u hu => by rw [B1.cell j]; exact hCSx j u hu) (fun j hj => by
    have h7 : (encW t).length = 7 := rfl
    rw [B1.cell j, Array.getElem?_eq_getElem (by rw [hCSl]; omega)]
    rfl) (fun a => by rw [HW2.out]; rfl)
  rw [show i * 7 + (encW t).length = (i + 1) * 7 by rw [show (encW t).length = 7 from rfl]; omega] at hins
  have hxs : flatK encW (ws.take i ++ t :: ws.drop i) = X.take (i * 7) ++ (encW t ++ X.drop (i * 7)) := by
    rw [← hXd, flatK_append, flatK_take encW 7 kW, flatK_drop encW 7 kW]
    rfl
  have hOwn := own_of_cells (size := 7) (n := n + 1) (c := gc) (B := B) (by rw [← hgn]; exact hB) hcur3 (by rw [hcs3, hcs2, hCSl]) hgc1 hgc2 (xs := flatK encW (ws.take i ++ t :: ws.drop i)) (by rw [lenW]; simp; omega) (by rw [hxs]; exact hins)
  have HOwn := Lib.hid hOwn
  have hgr3 : W2.grownBy (W2.drew.setCells gn ((i + 1) * 7) (X.drop (i * 7))) (some gn) := ⟨hgr3.os, hgr3.tape, hgr3.output, hgr3.size, hgr3.block⟩
  have hs1 : gn ≤ W1.heap.size := by rw [← hgn]; exact hbW1.size
  have hfin := (hbW1.grown hgr2 hs1 (fun b hb => by injection hb with hb; omega)).grown hgr3 (Nat.le_trans hs1 hgr2.size) (fun b hb => by injection hb with hb; omega)
  have hG : w.grownBy (W2.drew.setCells gn ((i + 1) * 7) (X.drop (i * 7))) (some g) := grown_of_below (by rw [hgn]; exact hfin) _
  clear hOwn hins hxs
  refine hK.out _ _ trivial ?_
  clear hK K
  refine wpPerm_done ?_
  go_wp2
  go_ret
  exact ⟨_, gc, rfl, HOwn.out, hG⟩

theorem insert_ (ws : List Ew) (t : Ew) (B : Nat) (A : Option Addr) (n c i gv : Nat) (w : World) (hO : w.ownsRow B 78 7 (.slice A n c) n (flatK encW ws)) (hw : ws.length = n) (hv : Blk w gv 78 (encW t).toArray) (hne : ∀ g, A = some ⟨g, 0, none⟩ → gv ≠ g) (hi : i ≤ n) (hn : n ≤ 10000) (hB : B ≤ w.heap.size) :
    Calls Try.prog 49 #[.slice A n c, .int .i64 i, .slice (some ⟨gv, 0, none⟩) 1 1] w fun e w' => ∃ A' c', e = .returned (.slice A' (n + 1) c') ∧ w'.ownsRow B 78 7 (.slice A' (n + 1) c') (n + 1) (flatK encW (ws.take i ++ t :: ws.drop i)) ∧ w.grownBy w' (Value.slice A n c).ownBlock := by
  by_cases h : i = n
  · subst h
    rw [List.take_of_length_le (Nat.le_of_eq hw), List.drop_of_length_le (Nat.le_of_eq hw)]
    exact insert_end ws t B A i c gv w hO hw hv hB hn
  · obtain ⟨g, rfl, _, _⟩ := own_some1 hO (by omega)
    by_cases hc : n + 1 ≤ c
    · exact insert_room ws t B g n c i gv w hO hw hv (hne g rfl) (by omega) hc hn
    · exact insert_grow ws t B g n c i gv w hO hw hv (by omega) (by omega) hn hB
set_option maxRecDepth 1000000 in
set_option maxHeartbeats 4000000 in
theorem delete_ (ws : List Ew) (B g n c i : Nat) (w : World) (hO : w.ownsRow B 78 7 (.slice (some ⟨g, 0, none⟩) (n + 1) c) (n + 1) (flatK encW ws)) (hw : ws.length = n + 1) (hi : i ≤ n) (hn : n ≤ 10000) :
    Calls Try.prog 46 #[.slice (some ⟨g, 0, none⟩) (n + 1) c, .int .i64 i, .int .i64 ((i : Int) + 1)] w fun e w' => e = .returned (.slice (some ⟨g, 0, none⟩) n c) ∧ w'.ownsRow B 78 7 (.slice (some ⟨g, 0, none⟩) n c) n (flatK encW (ws.take i ++ ws.drop (i + 1))) ∧ w.grownBy w' (some g) := by
  obtain ⟨i0, hi0, hy0, hy1, hy2⟩ := info_parts (P := Try.prog) (e := 78) (z := .agg #[.int .i64 0, .int .i64 0, .string ⟨#[]⟩, .int .i64 0, .int .i64 0, .string ⟨#[]⟩, .slice none 0 0]) (size := 7) (bytes := 88) (by kernel_rfl)
  obtain ⟨cur, hcur, hcs, hnc, hcm, hBg, hcells⟩ := own_cells hO
  unfold maxLen at hcm
  obtain ⟨X, hXd⟩ : ∃ X, flatK encW ws = X := ⟨_, rfl⟩
  rw [hXd] at hcells
  have hXl : X.length = (n + 1) * 7 := by rw [← hXd, lenW, hw]
  have hdl : (X.drop ((i + 1) * 7)).length = (n - i) * 7 := by rw [List.length_drop, hXl]; omega
  have hd1 : ((i : Int) == (i : Int) + 1) = false := by rw [beq_eq_false_iff_ne]; omega
  have hd1e : ((i : Int) = (i : Int) + 1) = False := by rw [eq_iff_iff, iff_false]; omega
  have hb1 : (0 : Int) ≤ (i : Int) + 1 := by omega
  have htn : ((i : Int) + 1).toNat = i + 1 := by omega
  have hb0 : (i : Int) ≤ (n : Int) := by omega
  have hb2 : (i : Int) ≤ (n : Int) + 1 := by omega
  have hb3 : (i : Int) + 1 ≤ (n : Int) + 1 := by omega
  have hb4 : (n : Int) + 1 ≤ (c : Int) := by omega
  have hb5 : i + 1 ≤ n + 1 := by omega
  have hb6 : n + 1 ≤ c := by omega
  have hb7 : i ≤ c := by omega
  have hb8 : (i : Int) ≤ (c : Int) := by omega
  have hcz : c = i + 1 ∨ ¬ c = i + 1 := Classical.em _
  obtain ⟨ad, had, hsrc⟩ : ∃ ad : Addr, (c = i + 1 ∧ ad = ⟨g, 0, none⟩ ∨ ¬ c = i + 1 ∧ ad = ⟨g, (i + 1) * 7, none⟩) ∧ Hid (∀ j v, (X.drop ((i + 1) * 7))[j]? = some v → w.cell? (ad.add j) = some v) := by
    rcases hcz with h | h
    · refine ⟨_, .inl ⟨h, rfl⟩, Lib.hid fun j v hj => ?_⟩
      have h1 := (List.getElem?_eq_some_iff.1 hj).1
      omega
    · refine ⟨_, .inr ⟨h, rfl⟩, Lib.hid fun j v hj => ?_⟩
      rw [List.getElem?_drop] at hj
      rw [Addr.add_lit]
      exact hcells _ _ hj
  clear hcz
  have hadd : (if c = i + 1 then some (⟨g, 0, none⟩ : Addr) else some ⟨g, (i + 1) * 7, none⟩) = some ad := by
    rcases had with ⟨h, rfl⟩ | ⟨h, rfl⟩
    · rw [if_pos h]
    · rw [if_neg h]
  clear had
  have hrun : ∀ ty, (Builtin.append_ #[68, 68] ty #[.slice (some ⟨g, 0, none⟩) i c, .slice (some ad) (n - i) (c - (i + 1))]).run Try.prog w.drew = .ok (.slice (some ⟨g, 0, none⟩) n c) (w.drew.setCells g (i * 7) (X.drop ((i + 1) * 7))) := fun ty => by
    have h := run_append_room_cells (P := Try.prog) w.drew 68 ty 78 i0 Try.underlying68 hi0 g 0 i c ad (n - i) (c - (i + 1)) (X.drop ((i + 1) * 7)) (by rw [hy1]; exact hdl) (fun j u hu => hsrc.out j u hu) (fun v hv => oneWs ws v (by rw [hXd]; exact List.mem_of_mem_drop hv)) (by omega)
      (fun j hj => by
        show (w.cell? _).isSome = true
        rw [hy1, hcur.cell _, Array.getElem?_eq_getElem (by rw [hcs]; omega)]
        rfl) (fun j hj => hcur.frozen _)
    rw [hy1, Nat.zero_add, show i + (n - i) = n by omega] at h
    exact h
  go_enter Try.func46, Try.ntmps46
  go_upto_region 5 with fail
  refine wp_region_oneS (S := fun _ => True) [(0, true), (1, true), (2, true), (3, true), (4, true), (5, true), (6, false), (7, true)] (by kernel_rfl) (by kernel_rfl) (by kernel_rfl) (by decide) trivial ?_
  repeat ((with_reducible show wpPerm _ _ _ _ ((_, true) :: _) _ _); (first | (refine wpPerm_on (v := ?_) rfl rfl (wanted_free rfl) (fun w' hS => ?_) ?_; rotate_left; (focus (go_simp; (try with_reducible rfl); done)); try simp only [List.setIfInBounds_toArray, List.set_cons_zero, List.set_cons_succ]) | (refine wpPerm_on (v := ?_) rfl rfl (wanted_yes rfl rfl rfl) (fun w' hS => ?_) ?_; rotate_left; (focus (go_simp; (try with_reducible rfl); done)); try simp only [List.setIfInBounds_toArray, List.set_cons_zero, List.set_cons_succ]) | (refine wpPerm_off rfl rfl (wanted_no rfl rfl rfl) ?_; try simp only [List.setIfInBounds_toArray, List.set_cons_zero, List.set_cons_succ]) | (refine wpPerm_off rfl rfl (wanted_undef rfl rfl rfl) ?_; try simp only [List.setIfInBounds_toArray, List.set_cons_zero, List.set_cons_succ])))
  refine wpPerm_do rfl (wanted_free rfl) (fun K hK => ?_)
  refine Lib.wp_append_run w.drew (.tmp 22) (.tmp 25) 68 68 rfl _ _ rfl rfl _ _ (hrun _) ?_
  obtain ⟨cur1, hcur1, hcs1, hgr1⟩ := Blk.setCells (X.drop ((i + 1) * 7)) (i * 7) (show Blk w.drew g 78 cur from hcur)
  obtain ⟨W1, hW1⟩ : ∃ W1, w.drew.setCells g (i * 7) (X.drop ((i + 1) * 7)) = W1 := ⟨_, rfl⟩
  rw [hW1] at hcur1 hgr1 ⊢
  have hgr1 : w.grownBy W1 (some g) := ⟨hgr1.os, hgr1.tape, hgr1.output, hgr1.size, hgr1.block⟩
  have hdel := del_cells (w := w.drew) (g := g) X (i * 7) ((i + 1) * 7) (by omega) (by omega) (fun j u hj => hcells j u hj)
  rw [hW1] at hdel
  have HDEL := Lib.hid hdel
  clear hdel hW1
  refine hK.out _ _ trivial ?_
  clear hK K
  repeat ((with_reducible show wpPerm _ _ _ _ ((_, true) :: _) _ _); (first | (refine wpPerm_on (v := ?_) rfl rfl (wanted_free rfl) (fun w' hS => ?_) ?_; rotate_left; (focus (go_simp; (try with_reducible rfl); done)); try simp only [List.setIfInBounds_toArray, List.set_cons_zero, List.set_cons_succ]) | (refine wpPerm_on (v := ?_) rfl rfl (wanted_yes rfl rfl rfl) (fun w' hS => ?_) ?_; rotate_left; (focus (go_simp; (try with_reducible rfl); done)); try simp only [List.setIfInBounds_toArray, List.set_cons_zero, List.set_cons_succ]) | (refine wpPerm_off rfl rfl (wanted_no rfl rfl rfl) ?_; try simp only [List.setIfInBounds_toArray, List.set_cons_zero, List.set_cons_succ]) | (refine wpPerm_off rfl rfl (wanted_undef rfl rfl rfl) ?_; try simp only [List.setIfInBounds_toArray, List.set_cons_zero, List.set_cons_succ])))
  refine wpPerm_done ?_
  obtain ⟨Z, ZL, hZ, hzl, hZs, hZ1⟩ : ∃ (Z : Value) (ZL : List Value), i0.zero = some Z ∧ (Builtin.zeroCells Z.cells 1).toList = ZL ∧ ZL.length = 7 ∧ ∀ v ∈ ZL, v.oneCell' = true := ⟨_, _, hy0, by rw [zero_one], rfl, by
    intro v hv
    simp [Value.cells] at hv
    rcases hv with rfl | rfl | rfl | rfl | rfl <;> rfl⟩
  have hst := run_storeCells_cells (P := Try.prog) g (n * 7) ZL 0 W1 (fun j hj => by
    rw [hcur1.cell _, Array.getElem?_eq_getElem (by rw [hcs1, hcs]; omega)]
    rfl) (fun j hj => hcur1.frozen _) hZ1
  simp only [Nat.add_zero] at hst
  have hcl : ∀ ty, (Builtin.clear_ #[68] ty #[.slice (some ⟨g, n * 7, none⟩) 1 (c - n)]).run Try.prog W1 = .ok (.tuple #[]) (W1.setCells g (n * 7) ZL) := fun ty => by
    simp [Builtin.clear_, run_underlying Try.underlying68, zeroValue, typeInfo, hi0, hZ, hzl, hst]
  obtain ⟨cur2, hcur2, hcs2, hgr2⟩ := Blk.setCells ZL (n * 7) hcur1
  have hxs : flatK encW (ws.take i ++ ws.drop (i + 1)) = X.take (i * 7) ++ X.drop ((i + 1) * 7) := by
    rw [← hXd, flatK_append, flatK_take encW 7 kW, flatK_drop encW 7 kW]
  have hOwn := own_of_cells (size := 7) (n := n) (c := c) (B := B) hBg hcur2 (by rw [hcs2, hcs1, hcs]) (by omega) (by unfold maxLen; omega) (xs := flatK encW (ws.take i ++ ws.drop (i + 1))) (by rw [lenW]; simp; omega) (fun j u hu => by
    have hj := (List.getElem?_eq_some_iff.1 hu).1
    rw [lenW] at hj
    simp only [List.length_append, List.length_take, List.length_drop] at hj
    rw [World.cell?_setCells_out _ _ _ _ _ (fun _ _ => .inl (by show j < n * 7; omega))]
    rw [hxs] at hu
    exact HDEL.out j u hu)
  have HOwn := Lib.hid hOwn
  have HG := Lib.hid (grown_trans hgr1 hgr2)
  clear hOwn hxs hgr1 hgr2 hst hadd
  have hn1 : (n : Int) ≤ (n : Int) + 1 := by omega
  have hn2 : ¬ (c = n) := by omega
  go_wp2
  go_ret
  exact ⟨rfl, HOwn.out, HG.out⟩
end Go.Proofs.Ytnlmbjmgmofeiaa.ix

/- Contract: entry. Printed by gen7.py. -/
namespace Go.Proofs.Ytnlmbjmgmofeiaa.ix
open Go.ChangeShapes Go.WideShapes Go.ChangeAt Go.RowKit Go.Proofs.Ytnlmbjmgmofeiaa.lib Go.Proofs.Ytnlmbjmgmofeiaa.val Go.Proofs.Ytnlmbjmgmofeiaa.tb
set_option linter.unusedVariables false

set_option maxHeartbeats 2000000 in
theorem Blk.set7 {w : World} {g : Nat} {t : TypeId} {x0 x1 x2 x3 x4 x5 x6 : Value} (h : Blk w g t #[x0, x1, x2, x3, x4, x5, x6]) (a0 a1 a2 a3 a4 a5 a6 : Value) :
    ∃ w', w' = ((((((w.setCell ⟨g, 0, none⟩ a0).setCell ⟨g, 1, none⟩ a1).setCell ⟨g, 2, none⟩ a2).setCell ⟨g, 3, none⟩ a3).setCell ⟨g, 4, none⟩ a4).setCell ⟨g, 5, none⟩ a5).setCell ⟨g, 6, none⟩ a6 ∧ Blk w' g t #[a0, a1, a2, a3, a4, a5, a6] ∧ (∀ B, B ≤ g → Below B w w') ∧ w.grownBy w' (some g) := by
  obtain ⟨w1, e1, b1, l1, g1⟩ := Blk.set1 (i := 0) h a0
  have b1 : Blk w1 g t #[a0, x1, x2, x3, x4, x5, x6] := b1
  obtain ⟨w2, e2, b2, l2, g2⟩ := Blk.set1 (i := 1) b1 a1
  have b2 : Blk w2 g t #[a0, a1, x2, x3, x4, x5, x6] := b2
  obtain ⟨w3, e3, b3, l3, g3⟩ := Blk.set1 (i := 2) b2 a2
  have b3 : Blk w3 g t #[a0, a1, a2, x3, x4, x5, x6] := b3
  obtain ⟨w4, e4, b4, l4, g4⟩ := Blk.set1 (i := 3) b3 a3
  have b4 : Blk w4 g t #[a0, a1, a2, a3, x4, x5, x6] := b4
  obtain ⟨w5, e5, b5, l5, g5⟩ := Blk.set1 (i := 4) b4 a4
  have b5 : Blk w5 g t #[a0, a1, a2, a3, a4, x5, x6] := b5
  obtain ⟨w6, e6, b6, l6, g6⟩ := Blk.set1 (i := 5) b5 a5
  have b6 : Blk w6 g t #[a0, a1, a2, a3, a4, a5, x6] := b6
  obtain ⟨w7, e7, b7, l7, g7⟩ := Blk.set1 (i := 6) b6 a6
  have b7 : Blk w7 g t #[a0, a1, a2, a3, a4, a5, a6] := b7
  refine ⟨w7, by rw [e7, e6, e5, e4, e3, e2, e1], b7, fun B hB => ?_, grown_trans (grown_trans (grown_trans (grown_trans (grown_trans (grown_trans g1 g2) g3) g4) g5) g6) g7⟩
  exact Below.trans (Below.trans (Below.trans (Below.trans (Below.trans (Below.trans (l1 B hB) (l2 B hB)) (l3 B hB)) (l4 B hB)) (l5 B hB)) (l6 B hB)) (l7 B hB)
theorem kb_bd {v : V} (h : Fit64 v) : 1 ≤ (kb v).length ∧ (kb v).length ≤ 200 := kb_len h.chk
set_option maxRecDepth 1000000 in
set_option maxHeartbeats 8000000 in
theorem entry_ (g : Nat) (col key : Nat) (x2 x3 : Value) (r : List V) (e : En) (lo : Nat) (Ar : Option Addr) (m cr : Nat) (w : World) (hg : Blk w g 75 #[.int .i64 col, .int .i64 key, x2, x3]) (hr : Vs w lo Ar m cr r) (hm : m ≤ 100000)
    (hv : r[col]? = some e.v) (hk : r[key]? = some e.k) (he : EnOk e) :
    Calls Try.prog 43 #[.pointer (some ⟨g, 0, none⟩), .slice Ar m cr] w fun e' w' => ∃ x : Ew, e' = .returned (.tuple #[x.agg, .bool true]) ∧ x.e = e ∧ EwOk w' x ∧ Below w.heap.size w w' := by
  obtain ⟨i0, hi, hy0, hy1, hy2⟩ := info_parts (P := Try.prog) (e := 5) (z := .int .u8 0) (size := 1) (bytes := 1) (by kernel_rfl)
  have hcl : col < r.length := (List.getElem?_eq_some_iff.1 hv).1
  have hkl : key < r.length := (List.getElem?_eq_some_iff.1 hk).1
  rw [hr.2] at hcl hkl
  have HR := Lib.hid hr
  have HV := Lib.hid hv
  have HK := Lib.hid hk
  have HE := Lib.hid he
  obtain ⟨br, or_, rfl, _, _, hbr⟩ := hr.1.some_ (by omega)
  clear hr hv hk he
  obtain ⟨⟨v0, v1, v2⟩, ⟨k0, k1, k2⟩⟩ := e
  have d1 : decide ((col : Int) < 0) = false := by simp
  have d2 : decide ((m : Int) ≤ (col : Int)) = false := by simp; omega
  have d3 : decide ((key : Int) < 0) = false := by simp
  have d4 : decide ((m : Int) ≤ (key : Int)) = false := by simp; omega
  have c1 : (col : Int) < (m : Int) := by omega
  have c2 : (key : Int) < (m : Int) := by omega
  go_enter Try.func43, Try.ntmps43
  go_upto_region 1 with fail
  obtain ⟨W, hW_, hbW, BR⟩ : ∃ W_, W_ = (w.alloc (.cells #[.int .i64 0, .int .i64 0, .string ⟨#[]⟩, .int .i64 0, .int .i64 0, .string ⟨#[]⟩, .slice none 0 0] 78)) ∧ Below w.heap.size w W_ ∧ Blk W_ (w.heap.size) 78 #[.int .i64 0, .int .i64 0, .string ⟨#[]⟩, .int .i64 0, .int .i64 0, .string ⟨#[]⟩, .slice none 0 0] :=
    ⟨_, rfl, ((Below.refl _ _).alloc (Nat.le_refl _) _), (blk_new_at w (w.heap.size) _ _ (by simp))⟩
  rw [← hW_]
  clear hW_
  have BG := hg.ext hbW
  have hBW := BR.lt
  have q4 := four BG (Below.refl _ _)
  go_wp2_with fail
  clear q4
  have D4 := fun w' (h : Below W.heap.size W.drew w') => four BG (Below.trans (Below.refl _ _).drew h)
  have DC := fun w' (h : Below W.heap.size W.drew w') => (HR.out.ext (Below.trans hbW.drew (Below.mono h hbW.size))).at_ HV.out
  have DK := fun w' (h : Below W.heap.size W.drew w') => (HR.out.ext (Below.trans hbW.drew (Below.mono h hbW.size))).at_ HK.out
  refine wp_region_mix2 ⟨14, 6, fun g => .pointer (some ⟨g, 0, none⟩), .cells #[.int .i64 0, .int .i64 0, .string ⟨#[]⟩] 41⟩ ⟨15, 7, fun g => .pointer (some ⟨g, 0, none⟩), .cells #[.int .i64 0, .int .i64 0, .string ⟨#[]⟩] 41⟩
    [(0, true), (1, true), (2, true), (3, true), (4, true), (5, true), (6, true), (7, true), (8, true), (9, true), (10, true), (11, true), (12, true), (13, true)] [] [(16, false), (17, false)] (by kernel_rfl) (by kernel_rfl) ?_
  repeat ((with_reducible show wpI _ _ _ _ _ ((_, true) :: _) _ _); (first | (refine wpI_on (v := ?_) rfl rfl (wanted_free rfl) (fun w' hS => ?_) ?_; rotate_left; (focus (go_simp; (try with_reducible rfl); done)); try simp only [List.setIfInBounds_toArray, List.set_cons_zero, List.set_cons_succ]) | (refine wpI_on (v := ?_) rfl rfl (wanted_yes rfl rfl rfl) (fun w' hS => ?_) ?_; rotate_left; (focus (go_simp; (try with_reducible rfl); done)); try simp only [List.setIfInBounds_toArray, List.set_cons_zero, List.set_cons_succ]) | (refine wpI_off rfl rfl (wanted_no rfl rfl rfl) ?_; try simp only [List.setIfInBounds_toArray, List.set_cons_zero, List.set_cons_succ]) | (refine wpI_off rfl rfl (wanted_undef rfl rfl rfl) ?_; try simp only [List.setIfInBounds_toArray, List.set_cons_zero, List.set_cons_succ])))
  refine wpI_done ⟨?_, ?_⟩
  · intro u hu
    simp only [List.mem_cons, List.not_mem_nil, or_false] at hu
    rcases hu with rfl | rfl <;> exact ⟨_, rfl, rfl, wanted_free rfl, fun w => by go_simp⟩
  clear D4 DC DK
  refine wpI_done ?_
  intro ga gb wf he hb hlo1 hhi1 hat1 hlo2 hhi2 hat2 hne
  try simp only [List.setIfInBounds_toArray, List.set_cons_zero, List.set_cons_succ]
  have C1 : Blk wf ga 41 #[.int .i64 0, .int .i64 0, .string ⟨#[]⟩] := hat1
  have C2 : Blk wf gb 41 #[.int .i64 0, .int .i64 0, .string ⟨#[]⟩] := hat2
  clear hat1 hat2 he hhi1 hhi2
  have q := C1.three (Below.refl _ _)
  have f := C1.free3
  refine wpPerm_do rfl (wanted_free rfl) (fun K hK => ?_); go_simp
  clear q f
  obtain ⟨wh, hw, C1, hl1, hf1, hz1⟩ := C1.set3 (.int .i64 v0) (.int .i64 v1) (.string v2)
  rw [← hw]
  clear hw
  have C2 := hf1 _ _ _ hne.symm C2
  have hb := Below.trans hb (hl1 _ hlo1)
  refine hK.out _ _ hb ?_
  clear hK K
  have q := C2.three (Below.refl _ _)
  have f := C2.free3
  refine wpPerm_do rfl (wanted_free rfl) (fun K hK => ?_); go_simp
  clear q f
  obtain ⟨wj, hw, C2, hl2, hf2, hz2⟩ := C2.set3 (.int .i64 k0) (.int .i64 k1) (.string k2)
  rw [← hw]
  clear hw
  have C1 := hf2 _ _ _ hne C1
  have hb := Below.trans hb (hl2 _ hlo2)
  refine hK.out _ _ hb ?_
  clear hK K hf1 hf2 hz1 hz2 hl1 hl2
  refine wpPerm_done ?_
  have hbj := Below.trans ((Below.refl W.heap.size W).drew) hb
  have BR := BR.ext hbj
  have hbx := Below.trans hbW (Below.mono hbj hbW.size)
  have hBRl := BR.lt
  clear hb hbj BG hne
  go_wp2_with fail
  have D1 := fun w' (h : Blk w' ga 41 #[.int .i64 v0, .int .i64 v1, .string v2] ∧ Blk w' gb 41 #[.int .i64 k0, .int .i64 k1, .string k2]) => h.1.three (Below.refl _ _)
  have D2 := fun w' (h : Blk w' ga 41 #[.int .i64 v0, .int .i64 v1, .string v2] ∧ Blk w' gb 41 #[.int .i64 k0, .int .i64 k1, .string k2]) => h.2.three (Below.refl _ _)
  refine wp_region_oneS (S := fun w' => Blk w' ga 41 #[.int .i64 v0, .int .i64 v1, .string v2] ∧ Blk w' gb 41 #[.int .i64 k0, .int .i64 k1, .string k2]) [(0, true), (1, true), (2, true), (4, true), (3, false), (5, false), (6, false), (7, true), (8, false), (9, true)] (by kernel_rfl) (by kernel_rfl) (by kernel_rfl) (by decide) ⟨C1, C2⟩ ?_
  repeat ((with_reducible show wpPerm _ _ _ _ ((_, true) :: _) _ _); (first | (refine wpPerm_on (v := ?_) rfl rfl (wanted_free rfl) (fun w' hS => ?_) ?_; rotate_left; (focus (go_simp; (try with_reducible rfl); done)); try simp only [List.setIfInBounds_toArray, List.set_cons_zero, List.set_cons_succ]) | (refine wpPerm_on (v := ?_) rfl rfl (wanted_yes rfl rfl rfl) (fun w' hS => ?_) ?_; rotate_left; (focus (go_simp; (try with_reducible rfl); done)); try simp only [List.setIfInBounds_toArray, List.set_cons_zero, List.set_cons_succ]) | (refine wpPerm_off rfl rfl (wanted_no rfl rfl rfl) ?_; try simp only [List.setIfInBounds_toArray, List.set_cons_zero, List.set_cons_succ]) | (refine wpPerm_off rfl rfl (wanted_undef rfl rfl rfl) ?_; try simp only [List.setIfInBounds_toArray, List.set_cons_zero, List.set_cons_succ])))
  clear D1 D2
  have hdr := (Below.refl wj.heap.size wj).drew
  have C1 := C1.ext hdr
  have C2 := C2.ext hdr
  have BR := BR.ext hdr
  have hbx := Below.trans hbx (Below.mono hdr hbx.size)
  generalize wj.drew = wd at *
  have hga := C1.lt
  have hgb := C2.lt
  have hBd := BR.lt
  have hne1 : ga ≠ w.heap.size := by omega
  have hne2 : gb ≠ w.heap.size := by omega
  clear hdr
  refine wpPerm_do rfl (wanted_free rfl) (fun K hK => ?_); go_simp
  refine (bytes_ ⟨v0, v1, v2⟩ _ HE.out.v).mono ?_
  rintro e1 wa ⟨gA, cA, rfl, hownA, hba⟩
  have C1 := C1.ext hba
  have C2 := C2.ext hba
  have BR := BR.ext hba
  have hbx := Below.trans hbx (Below.mono hba hbx.size)
  have hza := hba.size
  refine hK.out _ _ ⟨C1, C2⟩ ?_
  clear hK K hba
  refine wpPerm_do rfl (wanted_free rfl) (fun K hK => ?_); go_simp
  refine (bytes_ ⟨k0, k1, k2⟩ _ HE.out.k).mono ?_
  rintro e2 wb ⟨gB, cB, rfl, hownB, hbb⟩
  have C1 := C1.ext hbb
  have C2 := C2.ext hbb
  have BR := BR.ext hbb
  have hbx := Below.trans hbx (Below.mono hbb hbx.size)
  have hownA := own_ext hownA hbb
  have hzb := hbb.size
  refine hK.out _ _ ⟨C1, C2⟩ ?_
  clear hK K hbb
  have hl1 := kb_bd HE.out.v
  have hl2 := kb_bd HE.out.k
  simp only at hl1 hl2
  refine wpPerm_do rfl (wanted_free rfl) (fun K hK => ?_)
  refine wp_append_own _ (.tmp 56) (.tmp 58) 67 rfl wd.heap.size 5 i0 _ 1 1 Try.underlying67 hi hy0 hy1 hy2 rfl (by decide) _ (kb ⟨v0, v1, v2⟩).length (cellsB (kb ⟨v0, v1, v2⟩)) rfl hownA ⟨gB, 0, none⟩ (kb ⟨k0, k1, k2⟩).length cB (cellsB (kb ⟨k0, k1, k2⟩)) rfl (by rw [lenB, Nat.mul_one]) (Row.of_own hownB).src (oneB _) (by unfold maxLen; omega) (by omega) (by omega) ?_
  intro v' wc hown hgrow _
  obtain ⟨A', cC, rfl⟩ := own_slice hown
  rw [← cellsB_append] at hown
  obtain ⟨gC, rfl, _, _⟩ := own_some1 hown (by omega)
  have hlt := hownA.lt
  have C1 := C1.grown hgrow (fun e => by have := (hlt _ e.symm).1; omega)
  have C2 := C2.grown hgrow (fun e => by have := (hlt _ e.symm).1; omega)
  have BR := BR.grown hgrow (fun e => by have := (hlt _ e.symm).1; omega)
  have hbx := hbx.grown hgrow hbx.size (fun b hb => by have := (hlt b hb).1; omega)
  refine hK.out _ _ ⟨C1, C2⟩ ?_
  clear hK K hgrow hlt hownA hownB
  repeat ((with_reducible show wpPerm _ _ _ _ ((_, true) :: _) _ _); (first | (refine wpPerm_on (v := ?_) rfl rfl (wanted_free rfl) (fun w' hS => ?_) ?_; rotate_left; (focus (go_simp; (try with_reducible rfl); done)); try simp only [List.setIfInBounds_toArray, List.set_cons_zero, List.set_cons_succ]) | (refine wpPerm_on (v := ?_) rfl rfl (wanted_yes rfl rfl rfl) (fun w' hS => ?_) ?_; rotate_left; (focus (go_simp; (try with_reducible rfl); done)); try simp only [List.setIfInBounds_toArray, List.set_cons_zero, List.set_cons_succ]) | (refine wpPerm_off rfl rfl (wanted_no rfl rfl rfl) ?_; try simp only [List.setIfInBounds_toArray, List.set_cons_zero, List.set_cons_succ]) | (refine wpPerm_off rfl rfl (wanted_undef rfl rfl rfl) ?_; try simp only [List.setIfInBounds_toArray, List.set_cons_zero, List.set_cons_succ])))
  have HO := Lib.hid hown
  have f0 := BR.frozen 0
  have f1 := BR.frozen 1
  have f2 := BR.frozen 2
  have f3 := BR.frozen 3
  have f4 := BR.frozen 4
  have f5 := BR.frozen 5
  have f6 := BR.frozen 6
  have q := seven BR (Below.refl _ _)
  clear hown
  refine wpPerm_do rfl (wanted_free rfl) (fun K hK => ?_); go_simp
  clear f0 f1 f2 f3 f4 f5 f6 q
  obtain ⟨we, hw, BR', hl1, hgr⟩ := Blk.set7 BR (.int .i64 v0) (.int .i64 v1) (.string v2) (.int .i64 k0) (.int .i64 k1) (.string k2) (.slice (some ⟨gC, 0, none⟩) ((kb ⟨v0, v1, v2⟩).length + (kb ⟨k0, k1, k2⟩).length) cC)
  rw [← hw]
  clear hw
  have C1 := C1.grown hgr (by simpa using hne1)
  have C2 := C2.grown hgr (by simpa using hne2)
  have hown := Lib.hid (HO.out.kept hgr (own_ne_blk HO.out BR (by decide)))
  have hbx := Below.trans hbx (hl1 _ (Nat.le_refl _))
  refine hK.out _ _ ⟨C1, C2⟩ ?_
  clear hK K hl1 hgr BR HO
  repeat ((with_reducible show wpPerm _ _ _ _ ((_, true) :: _) _ _); (first | (refine wpPerm_on (v := ?_) rfl rfl (wanted_free rfl) (fun w' hS => ?_) ?_; rotate_left; (focus (go_simp; (try with_reducible rfl); done)); try simp only [List.setIfInBounds_toArray, List.set_cons_zero, List.set_cons_succ]) | (refine wpPerm_on (v := ?_) rfl rfl (wanted_yes rfl rfl rfl) (fun w' hS => ?_) ?_; rotate_left; (focus (go_simp; (try with_reducible rfl); done)); try simp only [List.setIfInBounds_toArray, List.set_cons_zero, List.set_cons_succ]) | (refine wpPerm_off rfl rfl (wanted_no rfl rfl rfl) ?_; try simp only [List.setIfInBounds_toArray, List.set_cons_zero, List.set_cons_succ]) | (refine wpPerm_off rfl rfl (wanted_undef rfl rfl rfl) ?_; try simp only [List.setIfInBounds_toArray, List.set_cons_zero, List.set_cons_succ])))
  refine wpPerm_done ?_
  go_wp2
  have q := seven BR' (Below.refl _ _)
  exact bodyPost_ret (v := .tuple #[.agg #[.int .i64 v0, .int .i64 v1, .string v2, .int .i64 k0, .int .i64 k1, .string k2, .slice (some ⟨gC, 0, none⟩) ((kb ⟨v0, v1, v2⟩).length + (kb ⟨k0, k1, k2⟩).length) cC], .bool true]) (by simp [results, Try.results43, go_sem, q]; try rfl) rfl
    ⟨⟨⟨⟨v0, v1, v2⟩, ⟨k0, k1, k2⟩⟩, gC, (kb ⟨v0, v1, v2⟩).length + (kb ⟨k0, k1, k2⟩).length, cC⟩, rfl, rfl, ⟨HE.out, own_lo hown.out⟩, hbx⟩
end Go.Proofs.Ytnlmbjmgmofeiaa.ix
