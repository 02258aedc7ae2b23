/- Contracts: BinarySearchFunc over a table's rows, find. -/
import Derived.Test.YtalfacbkofgdjaaT4
namespace Go.Proofs.Ytalfacbkofgdjaa.tb
open Go.ChangeShapes Go.WideShapes Go.ChangeAt Go.RowKit Go.Proofs.Ytalfacbkofgdjaa.lib Go.Proofs.Ytalfacbkofgdjaa.val
set_option linter.unusedVariables false

/-- rows that have a key each -/
def Keyed (key : Nat) (rows : List (List V)) : Prop := ∀ (i : Nat) r, rows[i]? = some r → r.length ≤ 100000 ∧ ∃ v, r[key]? = some v
theorem Ok.keyed {cs : List Col} {key : Nat} {rows : List (List V)} (h : Ok cs key rows) (hc : cs.length ≤ 100000) : Keyed key rows := fun i r hr => by
  have hf := h.fit r (List.mem_of_getElem? hr)
  have hl := fits_len hf
  obtain ⟨v, hv, _⟩ := key_chk h.kl hf
  exact ⟨by omega, v, hv⟩
set_option maxHeartbeats 4000000 in
theorem bsf_ (S : Sch) (Ag : Option Addr) (ng cg : Nat) (Ag' : Option Addr) (ng' cg' : Nat) (g : Nat) (k : V) (rows : List (List V)) (lo : Nat) (A : Option Addr) (n c : Nat) (w : World) (hg : Blk w g 75 (tabA S Ag ng cg Ag' ng' cg')) (hr : Rs w lo A n c rows)
    (hk : Keyed S.key rows) (ho : rows.Pairwise fun a b => cmpV (keyOf S.key a) (keyOf S.key b) < 0) (hn : n ≤ 100000) :
    Calls Try.prog 50 #[.slice A n c, .agg #[.int .i64 k.k, .int .i64 k.n, .string k.s], .func (.func 51) #[] #[.pointer (some ⟨g, 0, none⟩)]] w
      fun e w' => e = .returned (.tuple #[.int .i64 (atL S.key k rows : Nat), .bool (isL S.key k rows)]) ∧ Below w.heap.size w w' := by
  have hrn : rows.length = n := by obtain ⟨_, _, _, h⟩ := hr; exact h
  have HN := Lib.hid hrn
  have HK := Lib.hid hk
  have HO := Lib.hid ho
  clear hrn hk ho
  obtain ⟨kk, kn, ks⟩ := k
  simp only
  obtain ⟨k, hkd⟩ : ∃ k : V, k = ⟨kk, kn, ks⟩ := ⟨_, rfl⟩
  rw [← hkd]
  have HKD := Lib.hid hkd
  clear hkd
  have FC := fun (r : List V) lo Ar m cr v w hg hr hv hm => findc_ S Ag ng cg Ag' ng' cg' g ⟨kk, kn, ks⟩ r lo Ar m cr v w hg hr hv hm
  simp only at FC
  rw [← HKD.out] at FC
  have FC := Lib.hid FC
  go_enter Try.func50, Try.ntmps50
  go_upto_region 1 with fail
  obtain ⟨W, hW_, hbW, B1⟩ : ∃ W_, W_ = (w.alloc (.cells #[.int .i64 kk, .int .i64 kn, .string ks] 39)) ∧ Below w.heap.size w W_ ∧ Blk W_ (w.heap.size) 39 #[.int .i64 kk, .int .i64 kn, .string ks] :=
    ⟨_, rfl, ((Below.refl _ _).alloc (Nat.le_refl _) _), (blk_new_at w (w.heap.size) _ _ (by simp))⟩
  rw [← hW_]
  clear hW_
  go_wp2_with fail
  go_loopw [9, 10] (fun i j wr => ∃ l h : Nat, i = .int .i64 l ∧ j = .int .i64 h ∧ l ≤ h ∧ h ≤ n ∧ Below W.heap.size W wr ∧ Hid ((∀ t r, t < l → rows[t]? = some r → belowB S.key k r = true) ∧ (∀ t r, h ≤ t → rows[t]? = some r → belowB S.key k r = false))) (fun i j _ => (intOf j).toNat - (intOf i).toNat)
  case atStart => exact ⟨0, n, rfl, rfl, Nat.zero_le _, Nat.le_refl _, Below.refl _ _, Lib.hid ⟨fun t r h => absurd h (by omega), fun t r h hr => by have := (List.getElem?_eq_some_iff.1 hr).1; have := HN.out; omega⟩⟩
  case round =>
    obtain ⟨l, h, rfl, rfl, hlh, hhn, hbw, HI⟩ := hrel
    rcases Nat.lt_or_ge l h with hlt | hge
    · have hd : decide ((l : Int) < (h : Int)) = true := by simp; omega
      obtain ⟨m, hmi, hm1, hm2⟩ : ∃ m : Nat, Hid (((l : Int) + (h : Int)) / 2 = (m : Int)) ∧ l ≤ m ∧ m < h := ⟨(l + h) / 2, Lib.hid (by omega), by omega, by omega⟩
      have hmn : (m : Int) < (n : Int) := by omega
      obtain ⟨r, hx⟩ : ∃ r, rows[m]? = some r := ⟨_, List.getElem?_eq_getElem (by rw [HN.out]; omega)⟩
      obtain ⟨hrl, v, hv⟩ := HK.out m r hx
      obtain ⟨hs, R, H, _⟩ := hr
      obtain ⟨b, off, rfl, _, _, hb⟩ := R.some_ (by omega)
      obtain ⟨Ar, cr, he, hvs⟩ := H.at_ hx
      have HX := Lib.hid hx
      have HV := Lib.hid hv
      have HKV := Lib.hid (keyOf_at hv)
      clear hx hv
      go_wp2_with fail
      rw [hmi.out]
      have hw1 := Below.trans hbW (Below.mono hbw hbW.size)
      have D := fun w' (h : Below wr.heap.size wr.drew w') => (R.ext (Below.trans hw1.drew (Below.mono h hw1.size))).at_ he
      have D2 := fun w' (h : Below wr.heap.size wr.drew w') => B1.three (Below.trans hbw.drew (Below.mono h hbw.size))
      obtain ⟨p, hp⟩ : ∃ p, decide (cmpV v k < 0) = p := ⟨_, rfl⟩
      refine wp_region_one [(0, true), (1, true), (2, true), (3, true), (4, true), (5, true), (6, false), (7, true)] (by kernel_rfl) (by kernel_rfl) (by kernel_rfl) (by decide) ?_
      repeat ((with_reducible show wpPerm _ _ _ _ ((_, true) :: _) _ _); (first | (refine wpPerm_on (v := ?_) rfl rfl (wanted_free rfl) (fun w' hS => ?_) ?_; rotate_left; (focus (go_simp; (try with_reducible rfl); done)); try simp only [List.setIfInBounds_toArray, List.set_cons_zero, List.set_cons_succ]) | (refine wpPerm_on (v := ?_) rfl rfl (wanted_yes rfl rfl rfl) (fun w' hS => ?_) ?_; rotate_left; (focus (go_simp; (try with_reducible rfl); done)); try simp only [List.setIfInBounds_toArray, List.set_cons_zero, List.set_cons_succ]) | (refine wpPerm_off rfl rfl (wanted_no rfl rfl rfl) ?_; try simp only [List.setIfInBounds_toArray, List.set_cons_zero, List.set_cons_succ]) | (refine wpPerm_off rfl rfl (wanted_undef rfl rfl rfl) ?_; try simp only [List.setIfInBounds_toArray, List.set_cons_zero, List.set_cons_succ])))
      refine wpPerm_do rfl (wanted_free rfl) (fun K hK => ?_); go_simp
      refine (FC.out r lo Ar r.length cr v _ (hg.ext hw1.drew) (hvs.ext hw1.drew) HV.out hrl).mono ?_
      rintro e w1 ⟨rfl, hb1⟩
      refine hK.out _ _ hb1 ?_
      clear hK K
      repeat ((with_reducible show wpPerm _ _ _ _ ((_, true) :: _) _ _); (first | (refine wpPerm_on (v := ?_) rfl rfl (wanted_free rfl) (fun w' hS => ?_) ?_; rotate_left; (focus (go_simp; (try with_reducible rfl); done)); try simp only [List.setIfInBounds_toArray, List.set_cons_zero, List.set_cons_succ]) | (refine wpPerm_on (v := ?_) rfl rfl (wanted_yes rfl rfl rfl) (fun w' hS => ?_) ?_; rotate_left; (focus (go_simp; (try with_reducible rfl); done)); try simp only [List.setIfInBounds_toArray, List.set_cons_zero, List.set_cons_succ]) | (refine wpPerm_off rfl rfl (wanted_no rfl rfl rfl) ?_; try simp only [List.setIfInBounds_toArray, List.set_cons_zero, List.set_cons_succ]) | (refine wpPerm_off rfl rfl (wanted_undef rfl rfl rfl) ?_; try simp only [List.setIfInBounds_toArray, List.set_cons_zero, List.set_cons_succ])))
      refine wpPerm_done ?_
      clear D D2
      have hbw2 := Below.trans hbw.drew (Below.mono hb1 hbw.size)
      have HP := Lib.hid hp
      clear hp
      cases p with
      | true =>
        go_wp2
        go_roundw
        case rel =>
          refine ⟨m + 1, h, by go_num, rfl, by omega, hhn, hbw2, Lib.hid ⟨fun t r' ht hr' => ?_, HI.out.2⟩⟩
          exact below_mono HO.out (by omega) hr' HX.out (by unfold belowB; rw [HKV.out]; exact HP.out)
        case measure => simp [intOf]; omega
      | false =>
        go_wp2
        go_roundw
        case rel =>
          refine ⟨l, m, rfl, rfl, by omega, by omega, hbw2, Lib.hid ⟨HI.out.1, fun t r' ht hr' => ?_⟩⟩
          cases hb : belowB S.key k r' with
          | false => rfl
          | true =>
            have := below_mono HO.out ht HX.out hr' hb
            unfold belowB at this
            rw [HKV.out, HP.out] at this
            cases this
        case measure => simp [intOf]; omega
    · have hd : decide ((l : Int) < (h : Int)) = false := by simp; omega
      have hlh' : l = h := by omega
      subst hlh'
      have hat : atL S.key k rows = l := at_unique (by rw [HN.out]; exact hhn) (fun i r hi hr => HI.out.1 i r hi hr) (fun r hr => HI.out.2 l r (Nat.le_refl _) hr)
      have HA := Lib.hid hat
      clear hat
      have hw1 := Below.trans hbW (Below.mono hbw hbW.size)
      rcases Nat.lt_or_ge l n with hln | hln
      · have hd2 : decide ((l : Int) < (n : Int)) = true := by simp; omega
        have hd3 : decide (l < n) = true := by simp; omega
        have hmn : (l : Int) < (n : Int) := by omega
        obtain ⟨r, hx⟩ : ∃ r, rows[l]? = some r := ⟨_, List.getElem?_eq_getElem (by rw [HN.out]; omega)⟩
        obtain ⟨hrl, v, hv⟩ := HK.out l r hx
        obtain ⟨hs, R, H, _⟩ := hr
        obtain ⟨b, off, rfl, _, _, hb⟩ := R.some_ (by omega)
        obtain ⟨Ar, cr, he, hvs⟩ := H.at_ hx
        have his : isL S.key k rows = (cmpV v k == 0) := by
          unfold isL
          rw [HA.out, hx]
          simp only [keyOf_at hv]
          cases h : (cmpV v k == 0) <;> simpa using h
        have HIS := Lib.hid his
        have HV := Lib.hid hv
        clear hx hv his
        go_wp2_with fail
        have D := fun w' (h : Below wr.heap.size wr.drew w') => (R.ext (Below.trans hw1.drew (Below.mono h hw1.size))).at_ he
        have D2 := fun w' (h : Below wr.heap.size wr.drew w') => B1.three (Below.trans hbw.drew (Below.mono h hbw.size))
        obtain ⟨p, hp⟩ : ∃ p, (cmpV v k == 0) = p := ⟨_, rfl⟩
        refine wp_region_one [(0, true), (1, true), (2, true), (3, true), (4, true), (5, true), (6, true), (7, true), (8, true), (9, true), (10, true), (11, false), (12, true), (13, true), (14, true), (15, true)] (by kernel_rfl) (by kernel_rfl) (by kernel_rfl) (by decide) ?_
        repeat ((with_reducible show wpPerm _ _ _ _ ((_, true) :: _) _ _); (first | (refine wpPerm_on (v := ?_) rfl rfl (wanted_free rfl) (fun w' hS => ?_) ?_; rotate_left; (focus (go_simp; (try with_reducible rfl); done)); try simp only [List.setIfInBounds_toArray, List.set_cons_zero, List.set_cons_succ]) | (refine wpPerm_on (v := ?_) rfl rfl (wanted_yes rfl rfl rfl) (fun w' hS => ?_) ?_; rotate_left; (focus (go_simp; (try with_reducible rfl); done)); try simp only [List.setIfInBounds_toArray, List.set_cons_zero, List.set_cons_succ]) | (refine wpPerm_off rfl rfl (wanted_no rfl rfl rfl) ?_; try simp only [List.setIfInBounds_toArray, List.set_cons_zero, List.set_cons_succ]) | (refine wpPerm_off rfl rfl (wanted_undef rfl rfl rfl) ?_; try simp only [List.setIfInBounds_toArray, List.set_cons_zero, List.set_cons_succ])))
        refine wpPerm_do rfl (wanted_yes rfl rfl rfl) (fun K hK => ?_); go_simp
        refine (FC.out r lo Ar r.length cr v _ (hg.ext hw1.drew) (hvs.ext hw1.drew) HV.out hrl).mono ?_
        rintro e w1 ⟨rfl, hb1⟩
        refine hK.out _ _ hb1 ?_
        clear hK K
        repeat ((with_reducible show wpPerm _ _ _ _ ((_, true) :: _) _ _); (first | (refine wpPerm_on (v := ?_) rfl rfl (wanted_free rfl) (fun w' hS => ?_) ?_; rotate_left; (focus (go_simp; (try with_reducible rfl); done)); try simp only [List.setIfInBounds_toArray, List.set_cons_zero, List.set_cons_succ]) | (refine wpPerm_on (v := ?_) rfl rfl (wanted_yes rfl rfl rfl) (fun w' hS => ?_) ?_; rotate_left; (focus (go_simp; (try with_reducible rfl); done)); try simp only [List.setIfInBounds_toArray, List.set_cons_zero, List.set_cons_succ]) | (refine wpPerm_off rfl rfl (wanted_no rfl rfl rfl) ?_; try simp only [List.setIfInBounds_toArray, List.set_cons_zero, List.set_cons_succ]) | (refine wpPerm_off rfl rfl (wanted_undef rfl rfl rfl) ?_; try simp only [List.setIfInBounds_toArray, List.set_cons_zero, List.set_cons_succ])))
        refine wpPerm_done ?_
        clear D D2
        have HP := Lib.hid hp
        clear hp
        go_wp2
        exact bodyPost_ret (v := .tuple #[.int .i64 (l : Int), .bool p]) (by simp [results, Try.results50, go_sem]; try rfl) rfl ⟨by rw [HA.out, HIS.out, HP.out], Below.trans hw1.drew (Below.mono hb1 hw1.size)⟩
      · have hd2 : decide ((l : Int) < (n : Int)) = false := by simp; omega
        have hd3 : decide (l < n) = false := by simp; omega
        have his : isL S.key k rows = false := by
          unfold isL
          rw [HA.out, List.getElem?_eq_none (by rw [HN.out]; exact hln)]
        have HIS := Lib.hid his
        clear his
        go_wp2_with fail
        refine wp_region_one [(0, true), (1, true), (2, true), (3, true), (4, true), (5, true), (6, true), (7, true), (8, true), (9, true), (10, true), (11, true), (12, true), (13, true), (14, true), (15, true)] (by kernel_rfl) (by kernel_rfl) (by kernel_rfl) (by decide) ?_
        repeat ((with_reducible show wpPerm _ _ _ _ ((_, true) :: _) _ _); (first | (refine wpPerm_on (v := ?_) rfl rfl (wanted_free rfl) (fun w' hS => ?_) ?_; rotate_left; (focus (go_simp; (try with_reducible rfl); done)); try simp only [List.setIfInBounds_toArray, List.set_cons_zero, List.set_cons_succ]) | (refine wpPerm_on (v := ?_) rfl rfl (wanted_yes rfl rfl rfl) (fun w' hS => ?_) ?_; rotate_left; (focus (go_simp; (try with_reducible rfl); done)); try simp only [List.setIfInBounds_toArray, List.set_cons_zero, List.set_cons_succ]) | (refine wpPerm_off rfl rfl (wanted_no rfl rfl rfl) ?_; try simp only [List.setIfInBounds_toArray, List.set_cons_zero, List.set_cons_succ]) | (refine wpPerm_off rfl rfl (wanted_undef rfl rfl rfl) ?_; try simp only [List.setIfInBounds_toArray, List.set_cons_zero, List.set_cons_succ])))
        refine wpPerm_done ?_
        go_wp2
        exact bodyPost_ret (v := .tuple #[.int .i64 (l : Int), .bool false]) (by simp [results, Try.results50, go_sem]; try rfl) rfl ⟨by rw [HA.out, HIS.out], hw1.drew⟩
end Go.Proofs.Ytalfacbkofgdjaa.tb
