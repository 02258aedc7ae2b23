/- Contract: the document's Same. Printed by genref3.py. -/
import Derived.Test.YtlfonenjgchklaaRf1
namespace Go.Proofs.Ytlfonenjgchklaa.lk
open Go.ChangeShapes Go.WideShapes Go.ChangeAt Go.RowKit Go.Proofs.Ytlfonenjgchklaa.lib
set_option linter.unusedVariables false

theorem stood46 : Try.prog.stoodInHeld 46 = false := by kernel_rfl
theorem guard46 : Try.prog.eqGuardType Try.prog.depth 46 = false := by kernel_rfl
theorem ne_fst {L M : Lk} (h : L.hs.length ≠ M.hs.length ∨ L.ws.length ≠ M.ws.length) : decide (L = M) = false := by
  simp only [decide_eq_false_iff_not]
  rintro rfl
  rcases h with h | h <;> exact h rfl
set_option maxHeartbeats 4000000 in
set_option maxRecDepth 100000 in
theorem rSame_ (L M : Lk) (v u : Value) (w : World) (hL : LkR w v L) (hM : LkR w u M) (h1 : L.hs.length ≤ 100000) (h2 : L.ws.length ≤ 100000) :
    Calls Try.prog 19 #[v, u] w fun e w' => e = .returned (.bool (decide (L = M))) ∧ Below w.heap.size w w' := by
  obtain ⟨A, n, c, A', n', c', rfl, e1, r1, e2, r2⟩ := hL
  obtain ⟨B, m, d, B', m', d', rfl, e3, r3, e4, r4⟩ := hM
  have E1 := Lib.hid e1
  have E2 := Lib.hid e2
  have E3 := Lib.hid e3
  have E4 := Lib.hid e4
  have hn : n ≤ 100000 := by omega
  have hn' : n' ≤ 100000 := by omega
  obtain ⟨p, hp⟩ : ∃ p, decide (L = M) = p := ⟨_, rfl⟩
  have hne : (n ≠ m ∨ n' ≠ m') → false = p := fun h => by rw [← hp, ne_fst (by rw [e1, e2, e3, e4]; exact h)]
  rw [hp]
  have HP := Lib.hid hp
  have HNE := Lib.hid hne
  clear e1 e2 e3 e4 h1 h2 hp hne
  go_enter Try.func19, Try.ntmps19
  by_cases hnm : n = m
  case neg =>
    have hd : ((n : Int) != (m : Int)) = true := by simp; omega
    have HF := Lib.hid (HNE.out (.inl hnm))
    go_wp2
    go_ret
    exact ⟨ret_bool HF.out, ((Below.refl _ _).alloc (Nat.le_refl _) _).alloc (by simp) _⟩
  subst hnm
  by_cases hnm : n' = m'
  case neg =>
    have hd : ((n' : Int) != (m' : Int)) = true := by simp; omega
    have HF := Lib.hid (HNE.out (.inr hnm))
    go_wp2
    go_ret
    exact ⟨ret_bool HF.out, ((Below.refl _ _).alloc (Nat.le_refl _) _).alloc (by simp) _⟩
  subst hnm
  go_wp2_with fail
  obtain ⟨W, hW_, hbW, C1, C2⟩ : ∃ W_, W_ = ((w.alloc (.cells #[.slice A n c, .slice A' n' c'] 40)).alloc (.cells #[.slice B n d, .slice B' n' d'] 40)) ∧ Below w.heap.size w W_ ∧ Blk W_ (w.heap.size) 40 #[.slice A n c, .slice A' n' c'] ∧ Blk W_ (w.heap.size + 1) 40 #[.slice B n d, .slice B' n' d'] :=
    ⟨_, rfl, (((Below.refl _ _).alloc (Nat.le_refl _) _).alloc (by simp; try omega) _), ((blk_new_at w (w.heap.size) _ _ (by simp)).alloc _), (blk_new_at (w.alloc (.cells #[.slice A n c, .slice A' n' c'] 40)) (w.heap.size + 1) _ _ (by simp))⟩
  rw [← hW_]
  clear hW_
  go_loopw [5] (fun i wr => ∃ k : Nat, Below W.heap.size W wr ∧ k ≤ n ∧ i = .int .i64 k ∧ Hid (∀ j, j < k → L.hs[j]? = M.hs[j]?)) (fun i _ => n - (intOf i).toNat)
  case atStart => exact ⟨0, Below.refl _ _, Nat.zero_le _, rfl, Lib.hid (fun j h => absurd h (by omega))⟩
  case round =>
    obtain ⟨k, hbw, hk, rfl, HK⟩ := hrel
    have D1 := C1.ext hbw
    have D2 := C2.ext hbw
    have q1 := D1.cell 0
    have q2 := D2.cell 0
    have hwW := Below.trans hbW (Below.mono hbw hbW.size)
    rcases Nat.lt_or_ge k n with hlt | hge
    · have hd : decide ((k : Int) < (n : Int)) = true := by simp; omega
      have hkn : (k : Int) < (n : Int) := by omega
      obtain ⟨x, hx⟩ : ∃ x, L.hs[k]? = some x := ⟨_, List.getElem?_eq_getElem (by rw [E1.out]; exact hlt)⟩
      obtain ⟨y, hy⟩ : ∃ y, M.hs[k]? = some y := ⟨_, List.getElem?_eq_getElem (by rw [E3.out]; exact hlt)⟩
      obtain ⟨g, rfl, hg⟩ := r1.some_ (by rw [E1.out]; omega)
      obtain ⟨g', rfl, hg'⟩ := r3.some_ (by rw [E3.out]; omega)
      have HX := Lib.hid hx
      have HY := Lib.hid hy
      clear hx hy
      obtain ⟨xs, xt, xx⟩ := x
      obtain ⟨ys, yt, yx⟩ := y
      go_wp2_with fail
      have F := fun w' (h : Below wr.heap.size wr.drew w') => ((r1.ext (Below.trans hwW.drew (Below.mono h hwW.size))).at_ HX.out)
      have F2 := fun w' (h : Below wr.heap.size wr.drew w') => ((r3.ext (Below.trans hwW.drew (Below.mono h hwW.size))).at_ HY.out)
      have F3 := fun w' (h : Below wr.heap.size wr.drew w') => (D1.ext (Below.trans (Below.refl _ _).drew h)).cell 0
      have F4 := fun w' (h : Below wr.heap.size wr.drew w') => (D2.ext (Below.trans (Below.refl _ _).drew h)).cell 0
      refine wp_region_one [(0, true), (1, true), (2, true), (3, true), (4, true), (5, true), (6, true), (7, true), (8, true), (9, true), (10, true)] (by kernel_rfl) (by kernel_rfl) (by kernel_rfl) (by decide) ?_
      have u30 := Try.underlying46
      have u3 := Try.underlying3
      have u9 := Try.underlying9
      have u4 := Try.underlying4
      have hp := stood46
      have hmg := guard46
      cases h1 : (xs == ys) <;> cases h2 : (xt.toList == yt.toList) <;> cases h3 : (xx == yx)
      case true.true.true =>
        have e1 : (⟨xs, xt, xx⟩ : Hd) = ⟨ys, yt, yx⟩ := by
          rw [tl_beq] at h2
          simp only [beq_iff_eq, beqBA] at h1 h2 h3
          rw [h1, h2, h3]
        have EE := Lib.hid e1
        clear e1
        repeat ((with_reducible show wpPerm _ _ _ _ ((_, true) :: _) _ _); (first | (refine wpPerm_on (v := ?_) rfl rfl (wanted_free rfl) (fun w' hS => ?_) ?_; rotate_left; (focus (go_simp; (try with_reducible rfl); done)); try simp only [List.setIfInBounds_toArray, List.set_cons_zero, List.set_cons_succ]) | (refine wpPerm_on (v := ?_) rfl rfl (wanted_yes rfl rfl rfl) (fun w' hS => ?_) ?_; rotate_left; (focus (go_simp; (try with_reducible rfl); done)); try simp only [List.setIfInBounds_toArray, List.set_cons_zero, List.set_cons_succ]) | (refine wpPerm_off rfl rfl (wanted_no rfl rfl rfl) ?_; try simp only [List.setIfInBounds_toArray, List.set_cons_zero, List.set_cons_succ]) | (refine wpPerm_off rfl rfl (wanted_undef rfl rfl rfl) ?_; try simp only [List.setIfInBounds_toArray, List.set_cons_zero, List.set_cons_succ])))
        refine wpPerm_done ?_
        clear F F2 F3 F4 h1 h2 h3 u30 u3 u9 u4 hp hmg
        have hbd := hbw.drew
        go_wp2
        go_roundw
        case rel =>
          refine ⟨k + 1, hbd, by omega, by go_num, Lib.hid (fun j hj => ?_)⟩
          by_cases hjk : j = k
          · subst hjk
            rw [HX.out, HY.out, EE.out]
          · exact HK.out j (by omega)
        case measure => simp [intOf]; omega
      all_goals
        have EE : Hid (false = p) := Lib.hid (by
          rw [← HP.out]
          symm
          simp only [decide_eq_false_iff_not]
          intro e
          have h4 := HX.out
          rw [e, HY.out] at h4
          injection h4 with h4
          injection h4 with h5 h6 h7
          rw [tl_beq] at h2
          subst h5 h6 h7
          simp [show ∀ z : ByteArray, (z == z) = true from fun z => (beqBA z z).2 rfl] at h1 h2 h3)
      all_goals
        repeat ((with_reducible show wpPerm _ _ _ _ ((_, true) :: _) _ _); (first | (refine wpPerm_on (v := ?_) rfl rfl (wanted_free rfl) (fun w' hS => ?_) ?_; rotate_left; (focus (go_simp; (try with_reducible rfl); done)); try simp only [List.setIfInBounds_toArray, List.set_cons_zero, List.set_cons_succ]) | (refine wpPerm_on (v := ?_) rfl rfl (wanted_yes rfl rfl rfl) (fun w' hS => ?_) ?_; rotate_left; (focus (go_simp; (try with_reducible rfl); done)); try simp only [List.setIfInBounds_toArray, List.set_cons_zero, List.set_cons_succ]) | (refine wpPerm_off rfl rfl (wanted_no rfl rfl rfl) ?_; try simp only [List.setIfInBounds_toArray, List.set_cons_zero, List.set_cons_succ]) | (refine wpPerm_off rfl rfl (wanted_undef rfl rfl rfl) ?_; try simp only [List.setIfInBounds_toArray, List.set_cons_zero, List.set_cons_succ])))
        refine wpPerm_done ?_
        clear F F2 F3 F4 h1 h2 h3 u30 u3 u9 u4 hp hmg
        have hbd := hwW.drew
        go_wp2
        go_ret
        exact ⟨ret_bool EE.out, hbd⟩
    · have hd : decide ((k : Int) < (n : Int)) = false := by simp; omega
      have e : L.hs = M.hs := by
        apply List.ext_getElem?
        intro j
        rcases Nat.lt_or_ge j n with h | h
        · exact HK.out j (by omega)
        · rw [List.getElem?_eq_none (by rw [E1.out]; exact h), List.getElem?_eq_none (by rw [E3.out]; exact h)]
      have HE0 := Lib.hid e
      clear e
      go_wp2_with fail
      have hdf : decide (k < n) = false := by simp; omega
      rw [hdf]
      clear hdf hd q1 q2 D1 D2 hge hk
      have hbW2 := hbw
      clear hbw hwW
      go_loopw [6] (fun i wr => ∃ k : Nat, Below W.heap.size W wr ∧ k ≤ n' ∧ i = .int .i64 k ∧ Hid (∀ j, j < k → L.ws[j]? = M.ws[j]?)) (fun i _ => n' - (intOf i).toNat)
      case atStart => exact ⟨0, hbW2, Nat.zero_le _, rfl, Lib.hid (fun j h => absurd h (by omega))⟩
      case round =>
        obtain ⟨k, hbw, hk, rfl, HK⟩ := hrel
        have D1 := C1.ext hbw
        have D2 := C2.ext hbw
        have q1 := D1.cell 1
        have q2 := D2.cell 1
        have hwW := Below.trans hbW (Below.mono hbw hbW.size)
        rcases Nat.lt_or_ge k n' with hlt | hge
        · have hd : decide ((k : Int) < (n' : Int)) = true := by simp; omega
          have hkn : (k : Int) < (n' : Int) := by omega
          obtain ⟨x, hx⟩ : ∃ x, L.ws[k]? = some x := ⟨_, List.getElem?_eq_getElem (by rw [E2.out]; exact hlt)⟩
          obtain ⟨y, hy⟩ : ∃ y, M.ws[k]? = some y := ⟨_, List.getElem?_eq_getElem (by rw [E4.out]; exact hlt)⟩
          obtain ⟨g, rfl, hg⟩ := r2.some_ (by rw [E2.out]; omega)
          obtain ⟨g', rfl, hg'⟩ := r4.some_ (by rw [E4.out]; omega)
          have HX := Lib.hid hx
          have HY := Lib.hid hy
          clear hx hy
          obtain ⟨xs, xt, xx⟩ := x
          obtain ⟨ys, yt, yx⟩ := y
          go_wp2_with fail
          have F := fun w' (h : Below wr.heap.size wr.drew w') => ((r2.ext (Below.trans hwW.drew (Below.mono h hwW.size))).at_ HX.out)
          have F2 := fun w' (h : Below wr.heap.size wr.drew w') => ((r4.ext (Below.trans hwW.drew (Below.mono h hwW.size))).at_ HY.out)
          have F3 := fun w' (h : Below wr.heap.size wr.drew w') => (D1.ext (Below.trans (Below.refl _ _).drew h)).cell 1
          have F4 := fun w' (h : Below wr.heap.size wr.drew w') => (D2.ext (Below.trans (Below.refl _ _).drew h)).cell 1
          refine wp_region_one [(0, true), (1, true), (2, true), (3, true), (4, true), (5, true), (6, true), (7, true), (8, true), (9, true), (10, true)] (by kernel_rfl) (by kernel_rfl) (by kernel_rfl) (by decide) ?_
          have u30 := Try.underlying46
          have u3 := Try.underlying3
          have u9 := Try.underlying9
          have u4 := Try.underlying4
          have hp := stood46
          have hmg := guard46
          cases h1 : (xs == ys) <;> cases h2 : (xt.toList == yt.toList) <;> cases h3 : (xx == yx)
          case true.true.true =>
            have e1 : (⟨xs, xt, xx⟩ : Hd) = ⟨ys, yt, yx⟩ := by
              rw [tl_beq] at h2
              simp only [beq_iff_eq, beqBA] at h1 h2 h3
              rw [h1, h2, h3]
            have EE := Lib.hid e1
            clear e1
            repeat ((with_reducible show wpPerm _ _ _ _ ((_, true) :: _) _ _); (first | (refine wpPerm_on (v := ?_) rfl rfl (wanted_free rfl) (fun w' hS => ?_) ?_; rotate_left; (focus (go_simp; (try with_reducible rfl); done)); try simp only [List.setIfInBounds_toArray, List.set_cons_zero, List.set_cons_succ]) | (refine wpPerm_on (v := ?_) rfl rfl (wanted_yes rfl rfl rfl) (fun w' hS => ?_) ?_; rotate_left; (focus (go_simp; (try with_reducible rfl); done)); try simp only [List.setIfInBounds_toArray, List.set_cons_zero, List.set_cons_succ]) | (refine wpPerm_off rfl rfl (wanted_no rfl rfl rfl) ?_; try simp only [List.setIfInBounds_toArray, List.set_cons_zero, List.set_cons_succ]) | (refine wpPerm_off rfl rfl (wanted_undef rfl rfl rfl) ?_; try simp only [List.setIfInBounds_toArray, List.set_cons_zero, List.set_cons_succ])))
            refine wpPerm_done ?_
            clear F F2 F3 F4 h1 h2 h3 u30 u3 u9 u4 hp hmg
            have hbd := hbw.drew
            go_wp2
            go_roundw
            case rel =>
              refine ⟨k + 1, hbd, by omega, by go_num, Lib.hid (fun j hj => ?_)⟩
              by_cases hjk : j = k
              · subst hjk
                rw [HX.out, HY.out, EE.out]
              · exact HK.out j (by omega)
            case measure => simp [intOf]; omega
          all_goals
            have EE : Hid (false = p) := Lib.hid (by
              rw [← HP.out]
              symm
              simp only [decide_eq_false_iff_not]
              intro e
              have h4 := HX.out
              rw [e, HY.out] at h4
              injection h4 with h4
              injection h4 with h5 h6 h7
              rw [tl_beq] at h2
              subst h5 h6 h7
              simp [show ∀ z : ByteArray, (z == z) = true from fun z => (beqBA z z).2 rfl] at h1 h2 h3)
          all_goals
            repeat ((with_reducible show wpPerm _ _ _ _ ((_, true) :: _) _ _); (first | (refine wpPerm_on (v := ?_) rfl rfl (wanted_free rfl) (fun w' hS => ?_) ?_; rotate_left; (focus (go_simp; (try with_reducible rfl); done)); try simp only [List.setIfInBounds_toArray, List.set_cons_zero, List.set_cons_succ]) | (refine wpPerm_on (v := ?_) rfl rfl (wanted_yes rfl rfl rfl) (fun w' hS => ?_) ?_; rotate_left; (focus (go_simp; (try with_reducible rfl); done)); try simp only [List.setIfInBounds_toArray, List.set_cons_zero, List.set_cons_succ]) | (refine wpPerm_off rfl rfl (wanted_no rfl rfl rfl) ?_; try simp only [List.setIfInBounds_toArray, List.set_cons_zero, List.set_cons_succ]) | (refine wpPerm_off rfl rfl (wanted_undef rfl rfl rfl) ?_; try simp only [List.setIfInBounds_toArray, List.set_cons_zero, List.set_cons_succ])))
            refine wpPerm_done ?_
            clear F F2 F3 F4 h1 h2 h3 u30 u3 u9 u4 hp hmg
            have hbd := hwW.drew
            go_wp2
            go_ret
            exact ⟨ret_bool EE.out, hbd⟩
        · have hd : decide ((k : Int) < (n' : Int)) = false := by simp; omega
          have e : L.ws = M.ws := by
            apply List.ext_getElem?
            intro j
            rcases Nat.lt_or_ge j n' with h | h
            · exact HK.out j (by omega)
            · rw [List.getElem?_eq_none (by rw [E2.out]; exact h), List.getElem?_eq_none (by rw [E4.out]; exact h)]
          have HE1 := Lib.hid e
          clear e
          have e2 : true = p := by
            rw [← HP.out]
            symm
            obtain ⟨a, b⟩ := L
            obtain ⟨c, d⟩ := M
            have h0 := HE0.out
            have h1 := HE1.out
            simp only at h0 h1
            simp [h0, h1]
          have E9 := Lib.hid e2
          clear e2
          go_wp2
          go_ret
          exact ⟨ret_bool E9.out, hwW⟩
end Go.Proofs.Ytlfonenjgchklaa.lk
