/- Contracts: slices.Equal of holds, lock.Same. -/
import Derived.Test.YtlfonenjgchklaaFin
import Derived.Test.YtlfonenjgchklaaS
import Derived.Laws.StructEq
namespace Go.Proofs.Ytlfonenjgchklaa.lk
open Go.ChangeShapes Go.WideShapes Go.ChangeAt Go.RowKit Go.Proofs.Ytlfonenjgchklaa.lib
set_option linter.unusedVariables false

theorem stood30 : Try.prog.stoodInHeld 30 = false := by kernel_rfl
theorem guard30 : Try.prog.eqGuardType Try.prog.depth 30 = false := by kernel_rfl
theorem neq30 (a0 b0 : Int) (a1 b1 : ByteArray) (a2 b2 : Bool) (w : World) : (Go.binOp .neq 30 (.agg #[.int .i64 a0, .string a1, .bool a2]) (.agg #[.int .i64 b0, .string b1, .bool b2])).run Try.prog w = .ok (.bool (!(a0 == b0 && (a1 == b1 && a2 == b2)))) w := by
  have u30 := Try.underlying30
  have u3 := Try.underlying3
  have u9 := Try.underlying9
  have u4 := Try.underlying4
  have hp := stood30
  rw [← tl_beq a1 b1]
  rw [run_neq_struct, show (10000 : Nat) = 9999 + 1 from rfl, run_equalIn_agg _ _ _ _ _ (by simp [Program.fieldsOf, u30]) hp]
  cases h1 : a0 == b0 <;> cases h2 : a1.toList == b1.toList <;> cases h3 : a2 == b2 <;> simp [Program.fieldsOf, u30, Op.eqFields, go_sem, u3, u9, u4, h1, h2, h3]
set_option maxHeartbeats 2000000 in
theorem equal_ (l m : List Hd) (A A' : Option Addr) (n c n' c' : Nat) (w : World) (hl : l.length = n) (hm : m.length = n') (hn : n ≤ 100000) (hr : Hs w A l) (hr' : Hs w A' m) :
    Calls Try.prog 34 #[.slice A n c, .slice A' n' c'] w fun e w' => e = .returned (.bool (decide (l = m))) ∧ Below w.heap.size w w' := by
  have HL := Lib.hid hl
  have HM := Lib.hid hm
  clear hl hm
  obtain ⟨p, hp⟩ : ∃ p, decide (l = m) = p := ⟨_, rfl⟩
  rw [hp]
  have HP := Lib.hid hp
  clear hp
  by_cases hnn : n = n'
  · subst hnn
    go_enter Try.func34, Try.ntmps34
    go_wp2
    go_loopw [13] (fun i w' => ∃ k : Nat, Below w.heap.size w w' ∧ k ≤ n ∧ i = .int .i64 k ∧ Hid (∀ j, j < k → l[j]? = m[j]?)) (fun i _ => n - (intOf i).toNat)
    case atStart => exact ⟨0, Below.refl _ _, Nat.zero_le _, rfl, Lib.hid (fun j h => absurd h (by omega))⟩
    case round =>
      obtain ⟨k, hbw, hk, rfl, HK⟩ := hrel
      rcases Nat.lt_or_ge k n with hlt | hge
      · have hd : decide ((k : Int) < (n : Int)) = true := by simp; omega
        have hkn : (k : Int) < (n : Int) := by omega
        obtain ⟨x, hx⟩ : ∃ x, l[k]? = some x := ⟨_, List.getElem?_eq_getElem (by rw [HL.out]; exact hlt)⟩
        obtain ⟨y, hy⟩ : ∃ y, m[k]? = some y := ⟨_, List.getElem?_eq_getElem (by rw [HM.out]; exact hlt)⟩
        obtain ⟨g, rfl, hg⟩ := hr.some_ (by rw [HL.out]; omega)
        obtain ⟨g', rfl, hg'⟩ := hr'.some_ (by rw [HM.out]; omega)
        have HX := Lib.hid hx
        have HY := Lib.hid hy
        clear hx hy
        obtain ⟨xs, xt, xx⟩ := x
        obtain ⟨ys, yt, yx⟩ := y
        go_wp2_with fail
        have D := fun w' (h : Below wr.heap.size wr.drew w') => ((hr.ext (Below.trans hbw.drew (Below.mono h hbw.size))).at_ HX.out)
        have D2 := fun w' (h : Below wr.heap.size wr.drew w') => ((hr'.ext (Below.trans hbw.drew (Below.mono h hbw.size))).at_ HY.out)
        refine wp_region_one [(0, true), (1, true), (2, true), (3, true), (4, true), (5, true), (6, true), (7, true), (8, true)] (by kernel_rfl) (by kernel_rfl) (by kernel_rfl) (by decide) ?_
        have u30 := Try.underlying30
        have u3 := Try.underlying3
        have u9 := Try.underlying9
        have u4 := Try.underlying4
        have hp := stood30
        have hmg := guard30
        cases h1 : (xs == ys) <;> cases h2 : (xt.toList == yt.toList) <;> cases h3 : (xx == yx)
        case true.true.true =>
          have e1 : (⟨xs, xt, xx⟩ : Hd) = ⟨ys, yt, yx⟩ := by
            rw [tl_beq] at h2
            simp only [beq_iff_eq, beqBA] at h1 h2 h3
            rw [h1, h2, h3]
          have E1 := Lib.hid e1
          clear e1
          repeat ((with_reducible show wpPerm _ _ _ _ ((_, true) :: _) _ _); (first | (refine wpPerm_on (v := ?_) rfl rfl (wanted_free rfl) (fun w' hS => ?_) ?_; rotate_left; (focus (go_simp; (try with_reducible rfl); done)); try simp only [List.setIfInBounds_toArray, List.set_cons_zero, List.set_cons_succ]) | (refine wpPerm_on (v := ?_) rfl rfl (wanted_yes rfl rfl rfl) (fun w' hS => ?_) ?_; rotate_left; (focus (go_simp; (try with_reducible rfl); done)); try simp only [List.setIfInBounds_toArray, List.set_cons_zero, List.set_cons_succ]) | (refine wpPerm_off rfl rfl (wanted_no rfl rfl rfl) ?_; try simp only [List.setIfInBounds_toArray, List.set_cons_zero, List.set_cons_succ]) | (refine wpPerm_off rfl rfl (wanted_undef rfl rfl rfl) ?_; try simp only [List.setIfInBounds_toArray, List.set_cons_zero, List.set_cons_succ])))
          refine wpPerm_done ?_
          clear D D2 h1 h2 h3 u30 u3 u9 u4 hp hmg
          have hbd := hbw.drew
          go_wp2
          go_roundw
          case rel =>
            refine ⟨k + 1, hbd, by omega, by go_num, Lib.hid (fun j hj => ?_)⟩
            by_cases hjk : j = k
            · subst hjk
              rw [HX.out, HY.out, E1.out]
            · exact HK.out j (by omega)
          case measure => simp [intOf]; omega
        all_goals
          have E1 : Hid (false = p) := Lib.hid (by
            rw [← HP.out]
            symm
            simp only [decide_eq_false_iff_not]
            intro e
            have h4 := HX.out
            rw [e, HY.out] at h4
            injection h4 with h4
            injection h4 with h5 h6 h7
            rw [tl_beq] at h2
            subst h5 h6 h7
            simp [show ∀ z : ByteArray, (z == z) = true from fun z => (beqBA z z).2 rfl] at h1 h2 h3)
        all_goals
          repeat ((with_reducible show wpPerm _ _ _ _ ((_, true) :: _) _ _); (first | (refine wpPerm_on (v := ?_) rfl rfl (wanted_free rfl) (fun w' hS => ?_) ?_; rotate_left; (focus (go_simp; (try with_reducible rfl); done)); try simp only [List.setIfInBounds_toArray, List.set_cons_zero, List.set_cons_succ]) | (refine wpPerm_on (v := ?_) rfl rfl (wanted_yes rfl rfl rfl) (fun w' hS => ?_) ?_; rotate_left; (focus (go_simp; (try with_reducible rfl); done)); try simp only [List.setIfInBounds_toArray, List.set_cons_zero, List.set_cons_succ]) | (refine wpPerm_off rfl rfl (wanted_no rfl rfl rfl) ?_; try simp only [List.setIfInBounds_toArray, List.set_cons_zero, List.set_cons_succ]) | (refine wpPerm_off rfl rfl (wanted_undef rfl rfl rfl) ?_; try simp only [List.setIfInBounds_toArray, List.set_cons_zero, List.set_cons_succ])))
          refine wpPerm_done ?_
          clear D D2 h1 h2 h3 u30 u3 u9 u4 hp hmg
          have hbd := hbw.drew
          go_wp2
          go_ret
          exact ⟨ret_bool E1.out, hbd⟩
      · have hd : decide ((k : Int) < (n : Int)) = false := by simp; omega
        have e : l = m := by
          apply List.ext_getElem?
          intro j
          rcases Nat.lt_or_ge j n with h | h
          · exact HK.out j (by omega)
          · rw [List.getElem?_eq_none (by rw [HL.out]; exact h), List.getElem?_eq_none (by rw [HM.out]; exact h)]
        have e2 : true = p := by rw [← HP.out]; simp [e]
        clear e
        have E2 := Lib.hid e2
        clear e2
        go_wp2
        go_ret
        exact ⟨ret_bool E2.out, hbw⟩
  · have E : Hid (false = p) := Lib.hid (by
      rw [← HP.out]
      symm
      simp only [decide_eq_false_iff_not]
      rintro rfl
      exact hnn (HL.out.symm.trans HM.out))
    have hd : ((n : Int) != (n' : Int)) = true := by simp; omega
    go_enter Try.func34, Try.ntmps34
    go_wp2
    go_ret
    exact ⟨ret_bool E.out, Below.refl _ _⟩
theorem same_ (L M : Lk) (v u : Value) (w : World) (hL : LkR w v L) (hM : LkR w u M) (h1 : L.hs.length ≤ 100000) (h2 : L.ws.length ≤ 100000) :
    Calls Try.prog 21 #[v, u] w fun e w' => e = .returned (.bool (decide (L = M))) ∧ Below w.heap.size w w' := by
  obtain ⟨A, n, c, A', n', c', rfl, e1, r1, e2, r2⟩ := hL
  obtain ⟨B, m, d, B', m', d', rfl, e3, r3, e4, r4⟩ := hM
  have E1 := Lib.hid e1
  have E2 := Lib.hid e2
  have E3 := Lib.hid e3
  have E4 := Lib.hid e4
  have hn : n ≤ 100000 := by omega
  have hn' : n' ≤ 100000 := by omega
  clear e1 e2 e3 e4 h1 h2
  have hdec : decide (L = M) = (decide (L.hs = M.hs) && decide (L.ws = M.ws)) := by
    obtain ⟨a, b⟩ := L
    obtain ⟨c, d⟩ := M
    simp
  rw [hdec]
  clear hdec
  obtain ⟨p, hp⟩ : ∃ p, decide (L.hs = M.hs) = p := ⟨_, rfl⟩
  obtain ⟨q, hq⟩ : ∃ q, decide (L.ws = M.ws) = q := ⟨_, rfl⟩
  rw [hp, hq]
  have HP := Lib.hid hp
  have HQ := Lib.hid hq
  clear hp hq
  go_enter Try.func21, Try.ntmps21
  go_wp2_with fail
  obtain ⟨W, hW_, hbW, C1, C2⟩ : ∃ W_, W_ = ((w.alloc (.cells #[.slice A n c, .slice A' n' c'] 26)).alloc (.cells #[.slice B m d, .slice B' m' d'] 26)) ∧ Below w.heap.size w W_ ∧ Blk W_ (w.heap.size) 26 #[.slice A n c, .slice A' n' c'] ∧ Blk W_ (w.heap.size + 1) 26 #[.slice B m d, .slice B' m' d'] :=
    ⟨_, rfl, (((Below.refl _ _).alloc (Nat.le_refl _) _).alloc (by simp; try omega) _), ((blk_new_at w (w.heap.size) _ _ (by simp)).alloc _), (blk_new_at (w.alloc (.cells #[.slice A n c, .slice A' n' c'] 26)) (w.heap.size + 1) _ _ (by simp))⟩
  rw [← hW_]
  clear hW_
  have q1 := C1.cell 0
  have q1' := C2.cell 0
  go_wp2_with fail
  refine (equal_ L.hs M.hs A B n c m d _ E1.out E3.out hn (r1.ext hbW) (r3.ext hbW)).mono ?_
  rintro e w1 ⟨rfl, hb1⟩
  rw [HP.out]
  have h1 := Below.trans hbW (Below.mono hb1 hbW.size)
  clear q1 q1'
  have q1 := (C1.ext hb1).cell 1
  have q1' := (C2.ext hb1).cell 1
  cases p with
  | false =>
    go_wp2
    go_ret
    exact ⟨rfl, h1⟩
  | true =>
    go_wp2_with fail
    refine (equal_ L.ws M.ws A' B' n' c' m' d' _ E2.out E4.out hn' (r2.ext h1) (r4.ext h1)).mono ?_
    rintro e w2 ⟨rfl, hb2⟩
    rw [HQ.out]
    go_wp2
    go_ret
    exact ⟨ret_bool (by simp), Below.trans h1 (Below.mono hb2 h1.size)⟩
end Go.Proofs.Ytlfonenjgchklaa.lk
