/- Contracts: the same rows, schemas, tables are the same. -/
import Derived.Test.YtnlmbjmgmofeiaaT13
namespace Go.Proofs.Ytnlmbjmgmofeiaa.tb
open Go.ChangeShapes Go.WideShapes Go.ChangeAt Go.RowKit Go.Proofs.Ytnlmbjmgmofeiaa.lib Go.Proofs.Ytnlmbjmgmofeiaa.val
set_option linter.unusedVariables false

set_option maxHeartbeats 2000000 in
theorem rrowSame_ (l : List V) (lo lo' : Nat) (A A' : Option Addr) (n c n' c' : Nat) (w : World) (hn : n ≤ 100000) (hr : Vs w lo A n c l) (hr' : Vs w lo' A' n' c' l) :
    Calls Try.prog 17 #[.slice A n c, .slice A' n' c'] w fun e w' => e = .returned (.bool true) ∧ Below w.heap.size w w' := by
  have HL := Lib.hid hr.2
  obtain rfl : n = n' := hr.2.symm.trans hr'.2
  go_enter Try.func17, Try.ntmps17
  go_wp2
  go_loopw [5] (fun i w' => ∃ k : Nat, Below w.heap.size w w' ∧ k ≤ n ∧ i = .int .i64 k) (fun i _ => n - (intOf i).toNat)
  case atStart => exact ⟨0, Below.refl _ _, Nat.zero_le _, rfl⟩
  case round =>
    obtain ⟨k, hbw, hk, rfl⟩ := hrel
    rcases Nat.lt_or_ge k n with hlt | hge
    · have hd : decide ((k : Int) < (n : Int)) = true := by simp; omega
      have hkn : (k : Int) < (n : Int) := by omega
      obtain ⟨x, hx⟩ : ∃ x, l[k]? = some x := ⟨_, List.getElem?_eq_getElem (by rw [HL.out]; exact hlt)⟩
      obtain ⟨g, o, rfl, _, _, hg⟩ := hr.1.some_ (by omega)
      obtain ⟨g', o', rfl, _, _, hg'⟩ := hr'.1.some_ (by omega)
      have HX := Lib.hid hx
      clear hx
      obtain ⟨x0, x1, x2⟩ := x
      go_wp2_with fail
      have D := fun w' (h : Below wr.heap.size wr.drew w') => ((hr.ext (Below.trans hbw.drew (Below.mono h hbw.size))).at_ HX.out)
      have D2 := fun w' (h : Below wr.heap.size wr.drew w') => ((hr'.ext (Below.trans hbw.drew (Below.mono h hbw.size))).at_ HX.out)
      refine wp_region_one [(0, true), (1, true), (2, true), (3, true), (4, true), (5, true), (6, true), (7, true), (8, true)] (by kernel_rfl) (by kernel_rfl) (by kernel_rfl) (by decide) ?_
      have u30 := Try.underlying41
      have u3 := Try.underlying3
      have u9 := Try.underlying9
      have u4 := Try.underlying4
      have hp := stoodV
      have hmg := guardV
      repeat ((with_reducible show wpPerm _ _ _ _ ((_, true) :: _) _ _); (first | (refine wpPerm_on (v := ?_) rfl rfl (wanted_free rfl) (fun w' hS => ?_) ?_; rotate_left; (focus (go_simp; (try with_reducible rfl); done)); try simp only [List.setIfInBounds_toArray, List.set_cons_zero, List.set_cons_succ]) | (refine wpPerm_on (v := ?_) rfl rfl (wanted_yes rfl rfl rfl) (fun w' hS => ?_) ?_; rotate_left; (focus (go_simp; (try with_reducible rfl); done)); try simp only [List.setIfInBounds_toArray, List.set_cons_zero, List.set_cons_succ]) | (refine wpPerm_off rfl rfl (wanted_no rfl rfl rfl) ?_; try simp only [List.setIfInBounds_toArray, List.set_cons_zero, List.set_cons_succ]) | (refine wpPerm_off rfl rfl (wanted_undef rfl rfl rfl) ?_; try simp only [List.setIfInBounds_toArray, List.set_cons_zero, List.set_cons_succ])))
      refine wpPerm_done ?_
      clear D D2 u30 u3 u9 u4 hp hmg
      have hbd := hbw.drew
      go_wp2
      go_roundw
      case rel => exact ⟨k + 1, hbd, by omega, by go_num⟩
      case measure => simp [intOf]; omega
    · have hd : decide ((k : Int) < (n : Int)) = false := by simp; omega
      go_wp2
      go_ret
      exact ⟨rfl, hbw⟩
end Go.Proofs.Ytnlmbjmgmofeiaa.tb
