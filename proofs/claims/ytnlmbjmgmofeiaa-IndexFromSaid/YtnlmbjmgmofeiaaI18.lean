/- Contract: law11's at. -/
import Derived.Test.YtnlmbjmgmofeiaaI16
import Derived.Laws.StructEq
namespace Go.Proofs.Ytnlmbjmgmofeiaa.ix
open Go.ChangeShapes Go.WideShapes Go.ChangeAt Go.RowKit Go.Proofs.Ytnlmbjmgmofeiaa.lib Go.Proofs.Ytnlmbjmgmofeiaa.val Go.Proofs.Ytnlmbjmgmofeiaa.tb
set_option linter.unusedVariables false

/-- a row of a key, or none -/
def AtP (key : Nat) (rows : List (List V)) (kv : V) (i : Int) : Prop := (i = -1 ∧ ∀ r ∈ rows, (enR key key r).v ≠ kv) ∨ ∃ (m : Nat) (r : List V), i = (m : Int) ∧ rows[m]? = some r ∧ (enR key key r).v = kv
set_option maxRecDepth 1000000 in
set_option maxHeartbeats 4000000 in
theorem at_ (rows : List (List V)) (key : Nat) (kv : V) (lo : Nat) (A : Option Addr) (n c : Nat) (w : World) (hr : Rs w lo A n c rows) (hn : n ≤ 5000) (hok : ∀ r ∈ rows, RowN key key r) :
    Calls Try.prog 22 #[.slice A n c, .int .i64 key, .agg #[.int .i64 kv.k, .int .i64 kv.n, .string kv.s]] w fun e w' => ∃ i, e = .returned (.int .i64 i) ∧ AtP key rows kv i ∧ Below w.heap.size w w' := by
  have HL := Lib.hid hr.len
  have HOK := Lib.hid hok
  clear hok
  obtain ⟨k0, k1, k2⟩ := kv
  simp only
  obtain ⟨kv, hkv⟩ : ∃ kv : V, kv = ⟨k0, k1, k2⟩ := ⟨_, rfl⟩
  rw [← hkv]
  have HKV := Lib.hid hkv
  clear hkv
  go_enter Try.func22, Try.ntmps22
  go_upto_region 1 with fail
  obtain ⟨W, hW_, hbW, BV⟩ : ∃ W_, W_ = (w.alloc (.cells #[.int .i64 k0, .int .i64 k1, .string k2] 41)) ∧ Below w.heap.size w W_ ∧ Blk W_ (w.heap.size) 41 #[.int .i64 k0, .int .i64 k1, .string k2] :=
    ⟨_, rfl, ((Below.refl _ _).alloc (Nat.le_refl _) _), (blk_new_at w (w.heap.size) _ _ (by simp))⟩
  rw [← hW_]
  clear hW_
  have hrW := hr.ext hbW
  go_wp2_with fail
  go_loopw [7] (fun i w' => ∃ k : Nat, Below W.heap.size W w' ∧ k ≤ n ∧ i = .int .i64 k ∧ ∀ r ∈ rows.take k, (enR key key r).v ≠ kv) (fun i _ => n - (intOf i).toNat)
  case atStart => exact ⟨0, Below.refl _ _, Nat.zero_le _, rfl, by simp⟩
  case round =>
    obtain ⟨k, hbw, hk, rfl, hno⟩ := hrel
    have HNO := Lib.hid hno
    clear hno
    rcases Nat.lt_or_ge k n with hlt | hge
    case inr =>
      have hd : decide ((k : Int) < (n : Int)) = false := by simp; omega
      go_wp2
      go_ret
      exact ⟨-1, rfl, .inl ⟨rfl, fun r hr => HNO.out r (by rw [List.take_of_length_le (by rw [HL.out]; exact hge)]; exact hr)⟩, Below.trans hbW (Below.mono hbw hbW.size)⟩
    have hd : decide ((k : Int) < (n : Int)) = true := by simp; omega
    have hkn : (k : Int) < (n : Int) := by omega
    obtain ⟨x, hx⟩ : ∃ x, rows[k]? = some x := ⟨_, List.getElem?_eq_getElem (by rw [HL.out]; exact hlt)⟩
    obtain ⟨b, o, rfl, _, _, hb⟩ := hrW.some_ (by omega)
    obtain ⟨A1, c1, q1, v1⟩ := hrW.at_ hx
    have hrn := HOK.out x (List.mem_of_getElem? hx)
    have RXc := hrn.colAt
    have hxc : (key : Int) < (x.length : Int) := by have := hrn.colLt; omega
    obtain ⟨b5, o5, rfl, _, _, hb5l⟩ := v1.1.some_ (by have := hrn.colLt; omega)
    have HX := Lib.hid hx
    clear hx hrn
    obtain ⟨xv, hxv⟩ : ∃ xv, (enR key key x).v = xv := ⟨_, rfl⟩
    rw [hxv] at RXc
    have HXV := Lib.hid hxv
    clear hxv
    obtain ⟨x0, x1, x2⟩ := xv
    have hcs : (x0 = k0 ∧ x1 = k1 ∧ x2 = k2) ∨ ((enR key key x).v ≠ kv ∧ ((x0 == k0) = false ∨ (x0 = k0 ∧ (x1 == k1) = false) ∨ (x0 = k0 ∧ x1 = k1 ∧ (x2.toList == k2.toList) = false))) := by
      rw [HXV.out, HKV.out, tl_beq]
      by_cases e0 : x0 = k0
      · by_cases e1 : x1 = k1
        · by_cases e2 : x2 = k2
          · exact .inl ⟨e0, e1, e2⟩
          · exact .inr ⟨fun h => e2 (by injection h), .inr (.inr ⟨e0, e1, by rw [Bool.eq_false_iff]; exact fun h => e2 ((beqBA _ _).1 h)⟩)⟩
        · exact .inr ⟨fun h => e1 (by injection h), .inr (.inl ⟨e0, by simpa using e1⟩)⟩
      · exact .inr ⟨fun h => e0 (by injection h), .inl (by simpa using e0)⟩
    rcases hcs with ⟨rfl, rfl, rfl⟩ | ⟨hne, hcs⟩
    · go_wp2_with fail
      have D := fun w' (h : Below wr.heap.size wr.drew w') => ((Below.trans hbw.drew (Below.mono h hbw.size)).cell (p := ⟨b, o + k, none⟩) hb).trans q1
      have D1 := fun w' (h : Below wr.heap.size wr.drew w') => (v1.ext (Below.trans hbw.drew (Below.mono h hbw.size))).at_ RXc
      have D2 := fun w' (h : Below wr.heap.size wr.drew w') => BV.three (Below.trans hbw.drew (Below.mono h hbw.size))
      refine wp_region_one [(0, true), (1, true), (2, true), (3, true), (4, true), (5, true), (6, true), (7, true), (8, true)] (by kernel_rfl) (by kernel_rfl) (by kernel_rfl) (by decide) ?_
      have u30 := Try.underlying41
      have u3 := Try.underlying3
      have u9 := Try.underlying9
      have u4 := Try.underlying4
      have hp := stoodV
      have hmg := guardV
      repeat ((with_reducible show wpPerm _ _ _ _ ((_, true) :: _) _ _); (first | (refine wpPerm_on (v := ?_) rfl rfl (wanted_free rfl) (fun w' hS => ?_) ?_; rotate_left; (focus (go_simp; (try with_reducible rfl); done)); try simp only [List.setIfInBounds_toArray, List.set_cons_zero, List.set_cons_succ]) | (refine wpPerm_on (v := ?_) rfl rfl (wanted_yes rfl rfl rfl) (fun w' hS => ?_) ?_; rotate_left; (focus (go_simp; (try with_reducible rfl); done)); try simp only [List.setIfInBounds_toArray, List.set_cons_zero, List.set_cons_succ]) | (refine wpPerm_off rfl rfl (wanted_no rfl rfl rfl) ?_; try simp only [List.setIfInBounds_toArray, List.set_cons_zero, List.set_cons_succ]) | (refine wpPerm_off rfl rfl (wanted_undef rfl rfl rfl) ?_; try simp only [List.setIfInBounds_toArray, List.set_cons_zero, List.set_cons_succ])))
      refine wpPerm_done ?_
      clear D D1 D2 u30 u3 u9 u4 hp hmg
      have hbd := hbw.drew
      go_wp2
      go_ret
      exact ⟨(k : Int), rfl, .inr ⟨k, x, rfl, HX.out, by rw [HXV.out, HKV.out]⟩, Below.trans hbW (Below.mono hbd hbW.size)⟩
    have HNE := Lib.hid hne
    clear hne
    rcases hcs with d0 | ⟨rfl, d1⟩ | ⟨rfl, rfl, d2⟩
    all_goals
      go_wp2_with fail
      have D := fun w' (h : Below wr.heap.size wr.drew w') => ((Below.trans hbw.drew (Below.mono h hbw.size)).cell (p := ⟨b, o + k, none⟩) hb).trans q1
      have D1 := fun w' (h : Below wr.heap.size wr.drew w') => (v1.ext (Below.trans hbw.drew (Below.mono h hbw.size))).at_ RXc
      have D2 := fun w' (h : Below wr.heap.size wr.drew w') => BV.three (Below.trans hbw.drew (Below.mono h hbw.size))
      refine wp_region_one [(0, true), (1, true), (2, true), (3, true), (4, true), (5, true), (6, true), (7, true), (8, true)] (by kernel_rfl) (by kernel_rfl) (by kernel_rfl) (by decide) ?_
      have u30 := Try.underlying41
      have u3 := Try.underlying3
      have u9 := Try.underlying9
      have u4 := Try.underlying4
      have hp := stoodV
      have hmg := guardV
      repeat ((with_reducible show wpPerm _ _ _ _ ((_, true) :: _) _ _); (first | (refine wpPerm_on (v := ?_) rfl rfl (wanted_free rfl) (fun w' hS => ?_) ?_; rotate_left; (focus (go_simp; (try with_reducible rfl); done)); try simp only [List.setIfInBounds_toArray, List.set_cons_zero, List.set_cons_succ]) | (refine wpPerm_on (v := ?_) rfl rfl (wanted_yes rfl rfl rfl) (fun w' hS => ?_) ?_; rotate_left; (focus (go_simp; (try with_reducible rfl); done)); try simp only [List.setIfInBounds_toArray, List.set_cons_zero, List.set_cons_succ]) | (refine wpPerm_off rfl rfl (wanted_no rfl rfl rfl) ?_; try simp only [List.setIfInBounds_toArray, List.set_cons_zero, List.set_cons_succ]) | (refine wpPerm_off rfl rfl (wanted_undef rfl rfl rfl) ?_; try simp only [List.setIfInBounds_toArray, List.set_cons_zero, List.set_cons_succ])))
      refine wpPerm_done ?_
      clear D D1 D2 u30 u3 u9 u4 hp hmg
      have hbd := hbw.drew
      go_wp2
      go_roundw
      case rel =>
        refine ⟨k + 1, hbd, by omega, by go_num, fun r hr => ?_⟩
        rw [List.take_add_one, HX.out, Option.toList_some] at hr
        rcases List.mem_append.1 hr with hr | hr
        · exact HNO.out r hr
        · rw [List.mem_singleton.1 hr]; exact HNE.out
      case measure => simp [intOf]; omega
end Go.Proofs.Ytnlmbjmgmofeiaa.ix
