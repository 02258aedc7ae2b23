/- Contracts: the same rows, schemas, tables are the same. -/
import Derived.Test.YtalfacbkofgdjaaT13
namespace Go.Proofs.Ytalfacbkofgdjaa.tb
open Go.ChangeShapes Go.WideShapes Go.ChangeAt Go.RowKit Go.Proofs.Ytalfacbkofgdjaa.lib Go.Proofs.Ytalfacbkofgdjaa.val
set_option linter.unusedVariables false

theorem rowSame_ (l : List V) (lo lo' : Nat) (A A' : Option Addr) (n c n' c' : Nat) (w : World) (hn : n ≤ 100000) (hr : Vs w lo A n c l) (hr' : Vs w lo' A' n' c' l) :
    Calls Try.prog 47 #[.slice A n c, .slice A' n' c'] w fun e w' => e = .returned (.bool true) ∧ Below w.heap.size w w' := by
  go_enter Try.func47, Try.ntmps47
  go_wp2_with fail
  refine (equalV l lo lo' A A' n c n' c' _ hn hr hr').mono ?_
  rintro e w1 ⟨rfl, hb1⟩
  go_wp2
  go_ret
  exact ⟨rfl, hb1⟩
set_option maxHeartbeats 2000000 in
theorem rrowSame_ (l : List V) (lo lo' : Nat) (A A' : Option Addr) (n c n' c' : Nat) (w : World) (hn : n ≤ 100000) (hr : Vs w lo A n c l) (hr' : Vs w lo' A' n' c' l) :
    Calls Try.prog 26 #[.slice A n c, .slice A' n' c'] w fun e w' => e = .returned (.bool true) ∧ Below w.heap.size w w' := by
  have HL := Lib.hid hr.2
  obtain rfl : n = n' := hr.2.symm.trans hr'.2
  go_enter Try.func26, Try.ntmps26
  go_wp2
  go_loopw [5] (fun i w' => ∃ k : Nat, Below w.heap.size w w' ∧ k ≤ n ∧ i = .int .i64 k) (fun i _ => n - (intOf i).toNat)
  case atStart => exact ⟨0, Below.refl _ _, Nat.zero_le _, rfl⟩
  case round =>
    obtain ⟨k, hbw, hk, rfl⟩ := hrel
    rcases Nat.lt_or_ge k n with hlt | hge
    · have hd : decide ((k : Int) < (n : Int)) = true := by simp; omega
      have hkn : (k : Int) < (n : Int) := by omega
      obtain ⟨x, hx⟩ : ∃ x, l[k]? = some x := ⟨_, List.getElem?_eq_getElem (by rw [HL.out]; exact hlt)⟩
      obtain ⟨g, o, rfl, _, _, hg⟩ := hr.1.some_ (by omega)
      obtain ⟨g', o', rfl, _, _, hg'⟩ := hr'.1.some_ (by omega)
      have HX := Lib.hid hx
      clear hx
      obtain ⟨x0, x1, x2⟩ := x
      go_wp2_with fail
      have D := fun w' (h : Below wr.heap.size wr.drew w') => ((hr.ext (Below.trans hbw.drew (Below.mono h hbw.size))).at_ HX.out)
      have D2 := fun w' (h : Below wr.heap.size wr.drew w') => ((hr'.ext (Below.trans hbw.drew (Below.mono h hbw.size))).at_ HX.out)
      refine wp_region_one [(0, true), (1, true), (2, true), (3, true), (4, true), (5, true), (6, true), (7, true), (8, true)] (by kernel_rfl) (by kernel_rfl) (by kernel_rfl) (by decide) ?_
      have u30 := Try.underlying39
      have u3 := Try.underlying3
      have u9 := Try.underlying9
      have u4 := Try.underlying4
      have hp := stoodV
      have hmg := guardV
      repeat ((with_reducible show wpPerm _ _ _ _ ((_, true) :: _) _ _); (first | (refine wpPerm_on (v := ?_) rfl rfl (wanted_free rfl) (fun w' hS => ?_) ?_; rotate_left; (focus (go_simp; (try with_reducible rfl); done)); try simp only [List.setIfInBounds_toArray, List.set_cons_zero, List.set_cons_succ]) | (refine wpPerm_on (v := ?_) rfl rfl (wanted_yes rfl rfl rfl) (fun w' hS => ?_) ?_; rotate_left; (focus (go_simp; (try with_reducible rfl); done)); try simp only [List.setIfInBounds_toArray, List.set_cons_zero, List.set_cons_succ]) | (refine wpPerm_off rfl rfl (wanted_no rfl rfl rfl) ?_; try simp only [List.setIfInBounds_toArray, List.set_cons_zero, List.set_cons_succ]) | (refine wpPerm_off rfl rfl (wanted_undef rfl rfl rfl) ?_; try simp only [List.setIfInBounds_toArray, List.set_cons_zero, List.set_cons_succ])))
      refine wpPerm_done ?_
      clear D D2 u30 u3 u9 u4 hp hmg
      have hbd := hbw.drew
      go_wp2
      go_roundw
      case rel => exact ⟨k + 1, hbd, by omega, by go_num⟩
      case measure => simp [intOf]; omega
    · have hd : decide ((k : Int) < (n : Int)) = false := by simp; omega
      go_wp2
      go_ret
      exact ⟨rfl, hbw⟩
set_option maxHeartbeats 2000000 in
theorem eqFunc_ (rows : List (List V)) (lo lo' : Nat) (A A' : Option Addr) (n c n' c' : Nat) (w : World) (hn : n ≤ 100000) (hl : ∀ r ∈ rows, r.length ≤ 100000) (hr : Rs w lo A n c rows) (hr' : Rs w lo' A' n' c' rows) :
    Calls Try.prog 46 #[.slice A n c, .slice A' n' c', .func (.func 47) #[] #[]] w fun e w' => e = .returned (.bool true) ∧ Below w.heap.size w w' := by
  have HL := Lib.hid hr.len
  have HS := Lib.hid hl
  obtain rfl : n = n' := hr.len.symm.trans hr'.len
  clear hl
  go_enter Try.func46, Try.ntmps46
  go_wp2
  go_loopw [17] (fun i w' => ∃ k : Nat, Below w.heap.size w w' ∧ k ≤ n ∧ i = .int .i64 k) (fun i _ => n - (intOf i).toNat)
  case atStart => exact ⟨0, Below.refl _ _, Nat.zero_le _, rfl⟩
  case round =>
    obtain ⟨k, hbw, hk, rfl⟩ := hrel
    rcases Nat.lt_or_ge k n with hlt | hge
    · have hd : decide ((k : Int) < (n : Int)) = true := by simp; omega
      have hkn : (k : Int) < (n : Int) := by omega
      obtain ⟨x, hx⟩ : ∃ x, rows[k]? = some x := ⟨_, List.getElem?_eq_getElem (by rw [HL.out]; exact hlt)⟩
      obtain ⟨g, o, rfl, _, _, hg⟩ := hr.some_ (by omega)
      obtain ⟨g', o', rfl, _, _, hg'⟩ := hr'.some_ (by omega)
      obtain ⟨A1, c1, q1, v1⟩ := (hr.ext hbw).at_ hx
      obtain ⟨A2, c2, q2, v2⟩ := (hr'.ext hbw).at_ hx
      have hxl := HS.out x (List.mem_of_getElem? hx)
      clear hx
      go_wp2_with fail
      refine (rowSame_ x lo lo' A1 A2 x.length c1 x.length c2 _ hxl v1 v2).mono ?_
      rintro e w1 ⟨rfl, hb1⟩
      clear q1 q2
      go_wp2
      go_roundw
      case rel => exact ⟨k + 1, Below.trans hbw (Below.mono hb1 hbw.size), by omega, by go_num⟩
      case measure => simp [intOf]; omega
    · have hd : decide ((k : Int) < (n : Int)) = false := by simp; omega
      go_wp2
      go_ret
      exact ⟨rfl, hbw⟩
set_option maxHeartbeats 2000000 in
theorem schSame_ (S : Sch) (lo lo' : Nat) (A A' : Option Addr) (n c n' c' : Nat) (w : World) (hn : n ≤ 100000) (hr : Cs w lo A n c S.cols) (hr' : Cs w lo' A' n' c' S.cols) :
    Calls Try.prog 45 #[.agg (schA S A n c), .agg (schA S A' n' c')] w fun e w' => e = .returned (.bool true) ∧ Below w.heap.size w w' := by
  obtain ⟨nm, cols, key, only⟩ := S
  simp only [schA] at hr hr' ⊢
  go_enter Try.func45, Try.ntmps45
  go_upto_region 1 with fail
  obtain ⟨W, hW_, hbW, B1, B2⟩ : ∃ W_, W_ = ((w.alloc (.cells #[.string nm, .slice A n c, .int .i64 key, .bool only] 24)).alloc (.cells #[.string nm, .slice A' n' c', .int .i64 key, .bool only] 24)) ∧ Below w.heap.size w W_ ∧ Blk W_ (w.heap.size) 24 #[.string nm, .slice A n c, .int .i64 key, .bool only] ∧ Blk W_ (w.heap.size + 1) 24 #[.string nm, .slice A' n' c', .int .i64 key, .bool only] :=
    ⟨_, rfl, (((Below.refl _ _).alloc (Nat.le_refl _) _).alloc (by simp; try omega) _), ((blk_new_at w (w.heap.size) _ _ (by simp)).alloc _), (blk_new_at (w.alloc (.cells #[.string nm, .slice A n c, .int .i64 key, .bool only] 24)) (w.heap.size + 1) _ _ (by simp))⟩
  rw [← hW_]
  clear hW_
  have q1 := four B1 (Below.refl _ _)
  have q2 := four B2 (Below.refl _ _)
  go_wp2_with fail
  refine (equalC cols lo lo' A A' n c n' c' _ hn (hr.ext hbW) (hr'.ext hbW)).mono ?_
  rintro e w1 ⟨rfl, hb1⟩
  clear q1 q2
  have q1 := four B1 hb1
  have q2 := four B2 hb1
  go_wp2
  go_ret
  exact ⟨rfl, Below.trans hbW (Below.mono hb1 hbW.size)⟩
set_option maxHeartbeats 2000000 in
theorem same_ (S : Sch) (rows : List (List V)) (lo lo' : Nat) (v v' : Value) (w : World) (hn : S.cols.length ≤ 100) (hrows : rows.length ≤ 1000) (hl : ∀ r ∈ rows, r.length ≤ 100000) (hT : TabR w lo v S rows) (hT' : TabR w lo' v' S rows) :
    Calls Try.prog 27 #[v, v'] w fun e w' => e = .returned (.bool true) ∧ Below w.heap.size w w' := by
  obtain ⟨A, n, c, Ar, nr, cr, rfl, hC, hR, _⟩ := hT
  obtain ⟨A', n', c', Ar', nr', cr', rfl, hC', hR', _⟩ := hT'
  have hC2 := hC.2
  have hR2 := hR.len
  have HS := fun w' h => schSame_ S lo lo' A A' n c n' c' w' (by omega) (hC.ext h) (hC'.ext h)
  have hS := Lib.hid HS
  have hnr : nr ≤ 1000 := by omega
  clear hC2 hR2 HS
  obtain ⟨nm, cols, key, only⟩ := S
  simp only [tabA, schA] at hC hC' hS ⊢
  go_enter Try.func27, Try.ntmps27
  go_upto_region 1 with fail
  obtain ⟨W, hW_, hbW, B1, B2⟩ : ∃ W_, W_ = ((w.alloc (.cells #[.string nm, .slice A n c, .int .i64 key, .bool only, .slice Ar nr cr] 32)).alloc (.cells #[.string nm, .slice A' n' c', .int .i64 key, .bool only, .slice Ar' nr' cr'] 32)) ∧ Below w.heap.size w W_ ∧ Blk W_ (w.heap.size) 32 #[.string nm, .slice A n c, .int .i64 key, .bool only, .slice Ar nr cr] ∧ Blk W_ (w.heap.size + 1) 32 #[.string nm, .slice A' n' c', .int .i64 key, .bool only, .slice Ar' nr' cr'] :=
    ⟨_, rfl, (((Below.refl _ _).alloc (Nat.le_refl _) _).alloc (by simp; try omega) _), ((blk_new_at w (w.heap.size) _ _ (by simp)).alloc _), (blk_new_at (w.alloc (.cells #[.string nm, .slice A n c, .int .i64 key, .bool only, .slice Ar nr cr] 32)) (w.heap.size + 1) _ _ (by simp))⟩
  rw [← hW_]
  clear hW_
  have q1 := five B1 (Below.refl _ _)
  have q2 := five B2 (Below.refl _ _)
  go_wp2_with fail
  refine (hS.out _ hbW).mono ?_
  rintro e w1 ⟨rfl, hb1⟩
  clear q1 q2
  have h1 := Below.trans hbW (Below.mono hb1 hbW.size)
  have q1 := five B1 hb1
  have q2 := five B2 hb1
  go_wp2_with fail
  refine (eqFunc_ rows lo lo' Ar Ar' nr cr nr' cr' _ (by omega) hl (hR.ext h1) (hR'.ext h1)).mono ?_
  rintro e w2 ⟨rfl, hb2⟩
  clear q1 q2
  go_wp2
  go_ret
  exact ⟨rfl, Below.trans h1 (Below.mono hb2 h1.size)⟩
end Go.Proofs.Ytalfacbkofgdjaa.tb
