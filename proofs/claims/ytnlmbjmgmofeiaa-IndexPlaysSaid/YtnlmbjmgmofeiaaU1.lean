/- Contracts: the document's at, Get. -/
import Derived.Test.YtnlmbjmgmofeiaaTx
import Derived.Test.YtnlmbjmgmofeiaaT13
namespace Go.Proofs.Ytnlmbjmgmofeiaa.tb
open Go.ChangeShapes Go.WideShapes Go.ChangeAt Go.RowKit Go.Proofs.Ytnlmbjmgmofeiaa.lib Go.Proofs.Ytnlmbjmgmofeiaa.val
set_option linter.unusedVariables false

set_option maxRecDepth 1000000 in
set_option maxHeartbeats 4000000 in
theorem rat_ (S : Sch) (rows : List (List V)) (kv : V) (lo : Nat) (A : Option Addr) (n c : Nat) (A' : Option Addr) (n' c' : Nat) (w : World)
    (hR : Rs w lo A' n' c' rows) (hOk : Ok S.cols S.key rows) (hn : S.cols.length ≤ 100) (hrows : rows.length ≤ 1000) (hkv : vchk kv = 0) :
    Calls Try.prog 42 #[.agg (tabA S A n c A' n' c'), .agg #[.int .i64 kv.k, .int .i64 kv.n, .string kv.s]] w fun e w' => e = .returned (.int .i64 (atL S.key kv rows : Nat)) ∧ Below w.heap.size w w' := by
  have hRn := hR.len
  have hRN := Lib.hid hRn
  have hn' : n' ≤ 1000 := by omega
  have hOk := Lib.hid hOk
  have hle : atL S.key kv rows ≤ n' := by rw [← hRn]; exact at_le _ _ _
  obtain ⟨an, han⟩ : ∃ a, atL S.key kv rows = a := ⟨_, rfl⟩
  have hAN := Lib.hid han
  rw [han] at hle ⊢
  have hks : kv.s.size ≤ maxLen := by have := (chk_form hkv).2.2.2.2.2; unfold maxLen; omega
  have hKV := Lib.hid hkv
  clear hRn han hkv hrows
  obtain ⟨nm, cols, key, only⟩ := S
  obtain ⟨k0, k1, k2⟩ := kv
  simp only [tabA] at hn hks ⊢
  simp only at hOk hAN
  go_enter Try.func42, Try.ntmps42
  go_upto_region 1 with fail
  obtain ⟨W, hW_, hbW, B1, BV⟩ : ∃ W_, W_ = ((w.alloc (.cells #[.string nm, .slice A n c, .int .i64 key, .bool only, .slice A' n' c'] 32)).alloc (.cells #[.int .i64 k0, .int .i64 k1, .string k2] 41)) ∧ Below w.heap.size w W_ ∧ Blk W_ (w.heap.size) 32 #[.string nm, .slice A n c, .int .i64 key, .bool only, .slice A' n' c'] ∧ Blk W_ (w.heap.size + 1) 41 #[.int .i64 k0, .int .i64 k1, .string k2] :=
    ⟨_, rfl, (((Below.refl _ _).alloc (Nat.le_refl _) _).alloc (by simp; try omega) _), ((blk_new_at w (w.heap.size) _ _ (by simp)).alloc _), (blk_new_at (w.alloc (.cells #[.string nm, .slice A n c, .int .i64 key, .bool only, .slice A' n' c'] 32)) (w.heap.size + 1) _ _ (by simp))⟩
  rw [← hW_]
  clear hW_
  go_wp2_with fail
  go_loopw [5] (fun i wr => ∃ k : Nat, i = .int .i64 k ∧ k ≤ an ∧ Below W.heap.size W wr) (fun i _ => n' - (intOf i).toNat)
  case atStart => exact ⟨0, rfl, Nat.zero_le _, Below.refl _ _⟩
  case round =>
    obtain ⟨k, rfl, hk, hbw⟩ := hrel
    have hw1 := Below.trans hbW (Below.mono hbw hbW.size)
    have B1 := B1.ext hbw
    have BV := BV.ext hbw
    rcases Nat.lt_or_ge k n' with hlt | hge
    case inr =>
      have hd : decide ((k : Int) < (n' : Int)) = false := by simp; omega
      have hdn : decide (k < n') = false := by simp; omega
      go_wp2_with fail
      have D1 := fun w' (h : Below wr.heap.size wr.drew w') => five B1 (Below.trans (Below.refl _ _).drew h)
      refine wp_region_one [(0, true), (1, true), (2, true), (3, true), (4, true), (5, true), (6, true), (7, true), (8, true), (9, true), (10, true), (11, true), (12, true), (13, true), (14, true), (15, true), (16, true), (17, false), (18, true), (19, true)] (by kernel_rfl) (by kernel_rfl) (by kernel_rfl) (by decide) ?_
      repeat ((with_reducible show wpPerm _ _ _ _ ((_, true) :: _) _ _); (first | (refine wpPerm_on (v := ?_) rfl rfl (wanted_free rfl) (fun w' hS => ?_) ?_; rotate_left; (focus (go_simp; (try with_reducible rfl); done)); try simp only [List.setIfInBounds_toArray, List.set_cons_zero, List.set_cons_succ]) | (refine wpPerm_on (v := ?_) rfl rfl (wanted_yes rfl rfl rfl) (fun w' hS => ?_) ?_; rotate_left; (focus (go_simp; (try with_reducible rfl); done)); try simp only [List.setIfInBounds_toArray, List.set_cons_zero, List.set_cons_succ]) | (refine wpPerm_off rfl rfl (wanted_no rfl rfl rfl) ?_; try simp only [List.setIfInBounds_toArray, List.set_cons_zero, List.set_cons_succ]) | (refine wpPerm_off rfl rfl (wanted_undef rfl rfl rfl) ?_; try simp only [List.setIfInBounds_toArray, List.set_cons_zero, List.set_cons_succ])))
      refine wpPerm_no rfl (wanted_no rfl rfl rfl) (Below.refl _ _) ?_
      repeat ((with_reducible show wpPerm _ _ _ _ ((_, true) :: _) _ _); (first | (refine wpPerm_on (v := ?_) rfl rfl (wanted_free rfl) (fun w' hS => ?_) ?_; rotate_left; (focus (go_simp; (try with_reducible rfl); done))) | (refine wpPerm_on (v := ?_) rfl rfl (wanted_yes rfl rfl rfl) (fun w' hS => ?_) ?_; rotate_left; (focus (go_simp; (try with_reducible rfl); done))) | (refine wpPerm_off rfl rfl (wanted_no rfl rfl rfl) ?_) | (refine wpPerm_off rfl rfl (wanted_undef rfl rfl rfl) ?_)))
      refine wpPerm_done ?_
      clear D1
      go_wp2
      go_ret
      exact ⟨ret_int (by omega), hw1.drew⟩
    have hd : decide ((k : Int) < (n' : Int)) = true := by simp; omega
    have hdn : decide (k < n') = true := by simp; omega
    have hkn : (k : Int) < (n' : Int) := by omega
    obtain ⟨r, hx⟩ : ∃ r, rows[k]? = some r := ⟨_, List.getElem?_eq_getElem (by rw [hRN.out]; exact hlt)⟩
    obtain ⟨v, hv, hke, hvc⟩ := key_chk hOk.out.kl (hOk.out.fit r (List.mem_of_getElem? hx))
    have hkr : key < r.length := (List.getElem?_eq_some_iff.1 hv).1
    have hkr2 : (key : Int) < (r.length : Int) := by omega
    have hvs : v.s.size ≤ maxLen := by have := (chk_form hvc).2.2.2.2.2; unfold maxLen; omega
    obtain ⟨bA, oA, rfl, _, _, hbA⟩ := hR.some_ (by omega)
    obtain ⟨Ar, cr, q0, hVr⟩ := hR.at_ hx
    obtain ⟨br, or_, rfl, _, _, _⟩ := hVr.1.some_ (by omega)
    have hbel : belowB key ⟨k0, k1, k2⟩ r = decide (rcmpV v ⟨k0, k1, k2⟩ < 0) := by unfold belowB; rw [hke, rcmp_eq hvc hKV.out]
    have hyes : belowB key ⟨k0, k1, k2⟩ r = true → k + 1 ≤ an := fun h => by
      rcases Nat.lt_or_ge k an with h1 | h1
      · exact h1
      · exfalso
        have e : k = atL key ⟨k0, k1, k2⟩ rows := by rw [hAN.out]; omega
        have := at_not (key := key) (k := ⟨k0, k1, k2⟩) (rows := rows) (r := r) (by rw [← e]; exact hx)
        rw [h] at this; cases this
    have hno : belowB key ⟨k0, k1, k2⟩ r = false → k = an := fun h => by
      rcases Nat.lt_or_ge k an with h1 | h1
      · exfalso
        have := lt_at (key := key) (k := ⟨k0, k1, k2⟩) (rows := rows) (i := k) (r := r) (by rw [hAN.out]; exact h1) hx
        rw [h] at this; cases this
      · omega
    rw [hbel] at hyes hno
    have Hyes := Lib.hid hyes
    have Hno := Lib.hid hno
    have HV := Lib.hid hv
    have Hq := Lib.hid q0
    clear hbel hyes hno hke hvc hv q0 hx
    go_wp2_with fail
    have D1 := fun w' (h : Below wr.heap.size wr.drew w') => five B1 (Below.trans (Below.refl _ _).drew h)
    have DV := fun w' (h : Below wr.heap.size wr.drew w') => BV.three (Below.trans (Below.refl _ _).drew h)
    have D2 := fun w' (h : Below wr.heap.size wr.drew w') => ((Below.trans hw1 (Below.mono (Below.trans (Below.refl _ wr).drew h) hw1.size)).cell (p := ⟨bA, oA + k, none⟩) hbA).trans Hq.out
    have Dr := fun w' (h : Below wr.heap.size wr.drew w') => (hVr.ext (Below.trans hw1 (Below.mono (Below.trans (Below.refl _ wr).drew h) hw1.size))).at_ HV.out
    refine wp_region_one [(0, true), (1, true), (2, true), (3, true), (4, true), (5, true), (6, true), (7, true), (8, true), (9, true), (10, true), (11, true), (12, true), (13, true), (14, true), (15, true), (16, true), (17, false), (18, true), (19, true)] (by kernel_rfl) (by kernel_rfl) (by kernel_rfl) (by decide) ?_
    repeat ((with_reducible show wpPerm _ _ _ _ ((_, true) :: _) _ _); (first | (refine wpPerm_on (v := ?_) rfl rfl (wanted_free rfl) (fun w' hS => ?_) ?_; rotate_left; (focus (go_simp; (try with_reducible rfl); done)); try simp only [List.setIfInBounds_toArray, List.set_cons_zero, List.set_cons_succ]) | (refine wpPerm_on (v := ?_) rfl rfl (wanted_yes rfl rfl rfl) (fun w' hS => ?_) ?_; rotate_left; (focus (go_simp; (try with_reducible rfl); done)); try simp only [List.setIfInBounds_toArray, List.set_cons_zero, List.set_cons_succ]) | (refine wpPerm_off rfl rfl (wanted_no rfl rfl rfl) ?_; try simp only [List.setIfInBounds_toArray, List.set_cons_zero, List.set_cons_succ]) | (refine wpPerm_off rfl rfl (wanted_undef rfl rfl rfl) ?_; try simp only [List.setIfInBounds_toArray, List.set_cons_zero, List.set_cons_succ])))
    refine wpPerm_do rfl (wanted_yes rfl rfl rfl) (fun K hK => ?_); go_simp
    refine (rcmp_ v ⟨k0, k1, k2⟩ _ hvs hks).mono ?_
    rintro e w3 ⟨rfl, hb3⟩
    refine hK.out _ _ hb3 ?_
    clear hK K
    obtain ⟨b, hb⟩ : ∃ b, decide (rcmpV v ⟨k0, k1, k2⟩ < 0) = b := ⟨_, rfl⟩
    have hb' := Lib.hid hb
    repeat ((with_reducible show wpPerm _ _ _ _ ((_, true) :: _) _ _); (first | (refine wpPerm_on (v := ?_) rfl rfl (wanted_free rfl) (fun w' hS => ?_) ?_; rotate_left; (focus (go_simp; (try with_reducible rfl); done)); try simp only [List.setIfInBounds_toArray, List.set_cons_zero, List.set_cons_succ]) | (refine wpPerm_on (v := ?_) rfl rfl (wanted_yes rfl rfl rfl) (fun w' hS => ?_) ?_; rotate_left; (focus (go_simp; (try with_reducible rfl); done)); try simp only [List.setIfInBounds_toArray, List.set_cons_zero, List.set_cons_succ]) | (refine wpPerm_off rfl rfl (wanted_no rfl rfl rfl) ?_; try simp only [List.setIfInBounds_toArray, List.set_cons_zero, List.set_cons_succ]) | (refine wpPerm_off rfl rfl (wanted_undef rfl rfl rfl) ?_; try simp only [List.setIfInBounds_toArray, List.set_cons_zero, List.set_cons_succ])))
    refine wpPerm_done ?_
    clear D1 DV D2 Dr
    have hbx := Below.trans hbw (Below.mono (Below.trans (Below.refl _ wr).drew hb3) hbw.size)
    cases b with
    | false =>
      have hka := Hno.out hb'.out
      have HKA := Lib.hid hka
      clear hka
      go_wp2
      go_ret
      exact ⟨ret_int (by have := HKA.out; omega), Below.trans hbW (Below.mono hbx hbW.size)⟩
    | true =>
      have hka := Hyes.out hb'.out
      go_wp2
      go_roundw
      case rel => exact ⟨k + 1, by go_num, hka, hbx⟩
      case measure => simp [intOf]; omega
set_option maxRecDepth 1000000 in
set_option maxHeartbeats 4000000 in
theorem rget_ (S : Sch) (rows : List (List V)) (kv : V) (lo : Nat) (A : Option Addr) (n c : Nat) (A' : Option Addr) (n' c' : Nat) (w : World)
    (hR : Rs w lo A' n' c' rows) (hOk : Ok S.cols S.key rows) (hn : S.cols.length ≤ 100) (hrows : rows.length ≤ 1000) (hkv : vchk kv = 0) :
    Calls Try.prog 24 #[.agg (tabA S A n c A' n' c'), .agg #[.int .i64 kv.k, .int .i64 kv.n, .string kv.s]] w (GetP (rowL S.key rows kv) (isL S.key kv rows) w) := by
  obtain ⟨i0, hi, hz0, hz1, hz2⟩ := info_parts (P := Try.prog) (e := 41) (z := .agg #[.int .i64 0, .int .i64 0, .string ⟨#[]⟩]) (size := 3) (bytes := 32) (by kernel_rfl)
  have hRn := hR.len
  have hRN := Lib.hid hRn
  have hn' : n' ≤ 1000 := by omega
  have hat := fun w' (h : Below w.heap.size w w') => rat_ S rows kv lo A n c A' n' c' w' (hR.ext h) hOk hn hrows hkv
  have hOk := Lib.hid hOk
  have hle : atL S.key kv rows ≤ n' := by rw [← hRn]; exact at_le _ _ _
  have hisd : isL S.key kv rows = match rows[atL S.key kv rows]? with | some r => decide (cmpV (keyOf S.key r) kv = 0) | none => false := rfl
  have hrowd : rowL S.key rows kv = if isL S.key kv rows = true then rows.getD (atL S.key kv rows) [] else [] := rfl
  obtain ⟨rr, hrr⟩ : ∃ rr, rowL S.key rows kv = rr := ⟨_, rfl⟩
  obtain ⟨is_, his⟩ : ∃ b, isL S.key kv rows = b := ⟨_, rfl⟩
  obtain ⟨an, han⟩ : ∃ a, atL S.key kv rows = a := ⟨_, rfl⟩
  rw [hrr, his, han] at hrowd
  rw [his, han] at hisd
  rw [han] at hle hat
  rw [hrr, his]
  have Hisd := Lib.hid hisd
  have Hrowd := Lib.hid hrowd
  have Hat := Lib.hid hat
  have hks : kv.s.size ≤ maxLen := by have := (chk_form hkv).2.2.2.2.2; unfold maxLen; omega
  have hKV := Lib.hid hkv
  clear hRn han hkv hrows hrr his hisd hrowd hat
  obtain ⟨nm, cols, key, only⟩ := S
  obtain ⟨k0, k1, k2⟩ := kv
  simp only [tabA] at hn hks Hat ⊢
  simp only at hOk Hisd
  go_enter Try.func24, Try.ntmps24
  go_upto_region 1 with fail
  obtain ⟨W, hW_, hbW, B1, BV⟩ : ∃ W_, W_ = ((w.alloc (.cells #[.string nm, .slice A n c, .int .i64 key, .bool only, .slice A' n' c'] 32)).alloc (.cells #[.int .i64 k0, .int .i64 k1, .string k2] 41)) ∧ Below w.heap.size w W_ ∧ Blk W_ (w.heap.size) 32 #[.string nm, .slice A n c, .int .i64 key, .bool only, .slice A' n' c'] ∧ Blk W_ (w.heap.size + 1) 41 #[.int .i64 k0, .int .i64 k1, .string k2] :=
    ⟨_, rfl, (((Below.refl _ _).alloc (Nat.le_refl _) _).alloc (by simp; try omega) _), ((blk_new_at w (w.heap.size) _ _ (by simp)).alloc _), (blk_new_at (w.alloc (.cells #[.string nm, .slice A n c, .int .i64 key, .bool only, .slice A' n' c'] 32)) (w.heap.size + 1) _ _ (by simp))⟩
  rw [← hW_]
  clear hW_
  have q1 := five B1 (Below.refl _ _)
  have qv := BV.three (Below.refl _ _)
  go_wp2_with fail
  clear q1 qv
  refine (Hat.out _ hbW).mono ?_
  rintro e w3 ⟨rfl, hb3⟩
  have hbw3 := Below.trans hbW (Below.mono hb3 hbW.size)
  have B1 := B1.ext hb3
  have BV := BV.ext hb3
  have D1 := fun w' (h : Below w3.heap.size w3.drew w') => five B1 (Below.trans (Below.refl _ _).drew h)
  rcases Nat.lt_or_ge an n' with hlt | hge
  case inr =>
    obtain rfl : an = n' := by omega
    have hnone : rows[an]? = none := List.getElem?_eq_none (by rw [hRN.out]; exact Nat.le_refl _)
    have e1 := Hisd.out
    rw [hnone] at e1
    simp only at e1
    subst e1
    have e2 := Hrowd.out
    rw [if_neg (by decide)] at e2
    subst e2
    clear hnone
    go_wp2_with fail
    refine wp_region_one [(0, true), (1, true), (2, true), (3, true), (4, true), (5, true), (6, true), (7, true), (8, true), (9, true), (10, true), (11, true), (12, true), (13, true), (14, true), (15, true), (16, true), (17, false), (18, true), (19, true)] (by kernel_rfl) (by kernel_rfl) (by kernel_rfl) (by decide) ?_
    repeat ((with_reducible show wpPerm _ _ _ _ ((_, true) :: _) _ _); (first | (refine wpPerm_on (v := ?_) rfl rfl (wanted_free rfl) (fun w' hS => ?_) ?_; rotate_left; (focus (go_simp; (try with_reducible rfl); done)); try simp only [List.setIfInBounds_toArray, List.set_cons_zero, List.set_cons_succ]) | (refine wpPerm_on (v := ?_) rfl rfl (wanted_yes rfl rfl rfl) (fun w' hS => ?_) ?_; rotate_left; (focus (go_simp; (try with_reducible rfl); done)); try simp only [List.setIfInBounds_toArray, List.set_cons_zero, List.set_cons_succ]) | (refine wpPerm_off rfl rfl (wanted_no rfl rfl rfl) ?_; try simp only [List.setIfInBounds_toArray, List.set_cons_zero, List.set_cons_succ]) | (refine wpPerm_off rfl rfl (wanted_undef rfl rfl rfl) ?_; try simp only [List.setIfInBounds_toArray, List.set_cons_zero, List.set_cons_succ])))
    refine wpPerm_no rfl (wanted_no rfl rfl rfl) (Below.refl _ _) ?_
    repeat ((with_reducible show wpPerm _ _ _ _ ((_, true) :: _) _ _); (first | (refine wpPerm_on (v := ?_) rfl rfl (wanted_free rfl) (fun w' hS => ?_) ?_; rotate_left; (focus (go_simp; (try with_reducible rfl); done))) | (refine wpPerm_on (v := ?_) rfl rfl (wanted_yes rfl rfl rfl) (fun w' hS => ?_) ?_; rotate_left; (focus (go_simp; (try with_reducible rfl); done))) | (refine wpPerm_off rfl rfl (wanted_no rfl rfl rfl) ?_) | (refine wpPerm_off rfl rfl (wanted_undef rfl rfl rfl) ?_)))
    refine wpPerm_done ?_
    clear D1
    go_wp2
    exact bodyPost_ret (v := .tuple #[.slice none 0 0, .bool false]) (by simp [results, Try.results24, go_sem]; try rfl) rfl ⟨_, _, _, rfl, ⟨Row.nil _ _, rfl⟩, hbw3.drew⟩
  have hne : ((an : Int) == (n' : Int)) = false := by rw [beq_eq_false_iff_ne]; omega
  have hne2 : (an = n') = False := by simp; omega
  have hkn : (an : Int) < (n' : Int) := by omega
  obtain ⟨r, hx⟩ : ∃ r, rows[an]? = some r := ⟨_, List.getElem?_eq_getElem (by rw [hRN.out]; exact hlt)⟩
  obtain ⟨v, hv, hke, hvc⟩ := key_chk hOk.out.kl (hOk.out.fit r (List.mem_of_getElem? hx))
  have hrl := fits_len (hOk.out.fit r (List.mem_of_getElem? hx))
  have hrl2 : r.length ≤ 100 := by rw [hrl]; exact hn
  have hkr : key < r.length := (List.getElem?_eq_some_iff.1 hv).1
  have hkr2 : (key : Int) < (r.length : Int) := by omega
  have hvs : v.s.size ≤ maxLen := by have := (chk_form hvc).2.2.2.2.2; unfold maxLen; omega
  obtain ⟨bA, oA, rfl, _, _, hbA⟩ := hR.some_ (by omega)
  obtain ⟨Ar, cr, q0, hVr⟩ := hR.at_ hx
  obtain ⟨br, or_, rfl, _, _, _⟩ := hVr.1.some_ (by omega)
  have e1 := Hisd.out
  rw [hx] at e1
  simp only at e1
  rw [hke, ← rcmp_eq hvc hKV.out] at e1
  have e2 := Hrowd.out
  rw [List.getD_eq_getElem?_getD, hx] at e2
  have E1 := Lib.hid e1
  have E2 := Lib.hid e2
  have HV := Lib.hid hv
  have Hq := Lib.hid q0
  have hVx := hVr
  clear e1 e2 hv hke hvc hx q0 hrl
  go_wp2_with fail
  have DV := fun w' (h : Below w3.heap.size w3.drew w') => BV.three (Below.trans (Below.refl _ _).drew h)
  have D2 := fun w' (h : Below w3.heap.size w3.drew w') => ((Below.trans hbw3 (Below.mono (Below.trans (Below.refl _ w3).drew h) hbw3.size)).cell (p := ⟨bA, oA + an, none⟩) hbA).trans Hq.out
  have Dr := fun w' (h : Below w3.heap.size w3.drew w') => (hVr.ext (Below.trans hbw3 (Below.mono (Below.trans (Below.refl _ w3).drew h) hbw3.size))).at_ HV.out
  refine wp_region_one [(0, true), (1, true), (2, true), (3, true), (4, true), (5, true), (6, true), (7, true), (8, true), (9, true), (10, true), (11, true), (12, true), (13, true), (14, true), (15, true), (16, true), (17, false), (18, true), (19, true)] (by kernel_rfl) (by kernel_rfl) (by kernel_rfl) (by decide) ?_
  repeat ((with_reducible show wpPerm _ _ _ _ ((_, true) :: _) _ _); (first | (refine wpPerm_on (v := ?_) rfl rfl (wanted_free rfl) (fun w' hS => ?_) ?_; rotate_left; (focus (go_simp; (try with_reducible rfl); done)); try simp only [List.setIfInBounds_toArray, List.set_cons_zero, List.set_cons_succ]) | (refine wpPerm_on (v := ?_) rfl rfl (wanted_yes rfl rfl rfl) (fun w' hS => ?_) ?_; rotate_left; (focus (go_simp; (try with_reducible rfl); done)); try simp only [List.setIfInBounds_toArray, List.set_cons_zero, List.set_cons_succ]) | (refine wpPerm_off rfl rfl (wanted_no rfl rfl rfl) ?_; try simp only [List.setIfInBounds_toArray, List.set_cons_zero, List.set_cons_succ]) | (refine wpPerm_off rfl rfl (wanted_undef rfl rfl rfl) ?_; try simp only [List.setIfInBounds_toArray, List.set_cons_zero, List.set_cons_succ])))
  refine wpPerm_do rfl (wanted_yes rfl rfl rfl) (fun K hK => ?_); go_simp
  refine (rcmp_ v ⟨k0, k1, k2⟩ _ hvs hks).mono ?_
  rintro e w5 ⟨rfl, hb5⟩
  refine hK.out _ _ hb5 ?_
  clear hK K
  obtain ⟨b, hb⟩ : ∃ b, (rcmpV v ⟨k0, k1, k2⟩ != 0) = b := ⟨_, rfl⟩
  have hb' := Lib.hid hb
  repeat ((with_reducible show wpPerm _ _ _ _ ((_, true) :: _) _ _); (first | (refine wpPerm_on (v := ?_) rfl rfl (wanted_free rfl) (fun w' hS => ?_) ?_; rotate_left; (focus (go_simp; (try with_reducible rfl); done)); try simp only [List.setIfInBounds_toArray, List.set_cons_zero, List.set_cons_succ]) | (refine wpPerm_on (v := ?_) rfl rfl (wanted_yes rfl rfl rfl) (fun w' hS => ?_) ?_; rotate_left; (focus (go_simp; (try with_reducible rfl); done)); try simp only [List.setIfInBounds_toArray, List.set_cons_zero, List.set_cons_succ]) | (refine wpPerm_off rfl rfl (wanted_no rfl rfl rfl) ?_; try simp only [List.setIfInBounds_toArray, List.set_cons_zero, List.set_cons_succ]) | (refine wpPerm_off rfl rfl (wanted_undef rfl rfl rfl) ?_; try simp only [List.setIfInBounds_toArray, List.set_cons_zero, List.set_cons_succ])))
  refine wpPerm_done ?_
  clear D1 DV D2 Dr
  have hb35 := Below.trans (Below.refl _ w3).drew hb5
  have hbw5 := Below.trans hbw3 (Below.mono hb35 hbw3.size)
  have B1 := B1.ext hb35
  cases b with
  | true =>
    have hisf : is_ = false := by
      rw [E1.out]
      have := hb'.out
      simpa using this
    have hre := E2.out
    rw [if_neg (by rw [hisf]; decide)] at hre
    subst hisf hre
    go_wp2
    exact bodyPost_ret (v := .tuple #[.slice none 0 0, .bool false]) (by simp [results, Try.results24, go_sem]; try rfl) rfl ⟨_, _, _, rfl, ⟨Row.nil _ _, rfl⟩, hbw5⟩
  | false =>
    have hist : is_ = true := by
      rw [E1.out]
      have := hb'.out
      simpa using this
    have hre := E2.out
    rw [if_pos hist] at hre
    simp only [Option.getD_some] at hre
    subst hist hre
    have q1 := fun o => five B1 ((Below.refl _ _).alloc (Nat.le_refl _) o)
    have q2 := fun o => ((hbw5.alloc hbw5.size o).cell (p := ⟨bA, oA + an, none⟩) hbA).trans Hq.out
    clear hne hne2 hb hb'
    go_wp2_with (at_builtin; refine wpList_append_own _ rfl (.tmp 30) (.tmp 35) 38 rfl w5.heap.size 41 i0 _ 3 32 Try.underlying38 hi hz0 hz1 hz2 rfl (by decide) _ _ _ rfl (own_empty (w := w5) rfl (Nat.le_refl _)) ⟨br, or_, none⟩ rr.length cr (cellsV rr) rfl ?c0 ?c1 ?c2 ?c3 ?c4 ?c5 ?_)
    case c0 => rw [lenV]
    case c1 => exact fun j u hu => Row.at_ ((hVr.1.ext hbw5).ext ((Below.refl _ _).alloc (Nat.le_refl _) _)) hu
    case c2 => exact oneV rr
    case c3 => unfold maxLen; omega
    case c4 => omega
    intro v' w8 hown8 hgrow8 _
    obtain ⟨A8, c8, rfl⟩ := own_slice hown8
    have hV8 : Vs w8 w5.heap.size A8 rr.length c8 rr := Vs.of_own (by simpa using hown8)
    have hbw8 : Below w.heap.size w w8 := (hbw5.alloc hbw5.size _).grown hgrow8 (by have := hbw5.size; simp; omega) (fun k hk => by simp [Value.ownBlock] at hk; have := hbw5.size; omega)
    clear hgrow8 hown8 q1 q2
    go_wp2
    exact bodyPost_ret (v := .tuple #[.slice A8 rr.length c8, .bool true]) (by simp [results, Try.results24, go_sem]; try rfl) rfl ⟨_, _, _, by simp, hV8.base hbw5.size, hbw8⟩
end Go.Proofs.Ytnlmbjmgmofeiaa.tb
