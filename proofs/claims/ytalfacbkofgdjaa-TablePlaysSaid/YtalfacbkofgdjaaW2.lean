/- Contracts: the document's Same of schemas and tables, ToRef, Few of acts; acts as an argument. -/
import Derived.Test.YtalfacbkofgdjaaU4
import Derived.Test.YtalfacbkofgdjaaT14
namespace Go.Proofs.Ytalfacbkofgdjaa.tb
open Go.ChangeShapes Go.WideShapes Go.ChangeAt Go.RowKit Go.Joins Go.Deep Go.Proofs.Ytalfacbkofgdjaa.lib Go.Proofs.Ytalfacbkofgdjaa.val
set_option linter.unusedVariables false

set_option maxRecDepth 1000000 in
set_option maxHeartbeats 4000000 in
theorem rschSame_ (S : Sch) (lo lo' : Nat) (A A' : Option Addr) (n c n' c' : Nat) (w : World) (hn : n ≤ 100000) (hr : Cs w lo A n c S.cols) (hr' : Cs w lo' A' n' c' S.cols) :
    Calls Try.prog 49 #[.agg (schA S A n c), .agg (schA S A' n' c')] w fun e w' => e = .returned (.bool true) ∧ Below w.heap.size w w' := by
  obtain ⟨nm, cols, key, only⟩ := S
  simp only [schA] at hr hr' ⊢
  have HL := Lib.hid hr.2
  obtain rfl : n = n' := hr.2.symm.trans hr'.2
  have hnm := ba_refl nm
  have hnl := beq_self_eq_true nm.toList
  go_enter Try.func49, Try.ntmps49
  go_upto_region 1 with fail
  obtain ⟨W, hW_, hbW, B1, B2⟩ : ∃ W_, W_ = ((w.alloc (.cells #[.string nm, .slice A n c, .int .i64 key, .bool only] 24)).alloc (.cells #[.string nm, .slice A' n c', .int .i64 key, .bool only] 24)) ∧ Below w.heap.size w W_ ∧ Blk W_ (w.heap.size) 24 #[.string nm, .slice A n c, .int .i64 key, .bool only] ∧ Blk W_ (w.heap.size + 1) 24 #[.string nm, .slice A' n c', .int .i64 key, .bool only] :=
    ⟨_, rfl, (((Below.refl _ _).alloc (Nat.le_refl _) _).alloc (by simp; try omega) _), ((blk_new_at w (w.heap.size) _ _ (by simp)).alloc _), (blk_new_at (w.alloc (.cells #[.string nm, .slice A n c, .int .i64 key, .bool only] 24)) (w.heap.size + 1) _ _ (by simp))⟩
  rw [← hW_]
  clear hW_
  have q1 := four B1 (Below.refl _ _)
  have q2 := four B2 (Below.refl _ _)
  go_wp2
  clear q1 q2
  go_loopw [5] (fun i w' => ∃ k : Nat, Below W.heap.size W w' ∧ k ≤ n ∧ i = .int .i64 k) (fun i _ => n - (intOf i).toNat)
  case atStart => exact ⟨0, Below.refl _ _, Nat.zero_le _, rfl⟩
  case round =>
    obtain ⟨k, hbw, hk, rfl⟩ := hrel
    have hbx := Below.trans hbW (Below.mono hbw hbW.size)
    have q1 := four B1 hbw
    have q2 := four B2 hbw
    rcases Nat.lt_or_ge k n with hlt | hge
    · have hd : decide ((k : Int) < (n : Int)) = true := by simp; omega
      have hkn : (k : Int) < (n : Int) := by omega
      obtain ⟨x, hx⟩ : ∃ x, cols[k]? = some x := ⟨_, List.getElem?_eq_getElem (by rw [HL.out]; exact hlt)⟩
      obtain ⟨g, o, rfl, _, _, hg⟩ := hr.1.some_ (by omega)
      obtain ⟨g', o', rfl, _, _, hg'⟩ := hr'.1.some_ (by omega)
      have HX := Lib.hid hx
      clear hx
      obtain ⟨x0, x1, x2⟩ := x
      go_wp2_with fail
      clear q1 q2
      have D := fun w' (h : Below wr.heap.size wr.drew w') => ((hr.ext (Below.trans hbx.drew (Below.mono h hbx.size))).at_ HX.out)
      have D2 := fun w' (h : Below wr.heap.size wr.drew w') => ((hr'.ext (Below.trans hbx.drew (Below.mono h hbx.size))).at_ HX.out)
      have D3 := fun w' (h : Below wr.heap.size wr.drew w') => four B1 (Below.trans hbw.drew (Below.mono h hbw.size))
      have D4 := fun w' (h : Below wr.heap.size wr.drew w') => four B2 (Below.trans hbw.drew (Below.mono h hbw.size))
      refine wp_region_one [(0, true), (1, true), (2, true), (3, true), (4, true), (5, true), (6, true), (7, true), (8, true), (9, true), (10, true)] (by kernel_rfl) (by kernel_rfl) (by kernel_rfl) (by decide) ?_
      have u46 := Try.underlying46
      have u3 := Try.underlying3
      have u9 := Try.underlying9
      have u4 := Try.underlying4
      have hp := stoodC
      have hmg := guardC
      repeat ((with_reducible show wpPerm _ _ _ _ ((_, true) :: _) _ _); (first | (refine wpPerm_on (v := ?_) rfl rfl (wanted_free rfl) (fun w' hS => ?_) ?_; rotate_left; (focus (go_simp; (try with_reducible rfl); done)); try simp only [List.setIfInBounds_toArray, List.set_cons_zero, List.set_cons_succ]) | (refine wpPerm_on (v := ?_) rfl rfl (wanted_yes rfl rfl rfl) (fun w' hS => ?_) ?_; rotate_left; (focus (go_simp; (try with_reducible rfl); done)); try simp only [List.setIfInBounds_toArray, List.set_cons_zero, List.set_cons_succ]) | (refine wpPerm_off rfl rfl (wanted_no rfl rfl rfl) ?_; try simp only [List.setIfInBounds_toArray, List.set_cons_zero, List.set_cons_succ]) | (refine wpPerm_off rfl rfl (wanted_undef rfl rfl rfl) ?_; try simp only [List.setIfInBounds_toArray, List.set_cons_zero, List.set_cons_succ])))
      refine wpPerm_done ?_
      clear D D2 D3 D4 u46 u3 u9 u4 hp hmg
      have hbd := hbw.drew
      go_wp2
      go_roundw
      case rel => exact ⟨k + 1, hbd, by omega, by go_num⟩
      case measure => simp [intOf]; omega
    · have hd : decide ((k : Int) < (n : Int)) = false := by simp; omega
      go_wp2
      go_ret
      exact ⟨rfl, hbx⟩
set_option maxRecDepth 1000000 in
set_option maxHeartbeats 4000000 in
theorem rsame_ (S : Sch) (rows : List (List V)) (lo lo' : Nat) (A A' B B' : Option Addr) (n c n' c' m d m' d' : Nat) (w : World) (hn : S.cols.length ≤ 100) (hrows : rows.length ≤ 1000) (hl : ∀ r ∈ rows, r.length ≤ 100000)
    (hC : Cs w lo A n c S.cols) (hC' : Cs w lo' A' n' c' S.cols) (hR : Rs w lo B m d rows) (hR' : Rs w lo' B' m' d' rows) :
    Calls Try.prog 31 #[.agg (tabA S A n c B m d), .agg (tabA S A' n' c' B' m' d')] w fun e w' => e = .returned (.bool true) ∧ Below w.heap.size w w' := by
  have hC2 := hC.2
  have HL := Lib.hid hR.len
  have hmr := hR.len
  have HS := Lib.hid hl
  obtain rfl : m = m' := hR.len.symm.trans hR'.len
  have HSch := Lib.hid (fun w' h => rschSame_ S lo lo' A A' n c n' c' w' (by omega) (hC.ext h) (hC'.ext h))
  have hm : m ≤ 1000 := by omega
  clear hC2 hl hC hC' hmr
  obtain ⟨nm, cols, key, only⟩ := S
  simp only [tabA, schA] at HSch ⊢
  go_enter Try.func31, Try.ntmps31
  go_upto_region 1 with fail
  obtain ⟨W, hW_, hbW, B1, B2⟩ : ∃ W_, W_ = ((w.alloc (.cells #[.string nm, .slice A n c, .int .i64 key, .bool only, .slice B m d] 48)).alloc (.cells #[.string nm, .slice A' n' c', .int .i64 key, .bool only, .slice B' m d'] 48)) ∧ Below w.heap.size w W_ ∧ Blk W_ (w.heap.size) 48 #[.string nm, .slice A n c, .int .i64 key, .bool only, .slice B m d] ∧ Blk W_ (w.heap.size + 1) 48 #[.string nm, .slice A' n' c', .int .i64 key, .bool only, .slice B' m d'] :=
    ⟨_, rfl, (((Below.refl _ _).alloc (Nat.le_refl _) _).alloc (by simp; try omega) _), ((blk_new_at w (w.heap.size) _ _ (by simp)).alloc _), (blk_new_at (w.alloc (.cells #[.string nm, .slice A n c, .int .i64 key, .bool only, .slice B m d] 48)) (w.heap.size + 1) _ _ (by simp))⟩
  rw [← hW_]
  clear hW_
  have q1 := five B1 (Below.refl _ _)
  have q2 := five B2 (Below.refl _ _)
  go_wp2_with fail
  refine (HSch.out _ hbW).mono ?_
  rintro e w1 ⟨rfl, hb1⟩
  clear q1 q2
  have q1 := five B1 hb1
  have q2 := five B2 hb1
  go_wp2
  clear q1 q2
  go_loopw [5] (fun i w' => ∃ k : Nat, Below W.heap.size W w' ∧ k ≤ m ∧ i = .int .i64 k) (fun i _ => m - (intOf i).toNat)
  case atStart => exact ⟨0, hb1, Nat.zero_le _, rfl⟩
  case round =>
    obtain ⟨k, hbw, hk, rfl⟩ := hrel
    have hbx := Below.trans hbW (Below.mono hbw hbW.size)
    have q1 := five B1 hbw
    have q2 := five B2 hbw
    rcases Nat.lt_or_ge k m with hlt | hge
    · have hd : decide ((k : Int) < (m : Int)) = true := by simp; omega
      have hkn : (k : Int) < (m : Int) := by omega
      obtain ⟨x, hx⟩ : ∃ x, rows[k]? = some x := ⟨_, List.getElem?_eq_getElem (by rw [HL.out]; exact hlt)⟩
      obtain ⟨g, o, rfl, _, _, hg⟩ := hR.some_ (by omega)
      obtain ⟨g', o', rfl, _, _, hg'⟩ := hR'.some_ (by omega)
      have hxl := HS.out x (List.mem_of_getElem? hx)
      obtain ⟨Aq, cq, hq0, hVq⟩ := (hR.ext hbx).at_ hx
      obtain ⟨Aq', cq', hq0', hVq'⟩ := (hR'.ext hbx).at_ hx
      have HQ := Lib.hid hq0
      have HQ' := Lib.hid hq0'
      clear hx hq0 hq0'
      go_wp2_with fail
      clear q1 q2
      have hgr : g < wr.heap.size := Nat.lt_of_lt_of_le hg hbx.size
      have hgr' : g' < wr.heap.size := Nat.lt_of_lt_of_le hg' hbx.size
      have D := fun w' (h : Below wr.heap.size wr.drew w') => ((Below.trans (Below.refl _ wr).drew h).cell (p := ⟨g, o + k, none⟩) hgr).trans HQ.out
      have D2 := fun w' (h : Below wr.heap.size wr.drew w') => ((Below.trans (Below.refl _ wr).drew h).cell (p := ⟨g', o' + k, none⟩) hgr').trans HQ'.out
      have D3 := fun w' (h : Below wr.heap.size wr.drew w') => five B1 (Below.trans hbw.drew (Below.mono h hbw.size))
      have D4 := fun w' (h : Below wr.heap.size wr.drew w') => five B2 (Below.trans hbw.drew (Below.mono h hbw.size))
      refine wp_region_one [(0, true), (1, true), (2, true), (3, true), (4, true), (5, true), (6, true), (7, true), (8, true), (9, true), (10, false), (11, true)] (by kernel_rfl) (by kernel_rfl) (by kernel_rfl) (by decide) ?_
      repeat ((with_reducible show wpPerm _ _ _ _ ((_, true) :: _) _ _); (first | (refine wpPerm_on (v := ?_) rfl rfl (wanted_free rfl) (fun w' hS => ?_) ?_; rotate_left; (focus (go_simp; (try with_reducible rfl); done)); try simp only [List.setIfInBounds_toArray, List.set_cons_zero, List.set_cons_succ]) | (refine wpPerm_on (v := ?_) rfl rfl (wanted_yes rfl rfl rfl) (fun w' hS => ?_) ?_; rotate_left; (focus (go_simp; (try with_reducible rfl); done)); try simp only [List.setIfInBounds_toArray, List.set_cons_zero, List.set_cons_succ]) | (refine wpPerm_off rfl rfl (wanted_no rfl rfl rfl) ?_; try simp only [List.setIfInBounds_toArray, List.set_cons_zero, List.set_cons_succ]) | (refine wpPerm_off rfl rfl (wanted_undef rfl rfl rfl) ?_; try simp only [List.setIfInBounds_toArray, List.set_cons_zero, List.set_cons_succ])))
      refine wpPerm_do rfl (wanted_free rfl) (fun K hK => ?_); go_simp
      have hdr : Below wr.heap.size wr wr.drew := (Below.refl _ wr).drew
      refine (rrowSame_ x lo lo' Aq Aq' x.length cq x.length cq' _ hxl (hVq.ext hdr) (hVq'.ext hdr)).mono ?_
      rintro e w5 ⟨rfl, hb5⟩
      refine hK.out _ _ hb5 ?_
      clear hK K
      repeat ((with_reducible show wpPerm _ _ _ _ ((_, true) :: _) _ _); (first | (refine wpPerm_on (v := ?_) rfl rfl (wanted_free rfl) (fun w' hS => ?_) ?_; rotate_left; (focus (go_simp; (try with_reducible rfl); done)); try simp only [List.setIfInBounds_toArray, List.set_cons_zero, List.set_cons_succ]) | (refine wpPerm_on (v := ?_) rfl rfl (wanted_yes rfl rfl rfl) (fun w' hS => ?_) ?_; rotate_left; (focus (go_simp; (try with_reducible rfl); done)); try simp only [List.setIfInBounds_toArray, List.set_cons_zero, List.set_cons_succ]) | (refine wpPerm_off rfl rfl (wanted_no rfl rfl rfl) ?_; try simp only [List.setIfInBounds_toArray, List.set_cons_zero, List.set_cons_succ]) | (refine wpPerm_off rfl rfl (wanted_undef rfl rfl rfl) ?_; try simp only [List.setIfInBounds_toArray, List.set_cons_zero, List.set_cons_succ])))
      refine wpPerm_done ?_
      clear D D2 D3 D4
      have hb5' := Below.trans hbw (Below.mono (Below.trans hdr hb5) hbw.size)
      go_wp2
      go_roundw
      case rel => exact ⟨k + 1, hb5', by omega, by go_num⟩
      case measure => simp [intOf]; omega
    · have hd : decide ((k : Int) < (m : Int)) = false := by simp; omega
      go_wp2
      go_ret
      exact ⟨rfl, hbx⟩
set_option maxHeartbeats 2000000 in
theorem toRef_ (S : Sch) (A : Option Addr) (n c : Nat) (A' : Option Addr) (n' c' : Nat) (w : World) :
    Calls Try.prog 32 #[.agg (tabA S A n c A' n' c')] w fun e w' => e = .returned (.agg (tabA S A n c A' n' c')) ∧ Below w.heap.size w w' := by
  obtain ⟨nm, cols, key, only⟩ := S
  simp only [tabA]
  go_enter Try.func32, Try.ntmps32
  go_upto_region 1 with fail
  obtain ⟨W, hW_, hbW, B1, B2⟩ : ∃ W_, W_ = ((w.alloc (.cells #[.string nm, .slice A n c, .int .i64 key, .bool only, .slice A' n' c'] 32)).alloc (.cells #[.string ⟨#[]⟩, .slice none 0 0, .int .i64 0, .bool false, .slice none 0 0] 48)) ∧ Below w.heap.size w W_ ∧ Blk W_ (w.heap.size) 32 #[.string nm, .slice A n c, .int .i64 key, .bool only, .slice A' n' c'] ∧ Blk W_ (w.heap.size + 1) 48 #[.string ⟨#[]⟩, .slice none 0 0, .int .i64 0, .bool false, .slice none 0 0] :=
    ⟨_, rfl, (((Below.refl _ _).alloc (Nat.le_refl _) _).alloc (by simp; try omega) _), ((blk_new_at w (w.heap.size) _ _ (by simp)).alloc _), (blk_new_at (w.alloc (.cells #[.string nm, .slice A n c, .int .i64 key, .bool only, .slice A' n' c'] 32)) (w.heap.size + 1) _ _ (by simp))⟩
  rw [← hW_]
  clear hW_
  have f0 := B2.frozen 0
  have f1 := B2.frozen 1
  have f2 := B2.frozen 2
  have f3 := B2.frozen 3
  have f4 := B2.frozen 4
  have q := five B2 (Below.refl _ _)
  have q1 := five B1 (Below.refl _ _)
  go_wp2
  clear f0 f1 f2 f3 f4 q q1
  obtain ⟨wz, hwz, Bz, hlowz, hgrz⟩ := Blk.set5 B2 (.string nm) (.slice A n c) (.int .i64 key) (.bool only) (.slice A' n' c')
  rw [← hwz]
  clear hwz
  have q := five Bz (Below.refl _ _)
  exact bodyPost_ret (v := .agg #[.string nm, .slice A n c, .int .i64 key, .bool only, .slice A' n' c']) (by simp [results, Try.results32, go_sem, q]; try rfl) rfl
    ⟨rfl, Below.trans hbW (hlowz _ (Nat.le_succ _))⟩

/-! ### Acts -/
structure Act where
  k : Int
  n : Int
  A : Option Addr
  m : Nat
  c : Nat
  v : List V
def encA (a : Act) : List Value := [.int .i64 a.k, .int .i64 a.n, .slice a.A a.m a.c]
instance : Inhabited Act := ⟨⟨0, 0, none, 0, 0, []⟩⟩
/-- an act as it is handed in -/
structure ActW (w : World) (a : Act) : Prop where
  k : ok64 a.k
  n : ok64 a.n
  v : Vs w 0 a.A a.m a.c a.v
  m : a.m ≤ maxLen
  raw : ∀ x ∈ a.v, RawV x
theorem cellsAct : Try.prog.cellsOf 66 = 3 := by kernel_rfl
theorem cellsRow : Try.prog.cellsOf 33 = 1 := by kernel_rfl
section
variable {H : Type} {enc : TypeId × Value → H} {W : World} {spare : Nat → Bool} {held : Bool}
theorem acts_row {v : Value} {d : DataW H} {p : List MemPlace} {base : Nat} (hval : Value.okWide Try.prog W .any base 63 v) (h : DataW.Trod enc Try.prog W 0 spare held 63 v d p) :
    ∃ A n c l, v = .slice A n c ∧ Row W 0 A n c (flatK encA l) ∧ l.length = n ∧ n ≤ maxLen ∧ ∀ x ∈ l, ActW W x := by
  obtain ⟨a, len, cap, rfl⟩ := okWide_slice Try.underlying63 hval
  obtain ⟨fuel, hf⟩ := h
  obtain ⟨A, n, c, l, e1, hl, hc, hnc, hr, hp⟩ := open_row (α := Act) Try.underlying63 3 cellsAct (by decide) encA (ActW W) (fun _ => rfl) (fun n cs D hl h => by
    obtain ⟨y0, y1, y2, m, _, hcl, g0, g1, g2⟩ := trod_struct3 Try.underlying66 h
    obtain ⟨v0, v1, v2, rfl⟩ := list3 hl
    simp only [cellsInt, cellsRow] at g0 g1 g2
    obtain ⟨z0, e0, _, h0⟩ := DataW.trod_int Try.underlying3 g0
    obtain ⟨z1, e1, _, h1⟩ := DataW.trod_int Try.underlying3 g1
    obtain ⟨A2, n2, c2, l2, e2, hl2, hc2, hnc2, hr2, hp2⟩ := open_row (α := V) Try.underlying33 3 cellsVal (by decide) encV RawV kV decV g2
    simp at e0 e1 e2
    subst e0 e1 e2
    exact ⟨⟨z0, z1, A2, n2, c2, l2⟩, rfl, bd64 h0, bd64 h1, ⟨hr2, hl2⟩, Nat.le_trans hnc2 hc2, hp2⟩) hf
  simp [Value.cells] at e1
  obtain ⟨rfl, rfl, rfl⟩ := e1
  exact ⟨a, len, cap, l, rfl, hr, hl, Nat.le_trans hnc hc, hp⟩
end
set_option maxHeartbeats 2000000 in
theorem few5_ (l : List V) (A : Option Addr) (n c : Nat) (w : World) (hV : Vs w 0 A n c l) (hn : n ≤ maxLen) (hp : ∀ x ∈ l, RawV x) :
    Calls Try.prog 48 #[.slice A n c] w fun e w' => (∃ b, e = .returned (.bool b) ∧ (b = true → n ≤ 12)) ∧ Below w.heap.size w w' := by
  unfold maxLen at hn
  have HP := Lib.hid hp
  have HL := Lib.hid hV.2
  clear hp
  go_enter Try.func48, Try.ntmps48
  go_wp2
  go_loopw [3] (fun i w' => ∃ k : Nat, Below w.heap.size w w' ∧ k ≤ n ∧ i = .int .i64 k) (fun i _ => n - (intOf i).toNat)
  case atStart => exact ⟨0, Below.refl _ _, Nat.zero_le _, rfl⟩
  case round =>
    obtain ⟨k, hbw, hk, rfl⟩ := hrel
    rcases Nat.lt_or_ge k n with hlt | hge
    · have hd : decide ((k : Int) < (n : Int)) = true := by simp; omega
      have hkn : (k : Int) < (n : Int) := by omega
      obtain ⟨x, hx⟩ : ∃ x, l[k]? = some x := ⟨_, List.getElem?_eq_getElem (by rw [HL.out]; exact hlt)⟩
      obtain ⟨g, o, rfl, _, _, hg⟩ := hV.1.some_ (by omega)
      have q := (hV.ext hbw).at_ hx
      have hxs := (HP.out x (List.mem_of_getElem? hx)).s
      clear hx
      obtain ⟨x0, x1, x2⟩ := x
      simp only at q hxs
      go_wp2_with fail
      refine (few x0 x1 x2 _ hxs).mono ?_
      rintro e w1 ⟨rfl, hb1⟩
      clear q
      have hbw1 := Below.trans hbw (Below.mono hb1 hbw.size)
      by_cases h80 : x2.size ≤ 80
      · have hd2 : decide (x2.size ≤ 80) = true := by simp; omega
        go_wp2
        go_roundw
        case rel => exact ⟨k + 1, hbw1, by omega, by go_num⟩
        case measure => simp [intOf]; omega
      · have hd2 : decide (x2.size ≤ 80) = false := by simp; omega
        go_wp2
        go_ret
        exact ⟨⟨_, rfl, by simp⟩, hbw1⟩
    · have hd : decide ((k : Int) < (n : Int)) = false := by simp; omega
      by_cases h12 : n ≤ 12
      · have hd2 : decide ((n : Int) ≤ 12) = true := by simp; omega
        go_wp2
        go_ret
        exact ⟨⟨_, rfl, fun _ => h12⟩, hbw⟩
      · have hd2 : decide ((n : Int) ≤ 12) = false := by simp; omega
        go_wp2
        go_ret
        exact ⟨⟨_, rfl, by simp⟩, hbw⟩
set_option maxHeartbeats 2000000 in
theorem few10_ (l : List Act) (A : Option Addr) (n c : Nat) (w : World) (hV : Row w 0 A n c (flatK encA l)) (hl : l.length = n) (hn : n ≤ maxLen) (hp : ∀ x ∈ l, ActW w x) :
    Calls Try.prog 28 #[.slice A n c] w fun e w' => (∃ b, e = .returned (.bool b) ∧ (b = true → n ≤ 60 ∧ ∀ x ∈ l, x.m ≤ 12)) ∧ Below w.heap.size w w' := by
  unfold maxLen at hn
  have HP := Lib.hid hp
  have HL := Lib.hid hl
  clear hp hl
  go_enter Try.func28, Try.ntmps28
  go_wp2
  go_loopw [3] (fun i w' => ∃ k : Nat, Below w.heap.size w w' ∧ k ≤ n ∧ i = .int .i64 k ∧ ∀ x ∈ l.take k, x.m ≤ 12) (fun i _ => n - (intOf i).toNat)
  case atStart => exact ⟨0, Below.refl _ _, Nat.zero_le _, rfl, fun x h => absurd h (by simp)⟩
  case round =>
    obtain ⟨k, hbw, hk, rfl, hall⟩ := hrel
    have HA := Lib.hid hall
    clear hall
    rcases Nat.lt_or_ge k n with hlt | hge
    · have hd : decide ((k : Int) < (n : Int)) = true := by simp; omega
      have hkn : (k : Int) < (n : Int) := by omega
      obtain ⟨x, hx⟩ : ∃ x, l[k]? = some x := ⟨_, List.getElem?_eq_getElem (by rw [HL.out]; exact hlt)⟩
      obtain ⟨g, o, rfl, _, _, hg⟩ := hV.some_ (by omega)
      have q : wr.cell? ⟨g, o + k * 3 + 2, none⟩ = some (.slice x.A x.m x.c) := by rw [Nat.add_assoc]; exact (hV.ext hbw).at_ (flatK_at encA 3 (fun _ => rfl) l k x 2 _ hx rfl)
      have hw := HP.out x (List.mem_of_getElem? hx)
      have HX := Lib.hid hx
      clear hx
      go_wp2_with fail
      refine (few5_ x.v x.A x.m x.c _ (hw.v.ext hbw) hw.m hw.raw).mono ?_
      rintro e w1 ⟨⟨b, rfl, hb⟩, hb1⟩
      clear q
      have hbw1 := Below.trans hbw (Below.mono hb1 hbw.size)
      cases b with
      | true =>
        go_wp2
        go_roundw
        case rel => exact ⟨k + 1, hbw1, by omega, by go_num, fun y hy => by
          rw [take_snoc HX.out, List.mem_append, List.mem_singleton] at hy
          rcases hy with hy | rfl
          · exact HA.out y hy
          · exact hb trivial⟩
        case measure => simp [intOf]; omega
      | false =>
        go_wp2
        go_ret
        exact ⟨⟨_, rfl, by simp⟩, hbw1⟩
    · have hd : decide ((k : Int) < (n : Int)) = false := by simp; omega
      obtain rfl : k = n := by omega
      by_cases h12 : k ≤ 60
      · have hd2 : decide ((k : Int) ≤ 60) = true := by simp; omega
        go_wp2
        go_ret
        exact ⟨⟨_, rfl, fun _ => ⟨h12, fun x hx => HA.out x (by rw [List.take_of_length_le (by rw [HL.out]; exact Nat.le_refl _)]; exact hx)⟩⟩, hbw⟩
      · have hd2 : decide ((k : Int) ≤ 60) = false := by simp; omega
        go_wp2
        go_ret
        exact ⟨⟨_, rfl, by simp⟩, hbw⟩
end Go.Proofs.Ytalfacbkofgdjaa.tb
