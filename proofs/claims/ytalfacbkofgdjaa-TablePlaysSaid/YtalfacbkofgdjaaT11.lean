/- Contract: Put. -/
import Derived.Test.YtalfacbkofgdjaaT10
namespace Go.Proofs.Ytalfacbkofgdjaa.tb
open Go.ChangeShapes Go.WideShapes Go.ChangeAt Go.RowKit Go.Proofs.Ytalfacbkofgdjaa.lib Go.Proofs.Ytalfacbkofgdjaa.val
set_option linter.unusedVariables false

theorem Hs.nth {w : World} {lo : Nat} {hs : List Value} {rows : List (List V)} (h : Hs w lo hs rows) : Hs w 0 hs rows := h.base (Nat.zero_le _)
theorem part_of {w : World} {lo n c : Nat} {A : Option Addr} {rows : List (List V)} (h : Rs w lo A n c rows) : ∃ cs, PartOk w ⟨A, n, c, cs⟩ ∧ Hs w 0 cs rows ∧ n = rows.length := by
  obtain ⟨hs, h1, h2, h3⟩ := h
  exact ⟨hs, ⟨h1.base (Nat.zero_le _), by rw [h2.1]; exact h3, h2.one_⟩, h2.nth, h3.symm⟩
theorem parts1 {w : World} {g : Nat} {t : TypeId} {lo n c : Nat} {A : Option Addr} {rows : List (List V)} (hb : Blk w g t #[.slice A n c]) (h : Rs w lo A n c rows) : ∃ ps, Parts w g 1 rows ps := by
  obtain ⟨cs, h1, h2, h3⟩ := part_of h
  refine ⟨[⟨A, n, c, cs⟩], rfl, hb.lt, by decide, fun i p hp => ?_, by simp [sumN]; exact h3, by simpa [allC] using h2⟩
  match i, hp with
  | 0, hp => injection hp with hp; subst hp; exact ⟨hb.cell 0, h1⟩
theorem parts2 {w : World} {g : Nat} {t : TypeId} {lo n c lo' n' c' : Nat} {A A' : Option Addr} {rows rows' : List (List V)} (hb : Blk w g t #[.slice A n c, .slice A' n' c']) (h : Rs w lo A n c rows) (h' : Rs w lo' A' n' c' rows') : ∃ ps, Parts w g 2 (rows ++ rows') ps := by
  obtain ⟨cs, h1, h2, h3⟩ := part_of h
  obtain ⟨cs', h1', h2', h3'⟩ := part_of h'
  refine ⟨[⟨A, n, c, cs⟩, ⟨A', n', c', cs'⟩], rfl, hb.lt, by decide, fun i p hp => ?_, by simp [sumN]; omega, by simpa [allC] using h2.append h2'⟩
  match i, hp with
  | 0, hp => injection hp with hp; subst hp; exact ⟨hb.cell 0, h1⟩
  | 1, hp => injection hp with hp; subst hp; exact ⟨hb.cell 1, h1'⟩
theorem parts3 {w : World} {g : Nat} {t : TypeId} {lo n c lo' n' c' lo2 n2 c2 : Nat} {A A' A2 : Option Addr} {rows rows' rows2 : List (List V)} (hb : Blk w g t #[.slice A n c, .slice A' n' c', .slice A2 n2 c2]) (h : Rs w lo A n c rows) (h' : Rs w lo' A' n' c' rows') (h2 : Rs w lo2 A2 n2 c2 rows2) :
    ∃ ps, Parts w g 3 (rows ++ (rows' ++ rows2)) ps := by
  obtain ⟨cs, a1, a2, a3⟩ := part_of h
  obtain ⟨cs', b1, b2, b3⟩ := part_of h'
  obtain ⟨cs2, c1, c2', c3⟩ := part_of h2
  refine ⟨[⟨A, n, c, cs⟩, ⟨A', n', c', cs'⟩, ⟨A2, n2, c2, cs2⟩], rfl, hb.lt, by decide, fun i p hp => ?_, by simp [sumN]; omega, by simpa [allC] using a2.append (b2.append c2')⟩
  match i, hp with
  | 0, hp => injection hp with hp; subst hp; exact ⟨hb.cell 0, a1⟩
  | 1, hp => injection hp with hp; subst hp; exact ⟨hb.cell 1, b1⟩
  | 2, hp => injection hp with hp; subst hp; exact ⟨hb.cell 2, c1⟩
theorem Cs.base' {w : World} {lo n c : Nat} {A : Option Addr} {l : List Col} (h : Cs w lo A n c l) : Cs w 0 A n c l := h.base (Nat.zero_le _)
theorem TabR.grownL {w w' : World} {g lo : Nat} {v : Value} {S : Sch} {rows : List (List V)} (h : TabR w lo v S rows) (hg : w.grownBy w' (some g)) (hl : g < lo) : TabR w' lo v S rows := by
  obtain ⟨A, n, c, A', n', c', e, h1, h2, h3⟩ := h
  exact ⟨A, n, c, A', n', c', e, h1.grownL hg hl, h2.grownL hg hl, h3⟩
theorem Rs.len {w : World} {lo n c : Nat} {A : Option Addr} {rows : List (List V)} (h : Rs w lo A n c rows) : rows.length = n := by obtain ⟨_, _, _, h⟩ := h; exact h
theorem Ok.small {cs : List Col} {key : Nat} {rows : List (List V)} (h : Ok cs key rows) (hc : cs.length ≤ 100) : ∀ r ∈ rows, r.length ≤ 100000 := fun r hr => by
  have := fits_len (h.fit r hr); omega
def PutP (S : Sch) (p : Int × List (List V)) (w : World) (e : Ending) (w' : World) : Prop := ∃ v, e = .returned (.tuple #[v, .int .i64 p.1]) ∧ TabR w' w.heap.size v S p.2 ∧ Below w.heap.size w w'
set_option maxHeartbeats 4000000 in
theorem put_ (S : Sch) (rows : List (List V)) (r : List V) (lo : Nat) (A : Option Addr) (n c : Nat) (A' : Option Addr) (n' c' : Nat) (lo' : Nat) (Ar : Option Addr) (m cr : Nat) (w : World)
    (hC : Cs w lo A n c S.cols) (hR : Rs w lo A' n' c' rows) (hF : Fine A') (hr : Vs w lo' Ar m cr r) (hs : Small r) (hOk : Ok S.cols S.key rows) (hn : S.cols.length ≤ 100) (hrows : rows.length ≤ 1000) (hm : m ≤ 100000) :
    Calls Try.prog 16 #[.agg (tabA S A n c A' n' c'), .slice Ar m cr] w (PutP S (putL S.cols S.key rows r) w) := by
  have hCn : n ≤ 100 := by rw [← hC.2]; exact hn
  have hRn := hR.len
  have HSm := Lib.hid (hOk.small hn)
  have HK := Lib.hid (hOk.keyed (Nat.le_trans hn (by decide)))
  have HO := Lib.hid hOk
  have HRN := Lib.hid hRn
  have hn' : n' ≤ 1000 := by omega
  clear hRn hOk
  have hCx := hC.base'
  have hfits := fun w' (h : Below w.heap.size w w') => fits_ S lo A n c r lo' Ar m cr w' (hC.ext h) (by omega) (hr.ext h) hm hs
  have hwith := fun (rs : List (List V)) ps g m w' (h : Below w.heap.size w w') hp hN hl => with_ S lo A n c A' n' c' rs ps g m w' (hC.ext h) (by omega) hp hN hl
  have hfind := fun (k : V) w' (h : Below w.heap.size w w') => find_ S k rows lo A n c A' n' c' w' (hR.ext h) HK.out HO.out.ord (by omega)
  have hkey := fun v w' (h : Below w.heap.size w w') hv => key_ S A n c A' n' c' r lo' Ar m cr v w' (hr.ext h) hv hm
  obtain ⟨p, hp⟩ : ∃ p, putL S.cols S.key rows r = p := ⟨_, rfl⟩
  rw [hp]
  have HP := Lib.hid hp
  clear hp
  unfold putL at HP
  obtain ⟨e, he⟩ : ∃ e, fitsL S.cols r = e := ⟨_, rfl⟩
  rw [he] at HP hfits
  have HE := Lib.hid he
  clear he
  have Hfits := Lib.hid hfits
  have Hwith := Lib.hid hwith
  have Hfind := Lib.hid hfind
  have Hkey := Lib.hid hkey
  clear hfits hwith hfind hkey hs hC
  obtain ⟨nm, cols, key, only⟩ := S
  simp only [tabA, schA] at Hfits Hwith Hfind Hkey HP hn HO HK HE hCx ⊢
  go_enter Try.func16, Try.ntmps16
  go_upto_region 1 with fail
  obtain ⟨W, hW_, hbW, B1, B2⟩ : ∃ W_, W_ = ((w.alloc (.cells #[.string nm, .slice A n c, .int .i64 key, .bool only, .slice A' n' c'] 32)).alloc (.cells #[.string ⟨#[]⟩, .slice none 0 0, .int .i64 0, .bool false, .slice none 0 0] 32)) ∧ Below w.heap.size w W_ ∧ Blk W_ (w.heap.size) 32 #[.string nm, .slice A n c, .int .i64 key, .bool only, .slice A' n' c'] ∧ Blk W_ (w.heap.size + 1) 32 #[.string ⟨#[]⟩, .slice none 0 0, .int .i64 0, .bool false, .slice none 0 0] :=
    ⟨_, rfl, (((Below.refl _ _).alloc (Nat.le_refl _) _).alloc (by simp; try omega) _), ((blk_new_at w (w.heap.size) _ _ (by simp)).alloc _), (blk_new_at (w.alloc (.cells #[.string nm, .slice A n c, .int .i64 key, .bool only, .slice A' n' c'] 32)) (w.heap.size + 1) _ _ (by simp))⟩
  rw [← hW_]
  clear hW_
  have q1 := five B1 (Below.refl _ _)
  have q1' := fun o => five B1 ((Below.refl _ _).alloc (Nat.le_refl _) o)
  have hz1 := B2.lt
  go_wp2_with fail
  clear q1 q1'
  obtain ⟨W2, hW_, hb2, B3⟩ : ∃ W_, W_ = (W.alloc (.cells #[.string nm, .slice A n c, .int .i64 key, .bool only, .slice A' n' c'] 75)) ∧ Below W.heap.size W W_ ∧ Blk W_ (W.heap.size) 75 #[.string nm, .slice A n c, .int .i64 key, .bool only, .slice A' n' c'] :=
    ⟨_, rfl, ((Below.refl _ _).alloc (Nat.le_refl _) _), (blk_new_at W (W.heap.size) _ _ (by simp))⟩
  rw [← hW_]
  clear hW_
  have hbW2 := Below.trans hbW (Below.mono hb2 hbW.size)
  have B1 := B1.ext hb2
  have B2 := B2.ext hb2
  have hz2 := B3.lt
  clear hb2
  refine (Hfits.out _ hbW2).mono ?_
  rintro e2 w3 ⟨rfl, hb3⟩
  have hbw3 := Below.trans hbW2 (Below.mono hb3 hbW2.size)
  have B1 := B1.ext hb3
  have B2 := B2.ext hb3
  have B3 := B3.ext hb3
  have hz3 := hb3.size
  clear hb3
  by_cases he0 : e = 0
  case neg =>
    have hd : (e != 0) = true := by simpa using he0
    have hpe : p = (e, rows) := by rw [← HP.out, if_pos he0]
    subst hpe
    have q1 := five B1 (Below.refl _ _)
    have q3 := five B3 (Below.refl _ _)
    go_wp2_with fail
    clear q1 q3
    obtain ⟨W4, hW_, hb4, B4⟩ : ∃ W_, W_ = (w3.alloc (.cells #[.slice A' n' c'] 30)) ∧ Below w3.heap.size w3 W_ ∧ Blk W_ (w3.heap.size) 30 #[.slice A' n' c'] :=
      ⟨_, rfl, ((Below.refl _ _).alloc (Nat.le_refl _) _), (blk_new_at w3 (w3.heap.size) _ _ (by simp))⟩
    rw [← hW_]
    clear hW_
    have hbwC := Below.trans hbw3 (Below.mono hb4 hbw3.size)
    have hzC := hb4.size
    have B2 := B2.ext hb4
    have hsmC := HSm.out
    obtain ⟨ps, hps⟩ := parts1 B4 (hR.ext hbwC)
    clear hb4
    refine (Hwith.out rows ps _ _ _ hbwC hps (by omega) hsmC).mono ?_
    rintro e5 w5 ⟨v, rfl, hT, hb5⟩
    have hT' := hT
    obtain ⟨A5, n5, c5, A6, n6, c6, rfl, _⟩ := hT
    simp only [tabA] at hT' ⊢
    have hbw5 := Below.trans hbwC (Below.mono hb5 hbwC.size)
    have B2 := B2.ext hb5
    have f0 := B2.frozen 0
    have f1 := B2.frozen 1
    have f2 := B2.frozen 2
    have f3 := B2.frozen 3
    have f4 := B2.frozen 4
    have q := five B2 (Below.refl _ _)
    go_wp2
    clear f0 f1 f2 f3 f4 q
    obtain ⟨w6, hw6, B6, hlow6, hgr6⟩ := Blk.set5 B2 (.string nm) (.slice A5 n5 c5) (.int .i64 key) (.bool only) (.slice A6 n6 c6)
    rw [← hw6]
    clear hw6
    have q := five B6 (Below.refl _ _)
    exact bodyPost_ret (v := .tuple #[.agg #[.string nm, .slice A5 n5 c5, .int .i64 key, .bool only, .slice A6 n6 c6], .int .i64 e]) (by simp [results, Try.results16, go_sem, q]; try rfl) rfl
      ⟨_, rfl, (hT'.grownL hgr6 (by omega)).base (by omega), Below.trans hbw5 (hlow6 _ (Nat.le_succ _))⟩
  case pos =>
    subst he0
    rw [if_neg (by simp)] at HP
    have hd : ((0 : Int) != 0) = false := by simp
    have hfit : fitsL cols r = 0 := HE.out
    obtain ⟨kv, hkv, hke, _⟩ := key_chk HO.out.kl hfit
    rw [hke] at HP
    have HKV := Lib.hid hkv
    clear hkv hke hfit
    have q3 := five B3 (Below.refl _ _)
    go_wp2_with fail
    clear q3 hd
    have D := fun w' (h : Below w3.heap.size w3.drew w') => five B3 (Below.trans (Below.refl _ _).drew h)
    refine wp_region_one [(0, true), (1, true), (2, true), (3, false), (4, false), (5, true), (6, true), (7, true), (8, true), (9, true)] (by kernel_rfl) (by kernel_rfl) (by kernel_rfl) (by decide) ?_
    repeat ((with_reducible show wpPerm _ _ _ _ ((_, true) :: _) _ _); (first | (refine wpPerm_on (v := ?_) rfl rfl (wanted_free rfl) (fun w' hS => ?_) ?_; rotate_left; (focus (go_simp; (try with_reducible rfl); done)); try simp only [List.setIfInBounds_toArray, List.set_cons_zero, List.set_cons_succ]) | (refine wpPerm_on (v := ?_) rfl rfl (wanted_yes rfl rfl rfl) (fun w' hS => ?_) ?_; rotate_left; (focus (go_simp; (try with_reducible rfl); done)); try simp only [List.setIfInBounds_toArray, List.set_cons_zero, List.set_cons_succ]) | (refine wpPerm_off rfl rfl (wanted_no rfl rfl rfl) ?_; try simp only [List.setIfInBounds_toArray, List.set_cons_zero, List.set_cons_succ]) | (refine wpPerm_off rfl rfl (wanted_undef rfl rfl rfl) ?_; try simp only [List.setIfInBounds_toArray, List.set_cons_zero, List.set_cons_succ])))
    refine wpPerm_do rfl (wanted_free rfl) (fun K hK => ?_); go_simp
    refine (Hkey.out kv _ hbw3.drew HKV.out).mono ?_
    rintro e4 w4 ⟨rfl, hb4⟩
    have hbw4 := Below.trans hbw3.drew (Below.mono hb4 hbw3.size)
    refine hK.out _ _ hb4 ?_
    clear hK K
    refine wpPerm_do rfl (wanted_free rfl) (fun K hK => ?_); go_simp
    refine (Hfind.out kv _ hbw4).mono ?_
    rintro e5 w5 ⟨rfl, hb5⟩
    obtain ⟨at_, hat⟩ : ∃ a, atL key kv rows = a := ⟨_, rfl⟩
    obtain ⟨is_, his⟩ : ∃ a, isL key kv rows = a := ⟨_, rfl⟩
    rw [hat, his] at HP ⊢
    have hb45 := Below.trans hb4 (Below.mono hb5 hb4.size)
    refine hK.out _ _ hb45 ?_
    clear hK K
    repeat ((with_reducible show wpPerm _ _ _ _ ((_, true) :: _) _ _); (first | (refine wpPerm_on (v := ?_) rfl rfl (wanted_free rfl) (fun w' hS => ?_) ?_; rotate_left; (focus (go_simp; (try with_reducible rfl); done)); try simp only [List.setIfInBounds_toArray, List.set_cons_zero, List.set_cons_succ]) | (refine wpPerm_on (v := ?_) rfl rfl (wanted_yes rfl rfl rfl) (fun w' hS => ?_) ?_; rotate_left; (focus (go_simp; (try with_reducible rfl); done)); try simp only [List.setIfInBounds_toArray, List.set_cons_zero, List.set_cons_succ]) | (refine wpPerm_off rfl rfl (wanted_no rfl rfl rfl) ?_; try simp only [List.setIfInBounds_toArray, List.set_cons_zero, List.set_cons_succ]) | (refine wpPerm_off rfl rfl (wanted_undef rfl rfl rfl) ?_; try simp only [List.setIfInBounds_toArray, List.set_cons_zero, List.set_cons_succ])))
    refine wpPerm_done ?_
    clear D
    have hbw5 := Below.trans hbw3.drew (Below.mono hb45 hbw3.size)
    have hbx := Below.trans (Below.refl _ w3).drew hb45
    have B1 := B1.ext hbx
    have B2 := B2.ext hbx
    have B3 := B3.ext hbx
    have hatn : at_ ≤ n' := by rw [← hat, ← HRN.out]; exact at_le _ _ _
    have hz5 := hbx.size
    have HAT := Lib.hid hat
    have HIS := Lib.hid his
    clear hat his hb4 hb5 hb45 hbw3 hbw4 hbx
    have hbw3 := hbw5
    clear hbw5
    cases is_ with
    | true =>
      have hpe : p = (7, rows) := by rw [← HP.out, if_pos rfl]
      subst hpe
      have q1 := five B1 (Below.refl _ _)
      have q3 := five B3 (Below.refl _ _)
      go_wp2_with fail
      clear q1 q3
      obtain ⟨W4, hW_, hb4, B4⟩ : ∃ W_, W_ = (w5.alloc (.cells #[.slice A' n' c'] 30)) ∧ Below w5.heap.size w5 W_ ∧ Blk W_ (w5.heap.size) 30 #[.slice A' n' c'] :=
        ⟨_, rfl, ((Below.refl _ _).alloc (Nat.le_refl _) _), (blk_new_at w5 (w5.heap.size) _ _ (by simp))⟩
      rw [← hW_]
      clear hW_
      have hbwC := Below.trans hbw3 (Below.mono hb4 hbw3.size)
      have hzC := hb4.size
      have B2 := B2.ext hb4
      have hsmC := HSm.out
      obtain ⟨ps, hps⟩ := parts1 B4 (hR.ext hbwC)
      clear hb4
      refine (Hwith.out rows ps _ _ _ hbwC hps (by omega) hsmC).mono ?_
      rintro e5 w5 ⟨v, rfl, hT, hb5⟩
      have hT' := hT
      obtain ⟨A5, n5, c5, A6, n6, c6, rfl, _⟩ := hT
      simp only [tabA] at hT' ⊢
      have hbw5 := Below.trans hbwC (Below.mono hb5 hbwC.size)
      have B2 := B2.ext hb5
      have f0 := B2.frozen 0
      have f1 := B2.frozen 1
      have f2 := B2.frozen 2
      have f3 := B2.frozen 3
      have f4 := B2.frozen 4
      have q := five B2 (Below.refl _ _)
      go_wp2
      clear f0 f1 f2 f3 f4 q
      obtain ⟨w6, hw6, B6, hlow6, hgr6⟩ := Blk.set5 B2 (.string nm) (.slice A5 n5 c5) (.int .i64 key) (.bool only) (.slice A6 n6 c6)
      rw [← hw6]
      clear hw6
      have q := five B6 (Below.refl _ _)
      exact bodyPost_ret (v := .tuple #[.agg #[.string nm, .slice A5 n5 c5, .int .i64 key, .bool only, .slice A6 n6 c6], .int .i64 7]) (by simp [results, Try.results16, go_sem, q]; try rfl) rfl
        ⟨_, rfl, (hT'.grownL hgr6 (by omega)).base (by omega), Below.trans hbw5 (hlow6 _ (Nat.le_succ _))⟩
    | false =>
      rw [if_neg (by simp)] at HP
      by_cases hl : 200 ≤ rows.length
      · have hpe : p = (4, rows) := by rw [← HP.out, if_pos hl]
        subst hpe
        have hd : decide (200 ≤ (n' : Int)) = true := by have := HRN.out; simp; omega
        have q1 := five B1 (Below.refl _ _)
        have q3 := five B3 (Below.refl _ _)
        go_wp2_with fail
        clear q1 q3
        obtain ⟨W4, hW_, hb4, B4⟩ : ∃ W_, W_ = (w5.alloc (.cells #[.slice A' n' c'] 30)) ∧ Below w5.heap.size w5 W_ ∧ Blk W_ (w5.heap.size) 30 #[.slice A' n' c'] :=
          ⟨_, rfl, ((Below.refl _ _).alloc (Nat.le_refl _) _), (blk_new_at w5 (w5.heap.size) _ _ (by simp))⟩
        rw [← hW_]
        clear hW_
        have hbwC := Below.trans hbw3 (Below.mono hb4 hbw3.size)
        have hzC := hb4.size
        have B2 := B2.ext hb4
        have hsmC := HSm.out
        obtain ⟨ps, hps⟩ := parts1 B4 (hR.ext hbwC)
        clear hb4
        refine (Hwith.out rows ps _ _ _ hbwC hps (by omega) hsmC).mono ?_
        rintro e5 w5 ⟨v, rfl, hT, hb5⟩
        have hT' := hT
        obtain ⟨A5, n5, c5, A6, n6, c6, rfl, _⟩ := hT
        simp only [tabA] at hT' ⊢
        have hbw5 := Below.trans hbwC (Below.mono hb5 hbwC.size)
        have B2 := B2.ext hb5
        have f0 := B2.frozen 0
        have f1 := B2.frozen 1
        have f2 := B2.frozen 2
        have f3 := B2.frozen 3
        have f4 := B2.frozen 4
        have q := five B2 (Below.refl _ _)
        go_wp2
        clear f0 f1 f2 f3 f4 q
        obtain ⟨w6, hw6, B6, hlow6, hgr6⟩ := Blk.set5 B2 (.string nm) (.slice A5 n5 c5) (.int .i64 key) (.bool only) (.slice A6 n6 c6)
        rw [← hw6]
        clear hw6
        have q := five B6 (Below.refl _ _)
        exact bodyPost_ret (v := .tuple #[.agg #[.string nm, .slice A5 n5 c5, .int .i64 key, .bool only, .slice A6 n6 c6], .int .i64 4]) (by simp [results, Try.results16, go_sem, q]; try rfl) rfl
          ⟨_, rfl, (hT'.grownL hgr6 (by omega)).base (by omega), Below.trans hbw5 (hlow6 _ (Nat.le_succ _))⟩
      · rw [if_neg hl] at HP
        have hd : decide (200 ≤ (n' : Int)) = false := by have := HRN.out; simp; omega
        have q1 := five B1 (Below.refl _ _)
        go_wp2_with fail
        clear q1 hd
        have hbw5 := hbw3.drew
        have B1 : Blk w5.drew _ _ _ := B1
        have B2 : Blk w5.drew _ _ _ := B2
        have B3 : Blk w5.drew _ _ _ := B3
        have hz5 : w3.heap.size ≤ w5.drew.heap.size := hz5
        have hle : n' ≤ c' := by obtain ⟨_, h, _⟩ := hR; exact h.le_
        have hle : n' ≤ c' := by obtain ⟨_, h, _⟩ := hR; exact h.le_
        rcases hF with rfl | ⟨bA, oA, rfl⟩
        · obtain ⟨rfl, rfl, rfl⟩ : n' = 0 ∧ c' = 0 ∧ rows = [] := by
            obtain ⟨hs, R, H, hl⟩ := hR
            rcases R with h | ⟨_, h, _⟩ | ⟨_, _, h, _⟩
            · exact ⟨h.2.1, h.2.2.1, List.length_eq_zero_iff.1 (by omega)⟩
            · cases h
            · cases h
          obtain rfl : at_ = 0 := by omega
          refine wp_region_oneS (S := fun w' => (Blk w' w.heap.size 32 #[.string nm, .slice A n c, .int .i64 key, .bool only, .slice none 0 0] ∧ Blk w' W.heap.size 75 #[.string nm, .slice A n c, .int .i64 key, .bool only, .slice none 0 0]) ∧ Below w.heap.size w w')
            [(0, true), (1, true), (2, true), (3, true), (4, true), (5, true), (6, true), (8, true), (9, true), (10, true), (11, true), (7, false), (12, false), (13, false), (14, false), (15, true)] (by kernel_rfl) (by kernel_rfl) (by kernel_rfl) (by decide) ⟨⟨B1, B3⟩, hbw5⟩ ?_
          have D := fun w' (h : (Blk w' w.heap.size 32 #[.string nm, .slice A n c, .int .i64 key, .bool only, .slice none 0 0] ∧ Blk w' W.heap.size 75 #[.string nm, .slice A n c, .int .i64 key, .bool only, .slice none 0 0]) ∧ Below w.heap.size w w') => five h.1.1 (Below.refl _ _)
          have D3 := fun w' (h : (Blk w' w.heap.size 32 #[.string nm, .slice A n c, .int .i64 key, .bool only, .slice none 0 0] ∧ Blk w' W.heap.size 75 #[.string nm, .slice A n c, .int .i64 key, .bool only, .slice none 0 0]) ∧ Below w.heap.size w w') => five h.1.2 (Below.refl _ _)
          generalize w5.drew = wd at *
          repeat ((with_reducible show wpPerm _ _ _ _ ((_, true) :: _) _ _); (first | (refine wpPerm_on (v := ?_) rfl rfl (wanted_free rfl) (fun w' hS => ?_) ?_; rotate_left; (focus (go_simp; (try with_reducible rfl); done)); try simp only [List.setIfInBounds_toArray, List.set_cons_zero, List.set_cons_succ]) | (refine wpPerm_on (v := ?_) rfl rfl (wanted_yes rfl rfl rfl) (fun w' hS => ?_) ?_; rotate_left; (focus (go_simp; (try with_reducible rfl); done)); try simp only [List.setIfInBounds_toArray, List.set_cons_zero, List.set_cons_succ]) | (refine wpPerm_off rfl rfl (wanted_no rfl rfl rfl) ?_; try simp only [List.setIfInBounds_toArray, List.set_cons_zero, List.set_cons_succ]) | (refine wpPerm_off rfl rfl (wanted_undef rfl rfl rfl) ?_; try simp only [List.setIfInBounds_toArray, List.set_cons_zero, List.set_cons_succ])))
          refine wpPerm_do rfl (wanted_free rfl) (fun K hK => ?_); go_simp
          refine hK.out _ _ ⟨⟨B1.alloc _, B3.alloc _⟩, hbw5.alloc hbw5.size _⟩ ?_
          clear hK K
          refine wpPerm_do rfl (wanted_free rfl) (fun K hK => ?_); go_simp
          refine hK.out _ _ ⟨⟨(B1.alloc _).alloc _, (B3.alloc _).alloc _⟩, (hbw5.alloc hbw5.size _).alloc (by have := hbw5.size; simp; omega) _⟩ ?_
          clear hK K
          obtain ⟨W6, hW_, hb6, B5, B6⟩ : ∃ W_, W_ = ((wd.alloc (.cells #[.slice Ar m cr] 33)).alloc (.cells #[.slice none 0 0, .slice (some ⟨wd.heap.size, 0, none⟩) 1 1, .slice none 0 0] 30)) ∧ Below wd.heap.size wd W_ ∧ Blk W_ (wd.heap.size) 33 #[.slice Ar m cr] ∧ Blk W_ (wd.heap.size + 1) 30 #[.slice none 0 0, .slice (some ⟨wd.heap.size, 0, none⟩) 1 1, .slice none 0 0] :=
            ⟨_, rfl, (((Below.refl _ _).alloc (Nat.le_refl _) _).alloc (by simp; try omega) _), ((blk_new_at wd (wd.heap.size) _ _ (by simp)).alloc _), (blk_new_at (wd.alloc (.cells #[.slice Ar m cr] 33)) (wd.heap.size + 1) _ _ (by simp))⟩
          rw [← hW_]
          clear hW_
          clear D D3
          have hbwC := Below.trans hbw5 (Below.mono hb6 hbw5.size)
          have hzC := hb6.size
          have B1 := B1.ext hb6
          have B3 := B3.ext hb6
          have B2 := B2.ext hb6
          have B5l := B5.lt
          have hRr : Rs W6 0 (some ⟨wd.heap.size, 0, none⟩) 1 1 [r] := ⟨[.slice Ar m cr], Row.of_blk B5 (Nat.zero_le _) 1 1 (Nat.le_refl _), Hs.one ⟨Ar, cr, by rw [hr.2], by rw [hr.2]; exact (hr.ext hbwC).base (Nat.zero_le _)⟩, rfl⟩
          have hR1 : Rs W6 0 none 0 0 (([] : List (List V)).take 0) := Rs.nil _ _
          have hR3 : Rs W6 0 none 0 0 (([] : List (List V)).drop 0) := Rs.nil _ _
          obtain ⟨ps, hps⟩ := parts3 B6 hR1 hRr hR3
          refine wpPerm_do rfl (wanted_free rfl) (fun K hK => ?_); go_simp
          refine (Hwith.out _ ps _ _ _ hbwC hps (by simp; try omega) ?_).mono ?_
          · intro x hx
            rcases List.mem_append.1 hx with hx | hx
            · exact HSm.out x (List.mem_of_mem_take hx)
            rcases List.mem_append.1 hx with hx | hx
            · rw [List.mem_singleton] at hx
              rw [hx, hr.2]; omega
            · exact HSm.out x (List.mem_of_mem_drop hx)
          rintro e7 w7 ⟨v, rfl, hT, hb7⟩
          have hT' := hT
          obtain ⟨A5, n5, c5, A6, n6, c6, rfl, _⟩ := hT
          simp only [tabA] at hT' ⊢
          have hbw7 := Below.trans hbwC (Below.mono hb7 hbwC.size)
          have B2 := B2.ext hb7
          refine hK.out _ _ ⟨⟨B1.ext hb7, B3.ext hb7⟩, hbw7⟩ ?_
          clear hK K
          have f0 := B2.frozen 0
          have f1 := B2.frozen 1
          have f2 := B2.frozen 2
          have f3 := B2.frozen 3
          have f4 := B2.frozen 4
          have q := five B2 (Below.refl _ _)
          refine wpPerm_do rfl (wanted_free rfl) (fun K hK => ?_); go_simp
          clear f0 f1 f2 f3 f4 q
          obtain ⟨w8, hw8, B8, hlow8, hgr8⟩ := Blk.set5 B2 (.string nm) (.slice A5 n5 c5) (.int .i64 key) (.bool only) (.slice A6 n6 c6)
          rw [← hw8]
          clear hw8
          have hbw8 := Below.trans hbw7 (hlow8 _ (Nat.le_succ _))
          refine hK.out _ _ ⟨⟨(B1.ext hb7).grown hgr8 (by simp), (B3.ext hb7).grown hgr8 (by simp; omega)⟩, hbw8⟩ ?_
          clear hK K
          repeat ((with_reducible show wpPerm _ _ _ _ ((_, true) :: _) _ _); (first | (refine wpPerm_on (v := ?_) rfl rfl (wanted_free rfl) (fun w' hS => ?_) ?_; rotate_left; (focus (go_simp; (try with_reducible rfl); done)); try simp only [List.setIfInBounds_toArray, List.set_cons_zero, List.set_cons_succ]) | (refine wpPerm_on (v := ?_) rfl rfl (wanted_yes rfl rfl rfl) (fun w' hS => ?_) ?_; rotate_left; (focus (go_simp; (try with_reducible rfl); done)); try simp only [List.setIfInBounds_toArray, List.set_cons_zero, List.set_cons_succ]) | (refine wpPerm_off rfl rfl (wanted_no rfl rfl rfl) ?_; try simp only [List.setIfInBounds_toArray, List.set_cons_zero, List.set_cons_succ]) | (refine wpPerm_off rfl rfl (wanted_undef rfl rfl rfl) ?_; try simp only [List.setIfInBounds_toArray, List.set_cons_zero, List.set_cons_succ])))
          refine wpPerm_done ?_
          have q := five B8 (Below.refl _ _)
          go_wp2
          exact bodyPost_ret (v := .tuple #[.agg #[.string nm, .slice A5 n5 c5, .int .i64 key, .bool only, .slice A6 n6 c6], .int .i64 0]) (by simp [results, Try.results16, go_sem, q]; try rfl) rfl
            ⟨_, by rw [← HP.out], by rw [← HP.out]; exact (hT'.grownL hgr8 (by omega)).base (by omega), hbw8⟩
        · have hcut1 : ∀ w', Below w.heap.size w w' → Rs w' 0 (some ⟨bA, oA, none⟩) at_ at_ (rows.take at_) := fun w' hb => by
            obtain ⟨hs, R, H, hl⟩ := hR.ext hb
            exact ⟨hs.take at_, (R.take at_ at_ at_ (Nat.le_refl _) hatn).base (Nat.zero_le _), (H.base (Nat.zero_le _)).take at_, by rw [List.length_take, hl]; omega⟩
          have hcut3 : ∀ w', Below w.heap.size w w' → Rs w' 0 (some ⟨bA, oA + at_, none⟩) (n' - at_) (c' - at_) (rows.drop at_) := fun w' hb => by
            obtain ⟨hs, R, H, hl⟩ := hR.ext hb
            exact ⟨hs.drop at_, (R.drop (n' - at_) (c' - at_) at_ (by omega) (by omega)).base (Nat.zero_le _), (H.base (Nat.zero_le _)).drop at_, by rw [List.length_drop, hl]⟩
          have hac : at_ ≤ c' := by omega
          by_cases hca : c' = at_
          · obtain rfl : n' = c' := by omega
            obtain rfl : n' = at_ := hca
            refine wp_region_oneS (S := fun w' => (Blk w' w.heap.size 32 #[.string nm, .slice A n c, .int .i64 key, .bool only, .slice (some ⟨bA, oA, none⟩) n' n'] ∧ Blk w' W.heap.size 75 #[.string nm, .slice A n c, .int .i64 key, .bool only, .slice (some ⟨bA, oA, none⟩) n' n']) ∧ Below w.heap.size w w')
              [(0, true), (1, true), (2, true), (3, true), (4, true), (5, true), (6, true), (8, true), (9, true), (10, true), (11, true), (7, false), (12, false), (13, false), (14, false), (15, true)] (by kernel_rfl) (by kernel_rfl) (by kernel_rfl) (by decide) ⟨⟨B1, B3⟩, hbw5⟩ ?_
            have D := fun w' (h : (Blk w' w.heap.size 32 #[.string nm, .slice A n c, .int .i64 key, .bool only, .slice (some ⟨bA, oA, none⟩) n' n'] ∧ Blk w' W.heap.size 75 #[.string nm, .slice A n c, .int .i64 key, .bool only, .slice (some ⟨bA, oA, none⟩) n' n']) ∧ Below w.heap.size w w') => five h.1.1 (Below.refl _ _)
            have D3 := fun w' (h : (Blk w' w.heap.size 32 #[.string nm, .slice A n c, .int .i64 key, .bool only, .slice (some ⟨bA, oA, none⟩) n' n'] ∧ Blk w' W.heap.size 75 #[.string nm, .slice A n c, .int .i64 key, .bool only, .slice (some ⟨bA, oA, none⟩) n' n']) ∧ Below w.heap.size w w') => five h.1.2 (Below.refl _ _)
            generalize w5.drew = wd at *
            repeat ((with_reducible show wpPerm _ _ _ _ ((_, true) :: _) _ _); (first | (refine wpPerm_on (v := ?_) rfl rfl (wanted_free rfl) (fun w' hS => ?_) ?_; rotate_left; (focus (go_simp; (try with_reducible rfl); done)); try simp only [List.setIfInBounds_toArray, List.set_cons_zero, List.set_cons_succ]) | (refine wpPerm_on (v := ?_) rfl rfl (wanted_yes rfl rfl rfl) (fun w' hS => ?_) ?_; rotate_left; (focus (go_simp; (try with_reducible rfl); done)); try simp only [List.setIfInBounds_toArray, List.set_cons_zero, List.set_cons_succ]) | (refine wpPerm_off rfl rfl (wanted_no rfl rfl rfl) ?_; try simp only [List.setIfInBounds_toArray, List.set_cons_zero, List.set_cons_succ]) | (refine wpPerm_off rfl rfl (wanted_undef rfl rfl rfl) ?_; try simp only [List.setIfInBounds_toArray, List.set_cons_zero, List.set_cons_succ])))
            refine wpPerm_do rfl (wanted_free rfl) (fun K hK => ?_); go_simp
            refine hK.out _ _ ⟨⟨B1.alloc _, B3.alloc _⟩, hbw5.alloc hbw5.size _⟩ ?_
            clear hK K
            refine wpPerm_do rfl (wanted_free rfl) (fun K hK => ?_); go_simp
            refine hK.out _ _ ⟨⟨(B1.alloc _).alloc _, (B3.alloc _).alloc _⟩, (hbw5.alloc hbw5.size _).alloc (by have := hbw5.size; simp; omega) _⟩ ?_
            clear hK K
            obtain ⟨W6, hW_, hb6, B5, B6⟩ : ∃ W_, W_ = ((wd.alloc (.cells #[.slice Ar m cr] 33)).alloc (.cells #[.slice (some ⟨bA, oA, none⟩) n' n', .slice (some ⟨wd.heap.size, 0, none⟩) 1 1, .slice (some ⟨bA, oA, none⟩) 0 0] 30)) ∧ Below wd.heap.size wd W_ ∧ Blk W_ (wd.heap.size) 33 #[.slice Ar m cr] ∧ Blk W_ (wd.heap.size + 1) 30 #[.slice (some ⟨bA, oA, none⟩) n' n', .slice (some ⟨wd.heap.size, 0, none⟩) 1 1, .slice (some ⟨bA, oA, none⟩) 0 0] :=
              ⟨_, rfl, (((Below.refl _ _).alloc (Nat.le_refl _) _).alloc (by simp; try omega) _), ((blk_new_at wd (wd.heap.size) _ _ (by simp)).alloc _), (blk_new_at (wd.alloc (.cells #[.slice Ar m cr] 33)) (wd.heap.size + 1) _ _ (by simp))⟩
            rw [← hW_]
            clear hW_
            clear D D3
            have hbwC := Below.trans hbw5 (Below.mono hb6 hbw5.size)
            have hzC := hb6.size
            have B1 := B1.ext hb6
            have B3 := B3.ext hb6
            have B2 := B2.ext hb6
            have B5l := B5.lt
            have hRr : Rs W6 0 (some ⟨wd.heap.size, 0, none⟩) 1 1 [r] := ⟨[.slice Ar m cr], Row.of_blk B5 (Nat.zero_le _) 1 1 (Nat.le_refl _), Hs.one ⟨Ar, cr, by rw [hr.2], by rw [hr.2]; exact (hr.ext hbwC).base (Nat.zero_le _)⟩, rfl⟩
            have hR1 := hcut1 W6 hbwC
            have hR3 : Rs W6 0 (some ⟨bA, oA, none⟩) 0 0 (rows.drop n') := ⟨[], Row.empty _ _ _ _, by rw [List.drop_eq_nil_of_le (by have := HRN.out; omega)]; exact Hs.nil _ _, by rw [List.drop_eq_nil_of_le (by have := HRN.out; omega)]; rfl⟩
            obtain ⟨ps, hps⟩ := parts3 B6 hR1 hRr hR3
            refine wpPerm_do rfl (wanted_free rfl) (fun K hK => ?_); go_simp
            refine (Hwith.out _ ps _ _ _ hbwC hps (by simp; try omega) ?_).mono ?_
            · intro x hx
              rcases List.mem_append.1 hx with hx | hx
              · exact HSm.out x (List.mem_of_mem_take hx)
              rcases List.mem_append.1 hx with hx | hx
              · rw [List.mem_singleton] at hx
                rw [hx, hr.2]; omega
              · exact HSm.out x (List.mem_of_mem_drop hx)
            rintro e7 w7 ⟨v, rfl, hT, hb7⟩
            have hT' := hT
            obtain ⟨A5, n5, c5, A6, n6, c6, rfl, _⟩ := hT
            simp only [tabA] at hT' ⊢
            have hbw7 := Below.trans hbwC (Below.mono hb7 hbwC.size)
            have B2 := B2.ext hb7
            refine hK.out _ _ ⟨⟨B1.ext hb7, B3.ext hb7⟩, hbw7⟩ ?_
            clear hK K
            have f0 := B2.frozen 0
            have f1 := B2.frozen 1
            have f2 := B2.frozen 2
            have f3 := B2.frozen 3
            have f4 := B2.frozen 4
            have q := five B2 (Below.refl _ _)
            refine wpPerm_do rfl (wanted_free rfl) (fun K hK => ?_); go_simp
            clear f0 f1 f2 f3 f4 q
            obtain ⟨w8, hw8, B8, hlow8, hgr8⟩ := Blk.set5 B2 (.string nm) (.slice A5 n5 c5) (.int .i64 key) (.bool only) (.slice A6 n6 c6)
            rw [← hw8]
            clear hw8
            have hbw8 := Below.trans hbw7 (hlow8 _ (Nat.le_succ _))
            refine hK.out _ _ ⟨⟨(B1.ext hb7).grown hgr8 (by simp), (B3.ext hb7).grown hgr8 (by simp; omega)⟩, hbw8⟩ ?_
            clear hK K
            repeat ((with_reducible show wpPerm _ _ _ _ ((_, true) :: _) _ _); (first | (refine wpPerm_on (v := ?_) rfl rfl (wanted_free rfl) (fun w' hS => ?_) ?_; rotate_left; (focus (go_simp; (try with_reducible rfl); done)); try simp only [List.setIfInBounds_toArray, List.set_cons_zero, List.set_cons_succ]) | (refine wpPerm_on (v := ?_) rfl rfl (wanted_yes rfl rfl rfl) (fun w' hS => ?_) ?_; rotate_left; (focus (go_simp; (try with_reducible rfl); done)); try simp only [List.setIfInBounds_toArray, List.set_cons_zero, List.set_cons_succ]) | (refine wpPerm_off rfl rfl (wanted_no rfl rfl rfl) ?_; try simp only [List.setIfInBounds_toArray, List.set_cons_zero, List.set_cons_succ]) | (refine wpPerm_off rfl rfl (wanted_undef rfl rfl rfl) ?_; try simp only [List.setIfInBounds_toArray, List.set_cons_zero, List.set_cons_succ])))
            refine wpPerm_done ?_
            have q := five B8 (Below.refl _ _)
            go_wp2
            exact bodyPost_ret (v := .tuple #[.agg #[.string nm, .slice A5 n5 c5, .int .i64 key, .bool only, .slice A6 n6 c6], .int .i64 0]) (by simp [results, Try.results16, go_sem, q]; try rfl) rfl
              ⟨_, by rw [← HP.out], by rw [← HP.out]; exact (hT'.grownL hgr8 (by omega)).base (by omega), hbw8⟩
          · have hca' : ¬ at_ = c' := fun e => hca e.symm
            refine wp_region_oneS (S := fun w' => (Blk w' w.heap.size 32 #[.string nm, .slice A n c, .int .i64 key, .bool only, .slice (some ⟨bA, oA, none⟩) n' c'] ∧ Blk w' W.heap.size 75 #[.string nm, .slice A n c, .int .i64 key, .bool only, .slice (some ⟨bA, oA, none⟩) n' c']) ∧ Below w.heap.size w w')
              [(0, true), (1, true), (2, true), (3, true), (4, true), (5, true), (6, true), (8, true), (9, true), (10, true), (11, true), (7, false), (12, false), (13, false), (14, false), (15, true)] (by kernel_rfl) (by kernel_rfl) (by kernel_rfl) (by decide) ⟨⟨B1, B3⟩, hbw5⟩ ?_
            have D := fun w' (h : (Blk w' w.heap.size 32 #[.string nm, .slice A n c, .int .i64 key, .bool only, .slice (some ⟨bA, oA, none⟩) n' c'] ∧ Blk w' W.heap.size 75 #[.string nm, .slice A n c, .int .i64 key, .bool only, .slice (some ⟨bA, oA, none⟩) n' c']) ∧ Below w.heap.size w w') => five h.1.1 (Below.refl _ _)
            have D3 := fun w' (h : (Blk w' w.heap.size 32 #[.string nm, .slice A n c, .int .i64 key, .bool only, .slice (some ⟨bA, oA, none⟩) n' c'] ∧ Blk w' W.heap.size 75 #[.string nm, .slice A n c, .int .i64 key, .bool only, .slice (some ⟨bA, oA, none⟩) n' c']) ∧ Below w.heap.size w w') => five h.1.2 (Below.refl _ _)
            generalize w5.drew = wd at *
            repeat ((with_reducible show wpPerm _ _ _ _ ((_, true) :: _) _ _); (first | (refine wpPerm_on (v := ?_) rfl rfl (wanted_free rfl) (fun w' hS => ?_) ?_; rotate_left; (focus (go_simp; (try with_reducible rfl); done)); try simp only [List.setIfInBounds_toArray, List.set_cons_zero, List.set_cons_succ]) | (refine wpPerm_on (v := ?_) rfl rfl (wanted_yes rfl rfl rfl) (fun w' hS => ?_) ?_; rotate_left; (focus (go_simp; (try with_reducible rfl); done)); try simp only [List.setIfInBounds_toArray, List.set_cons_zero, List.set_cons_succ]) | (refine wpPerm_off rfl rfl (wanted_no rfl rfl rfl) ?_; try simp only [List.setIfInBounds_toArray, List.set_cons_zero, List.set_cons_succ]) | (refine wpPerm_off rfl rfl (wanted_undef rfl rfl rfl) ?_; try simp only [List.setIfInBounds_toArray, List.set_cons_zero, List.set_cons_succ])))
            refine wpPerm_do rfl (wanted_free rfl) (fun K hK => ?_); go_simp
            refine hK.out _ _ ⟨⟨B1.alloc _, B3.alloc _⟩, hbw5.alloc hbw5.size _⟩ ?_
            clear hK K
            refine wpPerm_do rfl (wanted_free rfl) (fun K hK => ?_); go_simp
            refine hK.out _ _ ⟨⟨(B1.alloc _).alloc _, (B3.alloc _).alloc _⟩, (hbw5.alloc hbw5.size _).alloc (by have := hbw5.size; simp; omega) _⟩ ?_
            clear hK K
            obtain ⟨W6, hW_, hb6, B5, B6⟩ : ∃ W_, W_ = ((wd.alloc (.cells #[.slice Ar m cr] 33)).alloc (.cells #[.slice (some ⟨bA, oA, none⟩) at_ at_, .slice (some ⟨wd.heap.size, 0, none⟩) 1 1, .slice (some ⟨bA, oA + at_, none⟩) (n' - at_) (c' - at_)] 30)) ∧ Below wd.heap.size wd W_ ∧ Blk W_ (wd.heap.size) 33 #[.slice Ar m cr] ∧ Blk W_ (wd.heap.size + 1) 30 #[.slice (some ⟨bA, oA, none⟩) at_ at_, .slice (some ⟨wd.heap.size, 0, none⟩) 1 1, .slice (some ⟨bA, oA + at_, none⟩) (n' - at_) (c' - at_)] :=
              ⟨_, rfl, (((Below.refl _ _).alloc (Nat.le_refl _) _).alloc (by simp; try omega) _), ((blk_new_at wd (wd.heap.size) _ _ (by simp)).alloc _), (blk_new_at (wd.alloc (.cells #[.slice Ar m cr] 33)) (wd.heap.size + 1) _ _ (by simp))⟩
            rw [← hW_]
            clear hW_
            clear D D3
            have hbwC := Below.trans hbw5 (Below.mono hb6 hbw5.size)
            have hzC := hb6.size
            have B1 := B1.ext hb6
            have B3 := B3.ext hb6
            have B2 := B2.ext hb6
            have B5l := B5.lt
            have hRr : Rs W6 0 (some ⟨wd.heap.size, 0, none⟩) 1 1 [r] := ⟨[.slice Ar m cr], Row.of_blk B5 (Nat.zero_le _) 1 1 (Nat.le_refl _), Hs.one ⟨Ar, cr, by rw [hr.2], by rw [hr.2]; exact (hr.ext hbwC).base (Nat.zero_le _)⟩, rfl⟩
            have hR1 := hcut1 W6 hbwC
            have hR3 := hcut3 W6 hbwC
            obtain ⟨ps, hps⟩ := parts3 B6 hR1 hRr hR3
            refine wpPerm_do rfl (wanted_free rfl) (fun K hK => ?_); go_simp
            refine (Hwith.out _ ps _ _ _ hbwC hps (by simp; try omega) ?_).mono ?_
            · intro x hx
              rcases List.mem_append.1 hx with hx | hx
              · exact HSm.out x (List.mem_of_mem_take hx)
              rcases List.mem_append.1 hx with hx | hx
              · rw [List.mem_singleton] at hx
                rw [hx, hr.2]; omega
              · exact HSm.out x (List.mem_of_mem_drop hx)
            rintro e7 w7 ⟨v, rfl, hT, hb7⟩
            have hT' := hT
            obtain ⟨A5, n5, c5, A6, n6, c6, rfl, _⟩ := hT
            simp only [tabA] at hT' ⊢
            have hbw7 := Below.trans hbwC (Below.mono hb7 hbwC.size)
            have B2 := B2.ext hb7
            refine hK.out _ _ ⟨⟨B1.ext hb7, B3.ext hb7⟩, hbw7⟩ ?_
            clear hK K
            have f0 := B2.frozen 0
            have f1 := B2.frozen 1
            have f2 := B2.frozen 2
            have f3 := B2.frozen 3
            have f4 := B2.frozen 4
            have q := five B2 (Below.refl _ _)
            refine wpPerm_do rfl (wanted_free rfl) (fun K hK => ?_); go_simp
            clear f0 f1 f2 f3 f4 q
            obtain ⟨w8, hw8, B8, hlow8, hgr8⟩ := Blk.set5 B2 (.string nm) (.slice A5 n5 c5) (.int .i64 key) (.bool only) (.slice A6 n6 c6)
            rw [← hw8]
            clear hw8
            have hbw8 := Below.trans hbw7 (hlow8 _ (Nat.le_succ _))
            refine hK.out _ _ ⟨⟨(B1.ext hb7).grown hgr8 (by simp), (B3.ext hb7).grown hgr8 (by simp; omega)⟩, hbw8⟩ ?_
            clear hK K
            repeat ((with_reducible show wpPerm _ _ _ _ ((_, true) :: _) _ _); (first | (refine wpPerm_on (v := ?_) rfl rfl (wanted_free rfl) (fun w' hS => ?_) ?_; rotate_left; (focus (go_simp; (try with_reducible rfl); done)); try simp only [List.setIfInBounds_toArray, List.set_cons_zero, List.set_cons_succ]) | (refine wpPerm_on (v := ?_) rfl rfl (wanted_yes rfl rfl rfl) (fun w' hS => ?_) ?_; rotate_left; (focus (go_simp; (try with_reducible rfl); done)); try simp only [List.setIfInBounds_toArray, List.set_cons_zero, List.set_cons_succ]) | (refine wpPerm_off rfl rfl (wanted_no rfl rfl rfl) ?_; try simp only [List.setIfInBounds_toArray, List.set_cons_zero, List.set_cons_succ]) | (refine wpPerm_off rfl rfl (wanted_undef rfl rfl rfl) ?_; try simp only [List.setIfInBounds_toArray, List.set_cons_zero, List.set_cons_succ])))
            refine wpPerm_done ?_
            have q := five B8 (Below.refl _ _)
            go_wp2
            exact bodyPost_ret (v := .tuple #[.agg #[.string nm, .slice A5 n5 c5, .int .i64 key, .bool only, .slice A6 n6 c6], .int .i64 0]) (by simp [results, Try.results16, go_sem, q]; try rfl) rfl
              ⟨_, by rw [← HP.out], by rw [← HP.out]; exact (hT'.grownL hgr8 (by omega)).base (by omega), hbw8⟩
end Go.Proofs.Ytalfacbkofgdjaa.tb
