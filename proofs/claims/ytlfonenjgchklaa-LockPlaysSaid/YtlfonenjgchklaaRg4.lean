/- Contract: the document's Ask. Printed by genrg4.py. -/
import Derived.Test.YtlfonenjgchklaaRg3
import Derived.Test.YtlfonenjgchklaaRf2
import Derived.Laws.AppendOwnNone
namespace Go.Proofs.Ytlfonenjgchklaa.lk
open Go.ChangeShapes Go.WideShapes Go.ChangeAt Go.RowKit Go.Proofs.Ytlfonenjgchklaa.lib
set_option linter.unusedVariables false

theorem Hs.put {w : World} {g k : Nat} {u : Value} {A : Option Addr} {l : List Hd} (h : Hs w A l) (hne : ∀ b, A = some ⟨b, 0, none⟩ → b ≠ g) : Hs (w.setCell ⟨g, k, none⟩ u) A l :=
  h.grown (row := some g) ⟨rfl, rfl, rfl, by simp [World.setCell], fun i _ hne => Below.heap_setCell _ _ _ _ (fun e => hne (by rw [e]))⟩ (fun b e hr => hne b e (by injection hr))
theorem agB_comm (a b : Hd) : agB a b = agB b a := by
  unfold agB
  rw [ba_comm a.t b.t, Bool.or_comm a.x b.x]
  congr 1
  rw [Bool.eq_iff_iff, bne_iff_ne, bne_iff_ne]
  exact ⟨fun h e => h e.symm, fun h e => h e.symm⟩
theorem own_lo {w w' : World} {base : Nat} {v : Value} {n row : Nat} {xs : List Value} (h : w.ownsRow base 46 3 v n xs) (hg : w.grownBy w' (some row)) (hr : row < base) : w'.ownsRow base 46 3 v n xs :=
  h.kept hg (by
    cases e : v.ownBlock with
    | none => exact .inl rfl
    | some b =>
      refine .inr (fun he => ?_)
      injection he with he
      have := (h.lt b e).1
      omega)
/-- the last of one's own, of the first k -/
def OwnK (l : List Hd) (h : Hd) (k : Nat) (ov : Int) : Prop :=
  (ov = -1 ∧ ∀ (j : Nat) o, j < k → l[j]? = some o → mineB h o = false) ∨ ∃ (m : Nat) (o : Hd), ov = m ∧ m < k ∧ l[m]? = some o ∧ mineB h o = true
theorem OwnK.yes {l : List Hd} {h : Hd} {k : Nat} {o : Hd} (ho : l[k]? = some o) (hm : mineB h o = true) : OwnK l h (k + 1) k := .inr ⟨k, o, rfl, by omega, ho, hm⟩
theorem OwnK.no {l : List Hd} {h : Hd} {k : Nat} {ov : Int} {o : Hd} (H : OwnK l h k ov) (ho : l[k]? = some o) (hm : mineB h o = false) : OwnK l h (k + 1) ov := by
  rcases H with ⟨e, H⟩ | ⟨m, p, e, h1, h2, h3⟩
  · refine .inl ⟨e, fun j q hj hq => ?_⟩
    by_cases hjk : j = k
    · subst hjk
      rw [ho] at hq
      injection hq with hq
      rw [← hq]; exact hm
    · exact H j q (by omega) hq
  · exact .inr ⟨m, p, e, by omega, h2, h3⟩
theorem idx_own {l : List Hd} {h : Hd} (H : Apart l) {m : Nat} {o : Hd} (ho : l[m]? = some o) (hm : mineB h o = true) : l.findIdx? (mineB h) = some m := by
  cases hf : l.findIdx? (mineB h) with
  | none =>
    have := find_none' hf o (List.mem_of_getElem? ho)
    rw [hm] at this; cases this
  | some i =>
    obtain ⟨p, hp, hpm⟩ := idx_some hf
    by_cases him : i = m
    · rw [him]
    · exfalso
      have h1 := H.at_ hp ho him
      unfold mineB at hm hpm
      unfold cf at h1
      simp only [Bool.and_eq_true, beq_iff_eq, beqBA] at hm hpm
      rw [hm.1, hm.2, hpm.1, hpm.2] at h1
      have : (h.t == h.t) = true := (beqBA _ _).2 rfl
      rw [this] at h1
      simp at h1
theorem idx_not {l : List Hd} {h : Hd} {k : Nat} (hk : l.length ≤ k) (H : ∀ (j : Nat) o, j < k → l[j]? = some o → mineB h o = false) : l.findIdx? (mineB h) = none := by
  rw [List.findIdx?_eq_none_iff]
  intro o ho
  obtain ⟨j, hj, e⟩ := List.getElem_of_mem ho
  exact H j o (by omega) (by rw [List.getElem?_eq_getElem hj, e])
theorem cellsH_setx : ∀ (l : List Hd) (i : Nat) (o : Hd) (b : Bool), l[i]? = some o → (cellsH l).set (i * 3 + 2) (.bool b) = cellsH (l.set i ⟨o.s, o.t, b⟩)
  | [], i, o, b, h => by cases h
  | y :: r, 0, o, b, h => by
    injection h with h
    subst h
    rfl
  | y :: r, i + 1, o, b, h => by
    have ih := cellsH_setx r i o b h
    have e : cellsH (y :: r) = y.cells ++ cellsH r := rfl
    have e2 : cellsH ((y :: r).set (i + 1) ⟨o.s, o.t, b⟩) = y.cells ++ cellsH (r.set i ⟨o.s, o.t, b⟩) := rfl
    have e1 : (i + 1) * 3 = i * 3 + 3 := by omega
    rw [e, e2, ← ih, e1]
    rfl
/-- append([]Hold{}, l.Holds...) -/
theorem app15 (l : List Hd) (A : Option Addr) (n c : Nat) (w : World) (hl : l.length = n) (hn : n ≤ 100000) (hr : Hs w A l) :
    ∃ A' c' w', (Builtin.append_ #[38, 38] 38 #[.slice (some ⟨w.heap.size, 0, none⟩) 0 0, .slice A n c]).run Try.prog (w.alloc (.cells #[] 46)) = .ok (.slice A' n c') w' ∧
      w'.ownsRow w.heap.size 46 3 (.slice A' n c') n (cellsH l) ∧ Below w.heap.size w w' := by
  obtain ⟨i0, hi, hz0, hz1, hz2⟩ := info_parts (P := Try.prog) (e := 46) (z := .agg #[.int .i64 0, .string ⟨#[]⟩, .bool false]) (size := 3) (bytes := 32) (by kernel_rfl)
  have ho := World.ownsRow_made (e := 46) (size := 3) (base := w.heap.size) w #[] 0 (Nat.le_refl _) (Nat.zero_le _) rfl
  have hb0 : Below w.heap.size w (w.alloc (.cells #[] 46)) := (Below.refl _ _).alloc (Nat.le_refl _) _
  rcases hr with ⟨rfl, rfl⟩ | ⟨g, rfl, hlt, hcl⟩
  · have h0 : n = 0 := hl.symm
    subst h0
    exact ⟨_, 0, _, run_append_owned_none _ w.heap.size 38 38 46 i0 3 Try.underlying38 hi _ 0 [] ho, by simpa [cellsH] using ho, hb0⟩
  · obtain ⟨v', w', hrun, h2, h3, h4⟩ := run_append_own (P := Try.prog) (w.alloc (.cells #[] 46)) w.heap.size 38 38 46 i0 _ 3 32 Try.underlying38 hi hz0 hz1 hz2 rfl (by decide) _ _ _ ho ⟨g, 0, none⟩ n c (cellsH l) (by rw [cellsH_len, hl])
      (by
        intro j u hu
        rw [Addr.add_lit, Nat.zero_add]
        exact (hb0.cell (p := ⟨g, j, none⟩) hlt).trans (hcl j u hu)) (one_cells l) (by unfold maxLen; omega) (by omega) (by simp)
    obtain ⟨A', c', rfl⟩ := own_slice h2
    exact ⟨A', c', w', by simpa using hrun, by simpa using h2, hb0.grown h3 (by simp) (fun k hk => (ho.lt k hk).1)⟩
theorem app18 (l : List Hd) (n : Nat) (A : Option Addr) (c : Nat) (s : Int) (t : ByteArray) (x : Bool) (w : World) (base : Nat) (hn : n ≤ 100000) (ho : w.ownsRow base 46 3 (.slice A n c) n (cellsH l)) (hb : base ≤ w.heap.size) :
    ∃ A' c' w', (Builtin.append_ #[38, 38] 38 #[.slice A n c, .slice (some ⟨w.heap.size, 0, none⟩) 1 1]).run Try.prog (w.alloc (.cells #[.int .i64 s, .string t, .bool x] 46)) = .ok (.slice A' (n + 1) c') w' ∧
      w'.ownsRow base 46 3 (.slice A' (n + 1) c') (n + 1) (cellsH (l ++ [⟨s, t, x⟩])) ∧ Below base w w' := by
  obtain ⟨i0, hi, hz0, hz1, hz2⟩ := info_parts (P := Try.prog) (e := 46) (z := .agg #[.int .i64 0, .string ⟨#[]⟩, .bool false]) (size := 3) (bytes := 32) (by kernel_rfl)
  have hb0 : Below base w (w.alloc (.cells #[.int .i64 s, .string t, .bool x] 46)) := (Below.refl _ _).alloc hb _
  obtain ⟨v', w', hrun, h2, h3, h4⟩ := run_append_own (P := Try.prog) (w.alloc (.cells #[.int .i64 s, .string t, .bool x] 46)) base 38 38 46 i0 _ 3 32 Try.underlying38 hi hz0 hz1 hz2 rfl (by decide) _ _ _ (ho.alloc _) ⟨w.heap.size, 0, none⟩ 1 1 [.int .i64 s, .string t, .bool x] rfl
    (three_at (Blk.new w _ _)) (by intro u hu; simp at hu; rcases hu with rfl | rfl | rfl <;> rfl) (by unfold maxLen; omega) (by omega) (by simp; omega)
  obtain ⟨A', c', rfl⟩ := own_slice h2
  refine ⟨A', c', w', hrun, ?_, hb0.grown h3 (by simp; omega) (fun k hk => (ho.lt k hk).1)⟩
  rw [cellsH_append, cellsH_one]
  exact h2
theorem any_snoc {l : List Hd} {h x : Hd} {k : Nat} (hx : l[k]? = some x) : (l.take (k + 1)).any (agB h) = ((l.take k).any (agB h) || agB h x) := by
  rw [List.take_add_one, hx]
  simp

set_option maxHeartbeats 8000000 in
set_option maxRecDepth 1000000 in
theorem rAsk_ (L : Lk) (h : Hd) (v : Value) (w : World) (hL : LkR w v L) (h1 : L.hs.length ≤ 90000) (h2 : L.ws.length ≤ 90000) (hA : Apart L.hs) :
    Calls Try.prog 18 #[v, .agg h.arr] w (AskP (askL L h) (freeB L h) w) := by
  obtain ⟨A, n, c, A', n', c', rfl, e1, r1, e2, r2⟩ := hL
  obtain ⟨hs, ws⟩ := L
  simp only at e1 e2 h1 h2 r1 r2 hA
  have hn : n ≤ 90000 := by omega
  have hn' : n' ≤ 90000 := by omega
  have HL := Lib.hid e1
  have HL' := Lib.hid e2
  clear e1 e2 h1 h2
  obtain ⟨R, hR⟩ : ∃ R, askL ⟨hs, ws⟩ h = R := ⟨_, rfl⟩
  obtain ⟨fb, hfb⟩ : ∃ fb, freeB ⟨hs, ws⟩ h = fb := ⟨_, rfl⟩
  rw [hR, hfb]
  have HR := Lib.hid hR
  have HFB := Lib.hid hfb
  clear hR hfb
  have HAP := Lib.hid hA
  clear hA
  obtain ⟨s, t, x⟩ := h
  simp only [Hd.arr]
  go_enter Try.func18, Try.ntmps18
  go_wp2_with fail
  obtain ⟨W, hW_, hbW, B1, B2, B3⟩ : ∃ W_, W_ = (((w.alloc (.cells #[.slice A n c, .slice A' n' c'] 40)).alloc (.cells #[.int .i64 s, .string t, .bool x] 46)).alloc (.cells #[.slice none 0 0, .slice none 0 0] 40)) ∧ Below w.heap.size w W_ ∧ Blk W_ (w.heap.size) 40 #[.slice A n c, .slice A' n' c'] ∧ Blk W_ (w.heap.size + 1) 46 #[.int .i64 s, .string t, .bool x] ∧ Blk W_ (w.heap.size + 1 + 1) 40 #[.slice none 0 0, .slice none 0 0] :=
    ⟨_, rfl, ((((Below.refl _ _).alloc (Nat.le_refl _) _).alloc (by simp; try omega) _).alloc (by simp; try omega) _), (((blk_new_at w (w.heap.size) _ _ (by simp)).alloc _).alloc _), ((blk_new_at (w.alloc (.cells #[.slice A n c, .slice A' n' c'] 40)) (w.heap.size + 1) _ _ (by simp)).alloc _), (blk_new_at ((w.alloc (.cells #[.slice A n c, .slice A' n' c'] 40)).alloc (.cells #[.int .i64 s, .string t, .bool x] 46)) (w.heap.size + 1 + 1) _ _ (by simp))⟩
  rw [← hW_]
  clear hW_
  go_loopw [6, 7, 8] (fun ov fv iv wr => ∃ (o : Int) (k : Nat), ov = .int .i64 o ∧ fv = .bool (!(hs.take k).any (agB ⟨s, t, x⟩)) ∧ iv = .int .i64 k ∧ k ≤ n ∧ Below W.heap.size W wr ∧ Hid (OwnK hs ⟨s, t, x⟩ k o)) (fun _ _ iv _ => n - (intOf iv).toNat)
  case atStart => exact ⟨-1, 0, rfl, rfl, rfl, Nat.zero_le _, Below.refl _ _, Lib.hid (.inl ⟨rfl, fun j o h => absurd h (by omega)⟩)⟩
  case round =>
    obtain ⟨ov, k, rfl, rfl, rfl, hk, hbr, HO⟩ := hrel
    have hwr := Below.trans hbW (Below.mono hbr hbW.size)
    have B1 := B1.ext hbr
    have B2 := B2.ext hbr
    have B3 := B3.ext hbr
    obtain ⟨fr, hfr⟩ : ∃ fr, (!(hs.take k).any (agB ⟨s, t, x⟩)) = fr := ⟨_, rfl⟩
    rw [hfr]
    have HFR := Lib.hid hfr
    clear hfr
    have q1 := B1.cell 0
    rcases Nat.lt_or_ge k n with hlt | hge
    · have hd : decide ((k : Int) < (n : Int)) = true := by simp; omega
      have hkn : (k : Int) < (n : Int) := by omega
      obtain ⟨y, hy⟩ : ∃ y, hs[k]? = some y := ⟨_, List.getElem?_eq_getElem (by rw [HL.out]; exact hlt)⟩
      obtain ⟨b, rfl, hbl⟩ := r1.some_ (by rw [HL.out]; omega)
      have HY := Lib.hid hy
      clear hy
      obtain ⟨ys, yt, yx⟩ := y
      go_wp2_with fail
      have D := fun w' (h : Below wr.heap.size wr.drew w') => (show w'.cell? ⟨w.heap.size, 0, none⟩ = some (.slice (some ⟨b, 0, none⟩) n c) ∧ w'.cell? ⟨w.heap.size + 1, 0, none⟩ = some (.int .i64 s) ∧ w'.cell? ⟨w.heap.size + 1, 1, none⟩ = some (.string t) ∧ w'.cell? ⟨w.heap.size + 1, 2, none⟩ = some (.bool x) from
        ⟨(B1.ext (Below.trans (Below.refl _ _).drew h)).cell 0, (B2.three (Below.trans (Below.refl _ _).drew h)).1, (B2.three (Below.trans (Below.refl _ _).drew h)).2.1, (B2.three (Below.trans (Below.refl _ _).drew h)).2.2⟩)
      have D2 := fun w' (h : Below wr.heap.size wr.drew w') => (((r1.ext hwr).ext (Below.trans (Below.refl _ _).drew h)).at_ HY.out)
      refine wp_region_one [(0, true), (1, true), (2, true), (3, true), (4, true), (5, true), (6, true), (7, true), (8, true), (9, true), (10, true), (11, true), (12, true), (13, true), (14, true), (15, true), (16, true), (17, true), (18, true), (19, true)] (by kernel_rfl) (by kernel_rfl) (by kernel_rfl) (by decide) ?_
      have hmine : ∀ p q, (ys == s) = p → (yt.toList == t.toList) = q → mineB ⟨s, t, x⟩ ⟨ys, yt, yx⟩ = (p && q) := fun p q h1 h2 => by
        unfold mineB
        simp only
        rw [← tl_beq, h1, h2]
      have HM := Lib.hid hmine
      clear hmine
      have second : ∀ (ov' : Int), OwnK hs ⟨s, t, x⟩ (k + 1) ov' → True := fun _ _ => trivial
      clear second
      cases h1 : (ys == s) <;> cases h2 : (yt.toList == t.toList)
      case true.true =>
        have HK : Hid (OwnK hs ⟨s, t, x⟩ (k + 1) (k : Int)) := Lib.hid (OwnK.yes HY.out (HM.out _ _ h1 h2))
        repeat ((with_reducible show wpPerm _ _ _ _ ((_, true) :: _) _ _); (first | (refine wpPerm_on (v := ?_) rfl rfl (wanted_free rfl) (fun w' hS => ?_) ?_; rotate_left; (focus (go_simp; (try with_reducible rfl); done)); try simp only [List.setIfInBounds_toArray, List.set_cons_zero, List.set_cons_succ]) | (refine wpPerm_on (v := ?_) rfl rfl (wanted_yes rfl rfl rfl) (fun w' hS => ?_) ?_; rotate_left; (focus (go_simp; (try with_reducible rfl); done)); try simp only [List.setIfInBounds_toArray, List.set_cons_zero, List.set_cons_succ]) | (refine wpPerm_off rfl rfl (wanted_no rfl rfl rfl) ?_; try simp only [List.setIfInBounds_toArray, List.set_cons_zero, List.set_cons_succ]) | (refine wpPerm_off rfl rfl (wanted_undef rfl rfl rfl) ?_; try simp only [List.setIfInBounds_toArray, List.set_cons_zero, List.set_cons_succ])))
        refine wpPerm_done ?_
        clear D D2 h1 h2
        have hbd := hbr.drew
        have B1 := Blk.drew B1
        have B2 := Blk.drew B2
        have hwd := hwr.drew
        generalize wr.drew = w2 at *
        go_wp2_with fail
        have D := fun w' (h : Below w2.heap.size w2.drew w') => (show w'.cell? ⟨w.heap.size, 0, none⟩ = some (.slice (some ⟨b, 0, none⟩) n c) ∧ w'.cell? ⟨w.heap.size + 1, 0, none⟩ = some (.int .i64 s) ∧ w'.cell? ⟨w.heap.size + 1, 1, none⟩ = some (.string t) ∧ w'.cell? ⟨w.heap.size + 1, 2, none⟩ = some (.bool x) from
          ⟨(B1.ext (Below.trans (Below.refl _ _).drew h)).cell 0, (B2.three (Below.trans (Below.refl _ _).drew h)).1, (B2.three (Below.trans (Below.refl _ _).drew h)).2.1, (B2.three (Below.trans (Below.refl _ _).drew h)).2.2⟩)
        have D2 := fun w' (h : Below w2.heap.size w2.drew w') => (((r1.ext hwd).ext (Below.trans (Below.refl _ _).drew h)).at_ HY.out)
        refine wp_region_one [(0, true), (1, true), (2, true), (3, true), (4, true), (5, true), (6, true), (7, true), (8, false), (9, true), (10, true), (11, true)] (by kernel_rfl) (by kernel_rfl) (by kernel_rfl) (by decide) ?_
        cases fr with
        | false =>
          repeat ((with_reducible show wpPerm _ _ _ _ ((_, true) :: _) _ _); (first | (refine wpPerm_on (v := ?_) rfl rfl (wanted_free rfl) (fun w' hS => ?_) ?_; rotate_left; (focus (go_simp; (try with_reducible rfl); done)); try simp only [List.setIfInBounds_toArray, List.set_cons_zero, List.set_cons_succ]) | (refine wpPerm_on (v := ?_) rfl rfl (wanted_yes rfl rfl rfl) (fun w' hS => ?_) ?_; rotate_left; (focus (go_simp; (try with_reducible rfl); done)); try simp only [List.setIfInBounds_toArray, List.set_cons_zero, List.set_cons_succ]) | (refine wpPerm_off rfl rfl (wanted_no rfl rfl rfl) ?_; try simp only [List.setIfInBounds_toArray, List.set_cons_zero, List.set_cons_succ]) | (refine wpPerm_off rfl rfl (wanted_undef rfl rfl rfl) ?_; try simp only [List.setIfInBounds_toArray, List.set_cons_zero, List.set_cons_succ])))
          clear D D2
          refine wpPerm_no rfl (wanted_no rfl rfl rfl) (Below.refl _ _) ?_
          go_simp
          repeat ((with_reducible show wpPerm _ _ _ _ ((_, true) :: _) _ _); (first | (refine wpPerm_on (v := ?_) rfl rfl (wanted_free rfl) (fun w' hS => ?_) ?_; rotate_left; (focus (go_simp; (try with_reducible rfl); done)); try simp only [List.setIfInBounds_toArray, List.set_cons_zero, List.set_cons_succ]) | (refine wpPerm_on (v := ?_) rfl rfl (wanted_yes rfl rfl rfl) (fun w' hS => ?_) ?_; rotate_left; (focus (go_simp; (try with_reducible rfl); done)); try simp only [List.setIfInBounds_toArray, List.set_cons_zero, List.set_cons_succ]) | (refine wpPerm_off rfl rfl (wanted_no rfl rfl rfl) ?_; try simp only [List.setIfInBounds_toArray, List.set_cons_zero, List.set_cons_succ]) | (refine wpPerm_off rfl rfl (wanted_undef rfl rfl rfl) ?_; try simp only [List.setIfInBounds_toArray, List.set_cons_zero, List.set_cons_succ])))
          refine wpPerm_done ?_
          have hbd2 := hbd.drew
          clear HM HO q1 B1 B2 B3 hbd hwd hbr hwr
          go_wp2
          go_roundw
          case rel =>
            refine ⟨(k : Int), k + 1, rfl, ?_, by go_num, by omega, hbd2, HK⟩
            rw [any_snoc HY.out, Bool.not_or, HFR.out]
            rfl
          case measure => simp [intOf]; omega
        | true =>
          repeat ((with_reducible show wpPerm _ _ _ _ ((_, true) :: _) _ _); (first | (refine wpPerm_on (v := ?_) rfl rfl (wanted_free rfl) (fun w' hS => ?_) ?_; rotate_left; (focus (go_simp; (try with_reducible rfl); done)); try simp only [List.setIfInBounds_toArray, List.set_cons_zero, List.set_cons_succ]) | (refine wpPerm_on (v := ?_) rfl rfl (wanted_yes rfl rfl rfl) (fun w' hS => ?_) ?_; rotate_left; (focus (go_simp; (try with_reducible rfl); done)); try simp only [List.setIfInBounds_toArray, List.set_cons_zero, List.set_cons_succ]) | (refine wpPerm_off rfl rfl (wanted_no rfl rfl rfl) ?_; try simp only [List.setIfInBounds_toArray, List.set_cons_zero, List.set_cons_succ]) | (refine wpPerm_off rfl rfl (wanted_undef rfl rfl rfl) ?_; try simp only [List.setIfInBounds_toArray, List.set_cons_zero, List.set_cons_succ])))
          clear D D2
          refine wpPerm_do rfl (wanted_yes rfl rfl rfl) (fun K hK => ?_); go_simp
          refine (rAgainst_ ⟨ys, yt, yx⟩ ⟨s, t, x⟩ _).mono ?_
          rintro e w3 ⟨rfl, hb3⟩
          refine hK.out _ _ hb3 ?_
          rw [agB_comm]
          have hbd2 := Below.trans hbd.drew (Below.mono hb3 hbd.size)
          clear hK K hb3 HM HO q1 B1 B2 B3 hbd hwd hbr hwr
          obtain ⟨ag, hag⟩ : ∃ ag, agB ⟨s, t, x⟩ ⟨ys, yt, yx⟩ = ag := ⟨_, rfl⟩
          rw [hag]
          have HAG := Lib.hid hag
          clear hag
          repeat ((with_reducible show wpPerm _ _ _ _ ((_, true) :: _) _ _); (first | (refine wpPerm_on (v := ?_) rfl rfl (wanted_free rfl) (fun w' hS => ?_) ?_; rotate_left; (focus (go_simp; (try with_reducible rfl); done)); try simp only [List.setIfInBounds_toArray, List.set_cons_zero, List.set_cons_succ]) | (refine wpPerm_on (v := ?_) rfl rfl (wanted_yes rfl rfl rfl) (fun w' hS => ?_) ?_; rotate_left; (focus (go_simp; (try with_reducible rfl); done)); try simp only [List.setIfInBounds_toArray, List.set_cons_zero, List.set_cons_succ]) | (refine wpPerm_off rfl rfl (wanted_no rfl rfl rfl) ?_; try simp only [List.setIfInBounds_toArray, List.set_cons_zero, List.set_cons_succ]) | (refine wpPerm_off rfl rfl (wanted_undef rfl rfl rfl) ?_; try simp only [List.setIfInBounds_toArray, List.set_cons_zero, List.set_cons_succ])))
          refine wpPerm_done ?_
          go_wp2
          go_roundw
          case rel =>
            refine ⟨(k : Int), k + 1, rfl, ?_, by go_num, by omega, hbd2, HK⟩
            rw [any_snoc HY.out, Bool.not_or, HFR.out, HAG.out]
            rfl
          case measure => simp [intOf]; omega
      case true.false =>
        have HK : Hid (OwnK hs ⟨s, t, x⟩ (k + 1) ov) := Lib.hid (HO.out.no HY.out (HM.out _ _ h1 h2))
        repeat ((with_reducible show wpPerm _ _ _ _ ((_, true) :: _) _ _); (first | (refine wpPerm_on (v := ?_) rfl rfl (wanted_free rfl) (fun w' hS => ?_) ?_; rotate_left; (focus (go_simp; (try with_reducible rfl); done)); try simp only [List.setIfInBounds_toArray, List.set_cons_zero, List.set_cons_succ]) | (refine wpPerm_on (v := ?_) rfl rfl (wanted_yes rfl rfl rfl) (fun w' hS => ?_) ?_; rotate_left; (focus (go_simp; (try with_reducible rfl); done)); try simp only [List.setIfInBounds_toArray, List.set_cons_zero, List.set_cons_succ]) | (refine wpPerm_off rfl rfl (wanted_no rfl rfl rfl) ?_; try simp only [List.setIfInBounds_toArray, List.set_cons_zero, List.set_cons_succ]) | (refine wpPerm_off rfl rfl (wanted_undef rfl rfl rfl) ?_; try simp only [List.setIfInBounds_toArray, List.set_cons_zero, List.set_cons_succ])))
        refine wpPerm_done ?_
        clear D D2 h1 h2
        have hbd := hbr.drew
        have B1 := Blk.drew B1
        have B2 := Blk.drew B2
        have hwd := hwr.drew
        generalize wr.drew = w2 at *
        go_wp2_with fail
        have D := fun w' (h : Below w2.heap.size w2.drew w') => (show w'.cell? ⟨w.heap.size, 0, none⟩ = some (.slice (some ⟨b, 0, none⟩) n c) ∧ w'.cell? ⟨w.heap.size + 1, 0, none⟩ = some (.int .i64 s) ∧ w'.cell? ⟨w.heap.size + 1, 1, none⟩ = some (.string t) ∧ w'.cell? ⟨w.heap.size + 1, 2, none⟩ = some (.bool x) from
          ⟨(B1.ext (Below.trans (Below.refl _ _).drew h)).cell 0, (B2.three (Below.trans (Below.refl _ _).drew h)).1, (B2.three (Below.trans (Below.refl _ _).drew h)).2.1, (B2.three (Below.trans (Below.refl _ _).drew h)).2.2⟩)
        have D2 := fun w' (h : Below w2.heap.size w2.drew w') => (((r1.ext hwd).ext (Below.trans (Below.refl _ _).drew h)).at_ HY.out)
        refine wp_region_one [(0, true), (1, true), (2, true), (3, true), (4, true), (5, true), (6, true), (7, true), (8, false), (9, true), (10, true), (11, true)] (by kernel_rfl) (by kernel_rfl) (by kernel_rfl) (by decide) ?_
        cases fr with
        | false =>
          repeat ((with_reducible show wpPerm _ _ _ _ ((_, true) :: _) _ _); (first | (refine wpPerm_on (v := ?_) rfl rfl (wanted_free rfl) (fun w' hS => ?_) ?_; rotate_left; (focus (go_simp; (try with_reducible rfl); done)); try simp only [List.setIfInBounds_toArray, List.set_cons_zero, List.set_cons_succ]) | (refine wpPerm_on (v := ?_) rfl rfl (wanted_yes rfl rfl rfl) (fun w' hS => ?_) ?_; rotate_left; (focus (go_simp; (try with_reducible rfl); done)); try simp only [List.setIfInBounds_toArray, List.set_cons_zero, List.set_cons_succ]) | (refine wpPerm_off rfl rfl (wanted_no rfl rfl rfl) ?_; try simp only [List.setIfInBounds_toArray, List.set_cons_zero, List.set_cons_succ]) | (refine wpPerm_off rfl rfl (wanted_undef rfl rfl rfl) ?_; try simp only [List.setIfInBounds_toArray, List.set_cons_zero, List.set_cons_succ])))
          clear D D2
          refine wpPerm_no rfl (wanted_no rfl rfl rfl) (Below.refl _ _) ?_
          go_simp
          repeat ((with_reducible show wpPerm _ _ _ _ ((_, true) :: _) _ _); (first | (refine wpPerm_on (v := ?_) rfl rfl (wanted_free rfl) (fun w' hS => ?_) ?_; rotate_left; (focus (go_simp; (try with_reducible rfl); done)); try simp only [List.setIfInBounds_toArray, List.set_cons_zero, List.set_cons_succ]) | (refine wpPerm_on (v := ?_) rfl rfl (wanted_yes rfl rfl rfl) (fun w' hS => ?_) ?_; rotate_left; (focus (go_simp; (try with_reducible rfl); done)); try simp only [List.setIfInBounds_toArray, List.set_cons_zero, List.set_cons_succ]) | (refine wpPerm_off rfl rfl (wanted_no rfl rfl rfl) ?_; try simp only [List.setIfInBounds_toArray, List.set_cons_zero, List.set_cons_succ]) | (refine wpPerm_off rfl rfl (wanted_undef rfl rfl rfl) ?_; try simp only [List.setIfInBounds_toArray, List.set_cons_zero, List.set_cons_succ])))
          refine wpPerm_done ?_
          have hbd2 := hbd.drew
          clear HM HO q1 B1 B2 B3 hbd hwd hbr hwr
          go_wp2
          go_roundw
          case rel =>
            refine ⟨ov, k + 1, rfl, ?_, by go_num, by omega, hbd2, HK⟩
            rw [any_snoc HY.out, Bool.not_or, HFR.out]
            rfl
          case measure => simp [intOf]; omega
        | true =>
          repeat ((with_reducible show wpPerm _ _ _ _ ((_, true) :: _) _ _); (first | (refine wpPerm_on (v := ?_) rfl rfl (wanted_free rfl) (fun w' hS => ?_) ?_; rotate_left; (focus (go_simp; (try with_reducible rfl); done)); try simp only [List.setIfInBounds_toArray, List.set_cons_zero, List.set_cons_succ]) | (refine wpPerm_on (v := ?_) rfl rfl (wanted_yes rfl rfl rfl) (fun w' hS => ?_) ?_; rotate_left; (focus (go_simp; (try with_reducible rfl); done)); try simp only [List.setIfInBounds_toArray, List.set_cons_zero, List.set_cons_succ]) | (refine wpPerm_off rfl rfl (wanted_no rfl rfl rfl) ?_; try simp only [List.setIfInBounds_toArray, List.set_cons_zero, List.set_cons_succ]) | (refine wpPerm_off rfl rfl (wanted_undef rfl rfl rfl) ?_; try simp only [List.setIfInBounds_toArray, List.set_cons_zero, List.set_cons_succ])))
          clear D D2
          refine wpPerm_do rfl (wanted_yes rfl rfl rfl) (fun K hK => ?_); go_simp
          refine (rAgainst_ ⟨ys, yt, yx⟩ ⟨s, t, x⟩ _).mono ?_
          rintro e w3 ⟨rfl, hb3⟩
          refine hK.out _ _ hb3 ?_
          rw [agB_comm]
          have hbd2 := Below.trans hbd.drew (Below.mono hb3 hbd.size)
          clear hK K hb3 HM HO q1 B1 B2 B3 hbd hwd hbr hwr
          obtain ⟨ag, hag⟩ : ∃ ag, agB ⟨s, t, x⟩ ⟨ys, yt, yx⟩ = ag := ⟨_, rfl⟩
          rw [hag]
          have HAG := Lib.hid hag
          clear hag
          repeat ((with_reducible show wpPerm _ _ _ _ ((_, true) :: _) _ _); (first | (refine wpPerm_on (v := ?_) rfl rfl (wanted_free rfl) (fun w' hS => ?_) ?_; rotate_left; (focus (go_simp; (try with_reducible rfl); done)); try simp only [List.setIfInBounds_toArray, List.set_cons_zero, List.set_cons_succ]) | (refine wpPerm_on (v := ?_) rfl rfl (wanted_yes rfl rfl rfl) (fun w' hS => ?_) ?_; rotate_left; (focus (go_simp; (try with_reducible rfl); done)); try simp only [List.setIfInBounds_toArray, List.set_cons_zero, List.set_cons_succ]) | (refine wpPerm_off rfl rfl (wanted_no rfl rfl rfl) ?_; try simp only [List.setIfInBounds_toArray, List.set_cons_zero, List.set_cons_succ]) | (refine wpPerm_off rfl rfl (wanted_undef rfl rfl rfl) ?_; try simp only [List.setIfInBounds_toArray, List.set_cons_zero, List.set_cons_succ])))
          refine wpPerm_done ?_
          go_wp2
          go_roundw
          case rel =>
            refine ⟨ov, k + 1, rfl, ?_, by go_num, by omega, hbd2, HK⟩
            rw [any_snoc HY.out, Bool.not_or, HFR.out, HAG.out]
            rfl
          case measure => simp [intOf]; omega
      case false.true =>
        have HK : Hid (OwnK hs ⟨s, t, x⟩ (k + 1) ov) := Lib.hid (HO.out.no HY.out (HM.out _ _ h1 h2))
        repeat ((with_reducible show wpPerm _ _ _ _ ((_, true) :: _) _ _); (first | (refine wpPerm_on (v := ?_) rfl rfl (wanted_free rfl) (fun w' hS => ?_) ?_; rotate_left; (focus (go_simp; (try with_reducible rfl); done)); try simp only [List.setIfInBounds_toArray, List.set_cons_zero, List.set_cons_succ]) | (refine wpPerm_on (v := ?_) rfl rfl (wanted_yes rfl rfl rfl) (fun w' hS => ?_) ?_; rotate_left; (focus (go_simp; (try with_reducible rfl); done)); try simp only [List.setIfInBounds_toArray, List.set_cons_zero, List.set_cons_succ]) | (refine wpPerm_off rfl rfl (wanted_no rfl rfl rfl) ?_; try simp only [List.setIfInBounds_toArray, List.set_cons_zero, List.set_cons_succ]) | (refine wpPerm_off rfl rfl (wanted_undef rfl rfl rfl) ?_; try simp only [List.setIfInBounds_toArray, List.set_cons_zero, List.set_cons_succ])))
        refine wpPerm_done ?_
        clear D D2 h1 h2
        have hbd := hbr.drew
        have B1 := Blk.drew B1
        have B2 := Blk.drew B2
        have hwd := hwr.drew
        generalize wr.drew = w2 at *
        go_wp2_with fail
        have D := fun w' (h : Below w2.heap.size w2.drew w') => (show w'.cell? ⟨w.heap.size, 0, none⟩ = some (.slice (some ⟨b, 0, none⟩) n c) ∧ w'.cell? ⟨w.heap.size + 1, 0, none⟩ = some (.int .i64 s) ∧ w'.cell? ⟨w.heap.size + 1, 1, none⟩ = some (.string t) ∧ w'.cell? ⟨w.heap.size + 1, 2, none⟩ = some (.bool x) from
          ⟨(B1.ext (Below.trans (Below.refl _ _).drew h)).cell 0, (B2.three (Below.trans (Below.refl _ _).drew h)).1, (B2.three (Below.trans (Below.refl _ _).drew h)).2.1, (B2.three (Below.trans (Below.refl _ _).drew h)).2.2⟩)
        have D2 := fun w' (h : Below w2.heap.size w2.drew w') => (((r1.ext hwd).ext (Below.trans (Below.refl _ _).drew h)).at_ HY.out)
        refine wp_region_one [(0, true), (1, true), (2, true), (3, true), (4, true), (5, true), (6, true), (7, true), (8, false), (9, true), (10, true), (11, true)] (by kernel_rfl) (by kernel_rfl) (by kernel_rfl) (by decide) ?_
        cases fr with
        | false =>
          repeat ((with_reducible show wpPerm _ _ _ _ ((_, true) :: _) _ _); (first | (refine wpPerm_on (v := ?_) rfl rfl (wanted_free rfl) (fun w' hS => ?_) ?_; rotate_left; (focus (go_simp; (try with_reducible rfl); done)); try simp only [List.setIfInBounds_toArray, List.set_cons_zero, List.set_cons_succ]) | (refine wpPerm_on (v := ?_) rfl rfl (wanted_yes rfl rfl rfl) (fun w' hS => ?_) ?_; rotate_left; (focus (go_simp; (try with_reducible rfl); done)); try simp only [List.setIfInBounds_toArray, List.set_cons_zero, List.set_cons_succ]) | (refine wpPerm_off rfl rfl (wanted_no rfl rfl rfl) ?_; try simp only [List.setIfInBounds_toArray, List.set_cons_zero, List.set_cons_succ]) | (refine wpPerm_off rfl rfl (wanted_undef rfl rfl rfl) ?_; try simp only [List.setIfInBounds_toArray, List.set_cons_zero, List.set_cons_succ])))
          clear D D2
          refine wpPerm_no rfl (wanted_no rfl rfl rfl) (Below.refl _ _) ?_
          go_simp
          repeat ((with_reducible show wpPerm _ _ _ _ ((_, true) :: _) _ _); (first | (refine wpPerm_on (v := ?_) rfl rfl (wanted_free rfl) (fun w' hS => ?_) ?_; rotate_left; (focus (go_simp; (try with_reducible rfl); done)); try simp only [List.setIfInBounds_toArray, List.set_cons_zero, List.set_cons_succ]) | (refine wpPerm_on (v := ?_) rfl rfl (wanted_yes rfl rfl rfl) (fun w' hS => ?_) ?_; rotate_left; (focus (go_simp; (try with_reducible rfl); done)); try simp only [List.setIfInBounds_toArray, List.set_cons_zero, List.set_cons_succ]) | (refine wpPerm_off rfl rfl (wanted_no rfl rfl rfl) ?_; try simp only [List.setIfInBounds_toArray, List.set_cons_zero, List.set_cons_succ]) | (refine wpPerm_off rfl rfl (wanted_undef rfl rfl rfl) ?_; try simp only [List.setIfInBounds_toArray, List.set_cons_zero, List.set_cons_succ])))
          refine wpPerm_done ?_
          have hbd2 := hbd.drew
          clear HM HO q1 B1 B2 B3 hbd hwd hbr hwr
          go_wp2
          go_roundw
          case rel =>
            refine ⟨ov, k + 1, rfl, ?_, by go_num, by omega, hbd2, HK⟩
            rw [any_snoc HY.out, Bool.not_or, HFR.out]
            rfl
          case measure => simp [intOf]; omega
        | true =>
          repeat ((with_reducible show wpPerm _ _ _ _ ((_, true) :: _) _ _); (first | (refine wpPerm_on (v := ?_) rfl rfl (wanted_free rfl) (fun w' hS => ?_) ?_; rotate_left; (focus (go_simp; (try with_reducible rfl); done)); try simp only [List.setIfInBounds_toArray, List.set_cons_zero, List.set_cons_succ]) | (refine wpPerm_on (v := ?_) rfl rfl (wanted_yes rfl rfl rfl) (fun w' hS => ?_) ?_; rotate_left; (focus (go_simp; (try with_reducible rfl); done)); try simp only [List.setIfInBounds_toArray, List.set_cons_zero, List.set_cons_succ]) | (refine wpPerm_off rfl rfl (wanted_no rfl rfl rfl) ?_; try simp only [List.setIfInBounds_toArray, List.set_cons_zero, List.set_cons_succ]) | (refine wpPerm_off rfl rfl (wanted_undef rfl rfl rfl) ?_; try simp only [List.setIfInBounds_toArray, List.set_cons_zero, List.set_cons_succ])))
          clear D D2
          refine wpPerm_do rfl (wanted_yes rfl rfl rfl) (fun K hK => ?_); go_simp
          refine (rAgainst_ ⟨ys, yt, yx⟩ ⟨s, t, x⟩ _).mono ?_
          rintro e w3 ⟨rfl, hb3⟩
          refine hK.out _ _ hb3 ?_
          rw [agB_comm]
          have hbd2 := Below.trans hbd.drew (Below.mono hb3 hbd.size)
          clear hK K hb3 HM HO q1 B1 B2 B3 hbd hwd hbr hwr
          obtain ⟨ag, hag⟩ : ∃ ag, agB ⟨s, t, x⟩ ⟨ys, yt, yx⟩ = ag := ⟨_, rfl⟩
          rw [hag]
          have HAG := Lib.hid hag
          clear hag
          repeat ((with_reducible show wpPerm _ _ _ _ ((_, true) :: _) _ _); (first | (refine wpPerm_on (v := ?_) rfl rfl (wanted_free rfl) (fun w' hS => ?_) ?_; rotate_left; (focus (go_simp; (try with_reducible rfl); done)); try simp only [List.setIfInBounds_toArray, List.set_cons_zero, List.set_cons_succ]) | (refine wpPerm_on (v := ?_) rfl rfl (wanted_yes rfl rfl rfl) (fun w' hS => ?_) ?_; rotate_left; (focus (go_simp; (try with_reducible rfl); done)); try simp only [List.setIfInBounds_toArray, List.set_cons_zero, List.set_cons_succ]) | (refine wpPerm_off rfl rfl (wanted_no rfl rfl rfl) ?_; try simp only [List.setIfInBounds_toArray, List.set_cons_zero, List.set_cons_succ]) | (refine wpPerm_off rfl rfl (wanted_undef rfl rfl rfl) ?_; try simp only [List.setIfInBounds_toArray, List.set_cons_zero, List.set_cons_succ])))
          refine wpPerm_done ?_
          go_wp2
          go_roundw
          case rel =>
            refine ⟨ov, k + 1, rfl, ?_, by go_num, by omega, hbd2, HK⟩
            rw [any_snoc HY.out, Bool.not_or, HFR.out, HAG.out]
            rfl
          case measure => simp [intOf]; omega
      case false.false =>
        have HK : Hid (OwnK hs ⟨s, t, x⟩ (k + 1) ov) := Lib.hid (HO.out.no HY.out (HM.out _ _ h1 h2))
        repeat ((with_reducible show wpPerm _ _ _ _ ((_, true) :: _) _ _); (first | (refine wpPerm_on (v := ?_) rfl rfl (wanted_free rfl) (fun w' hS => ?_) ?_; rotate_left; (focus (go_simp; (try with_reducible rfl); done)); try simp only [List.setIfInBounds_toArray, List.set_cons_zero, List.set_cons_succ]) | (refine wpPerm_on (v := ?_) rfl rfl (wanted_yes rfl rfl rfl) (fun w' hS => ?_) ?_; rotate_left; (focus (go_simp; (try with_reducible rfl); done)); try simp only [List.setIfInBounds_toArray, List.set_cons_zero, List.set_cons_succ]) | (refine wpPerm_off rfl rfl (wanted_no rfl rfl rfl) ?_; try simp only [List.setIfInBounds_toArray, List.set_cons_zero, List.set_cons_succ]) | (refine wpPerm_off rfl rfl (wanted_undef rfl rfl rfl) ?_; try simp only [List.setIfInBounds_toArray, List.set_cons_zero, List.set_cons_succ])))
        refine wpPerm_done ?_
        clear D D2 h1 h2
        have hbd := hbr.drew
        have B1 := Blk.drew B1
        have B2 := Blk.drew B2
        have hwd := hwr.drew
        generalize wr.drew = w2 at *
        go_wp2_with fail
        have D := fun w' (h : Below w2.heap.size w2.drew w') => (show w'.cell? ⟨w.heap.size, 0, none⟩ = some (.slice (some ⟨b, 0, none⟩) n c) ∧ w'.cell? ⟨w.heap.size + 1, 0, none⟩ = some (.int .i64 s) ∧ w'.cell? ⟨w.heap.size + 1, 1, none⟩ = some (.string t) ∧ w'.cell? ⟨w.heap.size + 1, 2, none⟩ = some (.bool x) from
          ⟨(B1.ext (Below.trans (Below.refl _ _).drew h)).cell 0, (B2.three (Below.trans (Below.refl _ _).drew h)).1, (B2.three (Below.trans (Below.refl _ _).drew h)).2.1, (B2.three (Below.trans (Below.refl _ _).drew h)).2.2⟩)
        have D2 := fun w' (h : Below w2.heap.size w2.drew w') => (((r1.ext hwd).ext (Below.trans (Below.refl _ _).drew h)).at_ HY.out)
        refine wp_region_one [(0, true), (1, true), (2, true), (3, true), (4, true), (5, true), (6, true), (7, true), (8, false), (9, true), (10, true), (11, true)] (by kernel_rfl) (by kernel_rfl) (by kernel_rfl) (by decide) ?_
        cases fr with
        | false =>
          repeat ((with_reducible show wpPerm _ _ _ _ ((_, true) :: _) _ _); (first | (refine wpPerm_on (v := ?_) rfl rfl (wanted_free rfl) (fun w' hS => ?_) ?_; rotate_left; (focus (go_simp; (try with_reducible rfl); done)); try simp only [List.setIfInBounds_toArray, List.set_cons_zero, List.set_cons_succ]) | (refine wpPerm_on (v := ?_) rfl rfl (wanted_yes rfl rfl rfl) (fun w' hS => ?_) ?_; rotate_left; (focus (go_simp; (try with_reducible rfl); done)); try simp only [List.setIfInBounds_toArray, List.set_cons_zero, List.set_cons_succ]) | (refine wpPerm_off rfl rfl (wanted_no rfl rfl rfl) ?_; try simp only [List.setIfInBounds_toArray, List.set_cons_zero, List.set_cons_succ]) | (refine wpPerm_off rfl rfl (wanted_undef rfl rfl rfl) ?_; try simp only [List.setIfInBounds_toArray, List.set_cons_zero, List.set_cons_succ])))
          clear D D2
          refine wpPerm_no rfl (wanted_no rfl rfl rfl) (Below.refl _ _) ?_
          go_simp
          repeat ((with_reducible show wpPerm _ _ _ _ ((_, true) :: _) _ _); (first | (refine wpPerm_on (v := ?_) rfl rfl (wanted_free rfl) (fun w' hS => ?_) ?_; rotate_left; (focus (go_simp; (try with_reducible rfl); done)); try simp only [List.setIfInBounds_toArray, List.set_cons_zero, List.set_cons_succ]) | (refine wpPerm_on (v := ?_) rfl rfl (wanted_yes rfl rfl rfl) (fun w' hS => ?_) ?_; rotate_left; (focus (go_simp; (try with_reducible rfl); done)); try simp only [List.setIfInBounds_toArray, List.set_cons_zero, List.set_cons_succ]) | (refine wpPerm_off rfl rfl (wanted_no rfl rfl rfl) ?_; try simp only [List.setIfInBounds_toArray, List.set_cons_zero, List.set_cons_succ]) | (refine wpPerm_off rfl rfl (wanted_undef rfl rfl rfl) ?_; try simp only [List.setIfInBounds_toArray, List.set_cons_zero, List.set_cons_succ])))
          refine wpPerm_done ?_
          have hbd2 := hbd.drew
          clear HM HO q1 B1 B2 B3 hbd hwd hbr hwr
          go_wp2
          go_roundw
          case rel =>
            refine ⟨ov, k + 1, rfl, ?_, by go_num, by omega, hbd2, HK⟩
            rw [any_snoc HY.out, Bool.not_or, HFR.out]
            rfl
          case measure => simp [intOf]; omega
        | true =>
          repeat ((with_reducible show wpPerm _ _ _ _ ((_, true) :: _) _ _); (first | (refine wpPerm_on (v := ?_) rfl rfl (wanted_free rfl) (fun w' hS => ?_) ?_; rotate_left; (focus (go_simp; (try with_reducible rfl); done)); try simp only [List.setIfInBounds_toArray, List.set_cons_zero, List.set_cons_succ]) | (refine wpPerm_on (v := ?_) rfl rfl (wanted_yes rfl rfl rfl) (fun w' hS => ?_) ?_; rotate_left; (focus (go_simp; (try with_reducible rfl); done)); try simp only [List.setIfInBounds_toArray, List.set_cons_zero, List.set_cons_succ]) | (refine wpPerm_off rfl rfl (wanted_no rfl rfl rfl) ?_; try simp only [List.setIfInBounds_toArray, List.set_cons_zero, List.set_cons_succ]) | (refine wpPerm_off rfl rfl (wanted_undef rfl rfl rfl) ?_; try simp only [List.setIfInBounds_toArray, List.set_cons_zero, List.set_cons_succ])))
          clear D D2
          refine wpPerm_do rfl (wanted_yes rfl rfl rfl) (fun K hK => ?_); go_simp
          refine (rAgainst_ ⟨ys, yt, yx⟩ ⟨s, t, x⟩ _).mono ?_
          rintro e w3 ⟨rfl, hb3⟩
          refine hK.out _ _ hb3 ?_
          rw [agB_comm]
          have hbd2 := Below.trans hbd.drew (Below.mono hb3 hbd.size)
          clear hK K hb3 HM HO q1 B1 B2 B3 hbd hwd hbr hwr
          obtain ⟨ag, hag⟩ : ∃ ag, agB ⟨s, t, x⟩ ⟨ys, yt, yx⟩ = ag := ⟨_, rfl⟩
          rw [hag]
          have HAG := Lib.hid hag
          clear hag
          repeat ((with_reducible show wpPerm _ _ _ _ ((_, true) :: _) _ _); (first | (refine wpPerm_on (v := ?_) rfl rfl (wanted_free rfl) (fun w' hS => ?_) ?_; rotate_left; (focus (go_simp; (try with_reducible rfl); done)); try simp only [List.setIfInBounds_toArray, List.set_cons_zero, List.set_cons_succ]) | (refine wpPerm_on (v := ?_) rfl rfl (wanted_yes rfl rfl rfl) (fun w' hS => ?_) ?_; rotate_left; (focus (go_simp; (try with_reducible rfl); done)); try simp only [List.setIfInBounds_toArray, List.set_cons_zero, List.set_cons_succ]) | (refine wpPerm_off rfl rfl (wanted_no rfl rfl rfl) ?_; try simp only [List.setIfInBounds_toArray, List.set_cons_zero, List.set_cons_succ]) | (refine wpPerm_off rfl rfl (wanted_undef rfl rfl rfl) ?_; try simp only [List.setIfInBounds_toArray, List.set_cons_zero, List.set_cons_succ])))
          refine wpPerm_done ?_
          go_wp2
          go_roundw
          case rel =>
            refine ⟨ov, k + 1, rfl, ?_, by go_num, by omega, hbd2, HK⟩
            rw [any_snoc HY.out, Bool.not_or, HFR.out, HAG.out]
            rfl
          case measure => simp [intOf]; omega
    · have hd : decide ((k : Int) < (n : Int)) = false := by simp; omega
      have hkn : k = n := by omega
      subst hkn
      have q1' := B1.cell 1
      have q2 := B2.three (Below.refl _ _)
      have RB1 : ∀ b, A = some ⟨b, 0, none⟩ → b < w.heap.size := fun b e => by
        rcases r1 with ⟨e1, _⟩ | ⟨b1, e1, h1, _⟩
        · rw [e1] at e; cases e
        · rw [e1] at e; injection e with e; injection e with e; omega
      rcases HO.out with ⟨rfl, hno⟩ | ⟨m, o, rfl, hmk, ho, hmo⟩
      · have hany : hs.any (agB ⟨s, t, x⟩) = !fr := by
          have := HFR.out
          rw [List.take_of_length_le (by rw [HL.out]; exact Nat.le_refl _)] at this
          rw [← this]
          simp
        have hf := idx_not (by rw [HL.out]; exact Nat.le_refl _) hno
        have hb : hasB ⟨hs, ws⟩ ⟨s, t, x⟩ = false := by unfold hasB; simp only [hf]
        cases fr with
        | false =>
          have hany : hs.any (agB ⟨s, t, x⟩) = true := hany
          have e3 : freeB ⟨hs, ws⟩ ⟨s, t, x⟩ = false := by unfold freeB; simp [hb, hany]
          have e4 : askL ⟨hs, ws⟩ ⟨s, t, x⟩ = ⟨hs, woL ws s ++ [⟨s, t, x⟩]⟩ := by unfold askL; simp [e3]
          obtain rfl : false = fb := e3.symm.trans HFB.out
          obtain rfl : _ = R := e4.symm.trans HR.out
          clear hany e3 e4 hf hb hno HO HFR HFB HR HAP hbr hbW
          go_wp2_with fail
          clear q1 q1' q2
          obtain ⟨i0, hi, hz0, hz1, hz2⟩ := info_parts (P := Try.prog) (e := 46) (z := .agg #[.int .i64 0, .string ⟨#[]⟩, .bool false]) (size := 3) (bytes := 32) (by kernel_rfl)
          have hlo := B3.lt
          have D := fun w' (h : Blk w' (w.heap.size + 1) 46 #[.int .i64 s, .string t, .bool x] ∧ Below w.heap.size w w' ∧ wr.heap.size ≤ w'.heap.size) => (show w'.cell? ⟨w.heap.size + 1, 0, none⟩ = some (.int .i64 s) ∧ w'.cell? ⟨w.heap.size + 1, 1, none⟩ = some (.string t) ∧ w'.cell? ⟨w.heap.size + 1, 2, none⟩ = some (.bool x) from h.1.three (Below.refl _ _))
          refine wp_region_mixS1 (S := fun w' => Blk w' (w.heap.size + 1) 46 #[.int .i64 s, .string t, .bool x] ∧ Below w.heap.size w w' ∧ wr.heap.size ≤ w'.heap.size) ⟨6, 79, fun g => .slice (some ⟨g, 0, none⟩) 1 1, .cells #[.int .i64 s, .string t, .bool x] 46⟩ [(0, true), (2, true), (3, true), (5, true)] [(1, false), (4, false)] [(7, false), (8, true), (9, false)] (by kernel_rfl) (by kernel_rfl) ⟨Blk.drew B2, hwr.drew, Nat.le_refl _⟩ (fun w1 w2 he h => ⟨h.1.ext he, Below.trans h.2.1 (Below.mono he h.2.1.size), Nat.le_trans h.2.2 he.size⟩) (fun _ h => h.2.2) ?_
          repeat ((with_reducible show wpI _ _ _ _ _ ((_, true) :: _) _ _); (first | (refine wpI_on (v := ?_) rfl rfl (wanted_free rfl) (fun w' hS => ?_) ?_; rotate_left; (focus (go_simp; (try with_reducible rfl); done)); try simp only [List.setIfInBounds_toArray, List.set_cons_zero, List.set_cons_succ]) | (refine wpI_on (v := ?_) rfl rfl (wanted_yes rfl rfl rfl) (fun w' hS => ?_) ?_; rotate_left; (focus (go_simp; (try with_reducible rfl); done)); try simp only [List.setIfInBounds_toArray, List.set_cons_zero, List.set_cons_succ]) | (refine wpI_off rfl rfl (wanted_no rfl rfl rfl) ?_; try simp only [List.setIfInBounds_toArray, List.set_cons_zero, List.set_cons_succ]) | (refine wpI_off rfl rfl (wanted_undef rfl rfl rfl) ?_; try simp only [List.setIfInBounds_toArray, List.set_cons_zero, List.set_cons_succ])))
          refine wpI_done ⟨?_, ?_⟩
          · intro y hy
            simp only [List.mem_cons, List.not_mem_nil, or_false] at hy
            subst hy
            exact ⟨_, rfl, rfl, wanted_free rfl, fun w => by go_simp⟩
          clear D
          refine wpI_do rfl (wanted_free rfl) (fun wI hI hSI K hK => ?_)
          have p1 := (B1.ext (Below.trans (Below.refl _ _).drew hI)).cell 1
          go_simp
          refine hK.out _ _ (Below.refl _ _) ?_
          clear hK K p1 hSI
          have hI1 := Below.trans (Below.refl _ _).drew hI
          clear hI
          refine wpI_do rfl (wanted_free rfl) (fun wI hI hSI K hK => ?_); go_simp
          have hI2 := Below.trans hI1 (Below.mono hI hI1.size)
          refine (rwithout_ ws A' n' c' s _ HL'.out (by omega) ((r2.ext hwr).ext hI2)).mono ?_
          rintro e w4 ⟨A4, c4, rfl, o4, hb4⟩
          refine hK.out _ _ hb4 ?_
          clear hK K hI hI1 hSI
          have o4 := own_base o4 (show w.heap.size + 3 ≤ _ from by have := hI2.size; omega)
          have hI4 := Below.trans hI2 (Below.mono hb4 hI2.size)
          clear hb4 hI2
          repeat ((with_reducible show wpI _ _ _ _ _ ((_, true) :: _) _ _); (first | (refine wpI_on (v := ?_) rfl rfl (wanted_free rfl) (fun w' hS => ?_) ?_; rotate_left; (focus (go_simp; (try with_reducible rfl); done)); try simp only [List.setIfInBounds_toArray, List.set_cons_zero, List.set_cons_succ]) | (refine wpI_on (v := ?_) rfl rfl (wanted_yes rfl rfl rfl) (fun w' hS => ?_) ?_; rotate_left; (focus (go_simp; (try with_reducible rfl); done)); try simp only [List.setIfInBounds_toArray, List.set_cons_zero, List.set_cons_succ]) | (refine wpI_off rfl rfl (wanted_no rfl rfl rfl) ?_; try simp only [List.setIfInBounds_toArray, List.set_cons_zero, List.set_cons_succ]) | (refine wpI_off rfl rfl (wanted_undef rfl rfl rfl) ?_; try simp only [List.setIfInBounds_toArray, List.set_cons_zero, List.set_cons_succ])))
          refine wpI_done ?_
          intro g1 wf he hb hlo1 hhi1 hat1
          try simp only [List.setIfInBounds_toArray, List.set_cons_zero, List.set_cons_succ]
          have C1 : Blk wf g1 46 #[.int .i64 s, .string t, .bool x] := hat1
          have o4 := own_ext o4 he
          have hwf := Below.trans hI4 (Below.mono he hI4.size)
          obtain ⟨hb2, hbw, hbs⟩ := hb
          clear hat1 he hI4
          refine wpPerm_do rfl (wanted_free rfl) (fun K hK => ?_)
          refine wp_append_own _ (.tmp 77) (.tmp 79) 38 rfl (w.heap.size + 3) 46 i0 _ 3 32 Try.underlying38 hi hz0 hz1 hz2 rfl (by decide) _ _ _ rfl o4 ⟨g1, 0, none⟩ 1 1
            [.int .i64 s, .string t, .bool x] rfl rfl (three_at C1) (by intro u hu; simp at hu; rcases hu with rfl | rfl | rfl <;> rfl) (by have := woL_len ws s; have := HL'.out; unfold maxLen; omega) (by have := woL_len ws s; have := HL'.out; omega) (by omega) (fun v' w5 h2 h3 h4 => ?_)
          obtain ⟨A5, c5, rfl⟩ := own_slice h2
          clear h4
          have hlk := fun k hk => (o4.lt k hk).1
          have B1 := (B1.ext hwf).grown h3 (fun e => by have := hlk _ e.symm; omega)
          have B3 := (B3.ext hwf).grown h3 (fun e => by have := hlk _ e.symm; omega)
          have hb2 := hb2.grown h3 (fun e => by have := hlk _ e.symm; omega)
          have RH := ((r1.ext hwr).ext hwf).grown h3 (fun b e hr => by
            have h1 := hlk b hr.symm
            have h2 := RB1 b e
            omega)
          have hbw := hbw.grown h3 hbw.size (fun k hk => by have := hlk k hk; omega)
          have hbs := Nat.le_trans hbs h3.size
          refine hK.out _ _ ⟨hb2, hbw, hbs⟩ ?_
          clear hK K hlk h3 o4 C1 hwf hhi1 hlo1
          repeat ((with_reducible show wpPerm _ _ _ _ ((_, true) :: _) _ _); (first | (refine wpPerm_on (v := ?_) rfl rfl (wanted_free rfl) (fun w' hS => ?_) ?_; rotate_left; (focus (go_simp; (try with_reducible rfl); done)); try simp only [List.setIfInBounds_toArray, List.set_cons_zero, List.set_cons_succ]) | (refine wpPerm_on (v := ?_) rfl rfl (wanted_yes rfl rfl rfl) (fun w' hS => ?_) ?_; rotate_left; (focus (go_simp; (try with_reducible rfl); done)); try simp only [List.setIfInBounds_toArray, List.set_cons_zero, List.set_cons_succ]) | (refine wpPerm_off rfl rfl (wanted_no rfl rfl rfl) ?_; try simp only [List.setIfInBounds_toArray, List.set_cons_zero, List.set_cons_succ]) | (refine wpPerm_off rfl rfl (wanted_undef rfl rfl rfl) ?_; try simp only [List.setIfInBounds_toArray, List.set_cons_zero, List.set_cons_succ])))
          have f1 := B1.frozen 1
          have q1 := B1.cell 1
          refine wpPerm_do rfl (wanted_free rfl) (fun K hK => ?_); go_simp
          clear f1 q1
          obtain ⟨w6, hw6, B1', hlow, hgr⟩ := Blk.set1' B1 (.slice A5 ((woL ws s).length + 1) c5)
          rw [← hw6]
          clear hw6
          clear B1
          have B1 := B1'
          clear B1'
          have h8 := Below.trans hbw (hlow w.heap.size (Nat.le_refl _))
          have B3 := B3.grown hgr (by simp; omega)
          have hb2 := hb2.grown hgr (by simp)
          have o5 := own_lo h2 hgr (by omega)
          have RH := RH.grown hgr (fun b e hr => by
            injection hr with hr
            have h2 := RB1 b e
            omega)
          refine hK.out _ _ ⟨hb2, h8, Nat.le_trans hbs hgr.size⟩ (wpPerm_done ?_)
          clear hK K hlow hgr hbw hbs hb2 h2
          have RW := hs_of_own (l := woL ws s ++ [⟨s, t, x⟩]) (by rw [cellsH_append, cellsH_one]; exact o5)
          have RHn : ∀ b, A = some ⟨b, 0, none⟩ → some b ≠ some (w.heap.size + 1 + 1) := fun b e hr => by
            injection hr with hr
            have h2 := RB1 b e
            omega
          have RWn : ∀ b, A5 = some ⟨b, 0, none⟩ → some b ≠ some (w.heap.size + 1 + 1) := fun b e hr => by
            injection hr with hr
            have h1 := (o5.lt b (by rw [e]; rfl)).1
            omega
          have q1 := B1.cell 0
          have q1' := B1.cell 1
          have f3 := B3.frozen 0
          have f3' := B3.frozen 1
          have q3 := B3.cell 0
          have q3' := B3.cell 1
          go_wp2
          clear q1 q1' f3 f3' q3 q3'
          obtain ⟨w9, hw9, B9, hlow9, hgr9⟩ := Blk.set2 B3 (.slice A k c) (.slice A5 ((woL ws s).length + 1) c5)
          rw [← hw9]
          clear hw9
          have q1 := B9.cell 0
          have q1' := B9.cell 1
          have h9 := Below.trans h8 (hlow9 w.heap.size (by omega))
          exact bodyPost_ret (v := .tuple #[.agg #[.slice A k c, .slice A5 ((woL ws s).length + 1) c5], .bool false]) (by simp [results, Try.results18, go_sem, q1, q1']; try rfl) rfl
            ⟨_, rfl, ⟨_, _, _, _, _, _, rfl, HL.out, RH.grown hgr9 RHn, (by simp), RW.grown hgr9 RWn⟩, h9⟩
        | true =>
          have hany : hs.any (agB ⟨s, t, x⟩) = false := hany
          have e3 : freeB ⟨hs, ws⟩ ⟨s, t, x⟩ = true := by unfold freeB; simp [hb, hany]
          have e4 : askL ⟨hs, ws⟩ ⟨s, t, x⟩ = ⟨hs ++ [⟨s, t, x⟩], woL ws s⟩ := by unfold askL; simp [e3, hb, hf]
          obtain rfl : true = fb := e3.symm.trans HFB.out
          obtain rfl : _ = R := e4.symm.trans HR.out
          clear hany e3 e4 hf hb hno HO HFR HFB HR HAP hbr hbW
          have hlo := B3.lt
          obtain ⟨AX, cX, w4, hr1, ox, hbx⟩ := app15 hs A k c wr HL.out (by omega) (r1.ext hwr)
          have h4 := Below.trans hwr (Below.mono hbx hwr.size)
          obtain ⟨AY, cY, w5, hr2, o5, hby⟩ := app18 hs k AX cX s t x w4 wr.heap.size (by omega) ox (by have := hbx.size; omega)
          have h5 := Below.trans hwr (Below.mono (Below.trans hbx hby) hwr.size)
          have o5 := own_base o5 (show w.heap.size + 3 ≤ _ from by omega)
          have qa : (wr.alloc (.cells #[] 46)).cell? ⟨w.heap.size, 0, none⟩ = some (.slice A k c) := (B1.ext ((Below.refl _ _).alloc (Nat.le_refl _) _)).cell 0
          have B1 := B1.ext (Below.trans hbx hby)
          have B3 := B3.ext (Below.trans hbx hby)
          have p2 := (B2.ext hbx).three (Below.refl _ _)
          have B2 := B2.ext (Below.trans hbx hby)
          have q1b := B1.cell 1
          have q2b := B2.three (Below.refl _ _)
          go_wp2_with (at_builtin; first | refine Lib.wpList_append_run _ rfl _ _ _ _ rfl _ _ rfl rfl _ _ hr1 ?_ | refine Lib.wpList_append_run _ rfl _ _ _ _ rfl _ _ rfl rfl _ _ hr2 ?_)
          clear q1 q1' q2 qa p2 hr1 hr2 ox hbx hby h4
          have hlo5 := B3.lt
          refine (rwithout_ ws A' n' c' s _ HL'.out (by omega) (r2.ext h5)).mono ?_
          rintro e w6 ⟨A4, c4, rfl, o4, hb4⟩
          have o4 := own_base o4 (show w.heap.size + 3 ≤ _ from by omega)
          have B1 := B1.ext hb4
          have B3 := B3.ext hb4
          have o5 := own_ext o5 hb4
          have h7 := Below.trans h5 (Below.mono hb4 h5.size)
          clear q1b q2b hb4 B2
          have f1 := B1.frozen 0
          have f1' := B1.frozen 1
          have q1 := B1.cell 0
          have q1' := B1.cell 1
          have f3 := B3.frozen 0
          have f3' := B3.frozen 1
          have q3 := B3.cell 0
          have q3' := B3.cell 1
          go_wp2
          clear f1 f1' q1 q1' f3 f3' q3 q3'
          obtain ⟨w7, hw7, B1', hlow, hgr⟩ := Blk.set2 B1 (.slice AY (k + 1) cY) (.slice A4 (woL ws s).length c4)
          rw [← hw7]
          clear hw7
          have h8 := Below.trans h7 (hlow w.heap.size (Nat.le_refl _))
          have B3 := B3.grown hgr (by simp; omega)
          have o4 := own_lo o4 hgr (by omega)
          have o5 := own_lo o5 hgr (by omega)
          clear B1 hlow hgr h7
          obtain ⟨w9, hw9, B9, hlow9, hgr9⟩ := Blk.set2 B3 (.slice AY (k + 1) cY) (.slice A4 (woL ws s).length c4)
          rw [← hw9]
          clear hw9
          have q1 := B9.cell 0
          have q1' := B9.cell 1
          have h9 := Below.trans h8 (hlow9 w.heap.size (by omega))
          have o4 := own_lo o4 hgr9 (by omega)
          have o5 := own_lo o5 hgr9 (by omega)
          exact bodyPost_ret (v := .tuple #[.agg #[.slice AY (k + 1) cY, .slice A4 (woL ws s).length c4], .bool true]) (by simp [results, Try.results18, go_sem, q1, q1']; try rfl) rfl
            ⟨_, rfl, ⟨_, _, _, _, _, _, rfl, by simp [HL.out], hs_of_own o5, rfl, hs_of_own o4⟩, h9⟩
      · have hany : hs.any (agB ⟨s, t, x⟩) = !fr := by
          have := HFR.out
          rw [List.take_of_length_le (by rw [HL.out]; exact Nat.le_refl _)] at this
          rw [← this]
          simp
        obtain ⟨os, ot, ox⟩ := o
        have hf := idx_own HAP.out ho hmo
        unfold mineB at hmo
        simp only [Bool.and_eq_true, beq_iff_eq, beqBA] at hmo
        obtain ⟨hm1, hm2⟩ := hmo
        have hm1 := hm1.symm
        have hm2 := hm2.symm
        subst hm1 hm2
        have hb : hasB ⟨hs, ws⟩ ⟨s, t, x⟩ = (ox || !x) := by unfold hasB; simp only [hf, ho]
        obtain ⟨gx, rfl, hgx⟩ := r1.some_ (by rw [HL.out]; omega)
        have hdz : decide ((0 : Int) ≤ (m : Int)) = true := by simp
        have hmn : (m : Int) < (k : Int) := by omega
        have F1 := (r1.ext hwr).at_ ho
        cases ox with
        | true =>
          have e3 : freeB ⟨hs, ws⟩ ⟨s, t, x⟩ = true := by unfold freeB; simp [hb]
          have e4 : askL ⟨hs, ws⟩ ⟨s, t, x⟩ = ⟨hs, woL ws s⟩ := by unfold askL; simp [e3, hb]
          obtain rfl : true = fb := e3.symm.trans HFB.out
          obtain rfl : _ = R := e4.symm.trans HR.out
          clear hany e3 e4 hf hb HO HFR HFB HR HAP hbr hbW
          go_wp2_with fail
          have hlo := B3.lt
          refine (rwithout_ ws A' n' c' s _ HL'.out (by omega) (r2.ext hwr)).mono ?_
          rintro e w4 ⟨A4, c4, rfl, o4, hb4⟩
          have o4 := own_base o4 (show w.heap.size + 3 ≤ _ from by omega)
          have B1 := B1.ext hb4
          have B3 := B3.ext hb4
          have RH := (r1.ext hwr).ext hb4
          have h7 := Below.trans hwr (Below.mono hb4 hwr.size)
          clear q1 q1' q2 F1 hb4 B2
          have f1 := B1.frozen 1
          have q1 := B1.cell 1
          have q1z := B1.cell 0
          have f3 := B3.frozen 0
          have f3' := B3.frozen 1
          have q3 := B3.cell 0
          have q3' := B3.cell 1
          go_wp2
          clear f1 q1 q1z f3 f3' q3 q3'
          obtain ⟨w6, hw6, B1', hlow, hgr⟩ := Blk.set1' B1 (.slice A4 (woL ws s).length c4)
          rw [← hw6]
          clear hw6
          have h8 := Below.trans h7 (hlow w.heap.size (Nat.le_refl _))
          have B3 := B3.grown hgr (by simp; omega)
          have o5 := own_lo o4 hgr (by omega)
          have RH := RH.grown hgr (fun b e hr => by
            injection hr with hr
            have h2 := RB1 b e
            omega)
          clear B1 hlow hgr h7 o4
          have RW := hs_of_own o5
          have RHn : ∀ b, (some (⟨gx, 0, none⟩ : Addr)) = some ⟨b, 0, none⟩ → some b ≠ some (w.heap.size + 1 + 1) := fun b e hr => by
            injection hr with hr
            have h2 := RB1 b e
            omega
          have RWn : ∀ b, A4 = some ⟨b, 0, none⟩ → some b ≠ some (w.heap.size + 1 + 1) := fun b e hr => by
            injection hr with hr
            have h1 := (o5.lt b (by rw [e]; rfl)).1
            omega
          obtain ⟨w9, hw9, B9, hlow9, hgr9⟩ := Blk.set2 B3 (.slice (some (⟨gx, 0, none⟩ : Addr)) k c) (.slice A4 (woL ws s).length c4)
          rw [← hw9]
          clear hw9
          have q1 := B9.cell 0
          have q1' := B9.cell 1
          have h9 := Below.trans h8 (hlow9 w.heap.size (by omega))
          exact bodyPost_ret (v := .tuple #[.agg #[.slice (some (⟨gx, 0, none⟩ : Addr)) k c, .slice A4 (woL ws s).length c4], .bool true]) (by simp [results, Try.results18, go_sem, q1, q1']; try rfl) rfl
            ⟨_, rfl, ⟨_, _, _, _, _, _, rfl, HL.out, RH.grown hgr9 RHn, rfl, RW.grown hgr9 RWn⟩, h9⟩
        | false =>
          cases x with
          | false =>
            have e3 : freeB ⟨hs, ws⟩ ⟨s, t, false⟩ = true := by unfold freeB; simp [hb]
            have e4 : askL ⟨hs, ws⟩ ⟨s, t, false⟩ = ⟨hs, woL ws s⟩ := by unfold askL; simp [e3, hb]
            obtain rfl : true = fb := e3.symm.trans HFB.out
            obtain rfl : _ = R := e4.symm.trans HR.out
            clear hany e3 e4 hf hb HO HFR HFB HR HAP hbr hbW
            go_wp2_with fail
            have hlo := B3.lt
            refine (rwithout_ ws A' n' c' s _ HL'.out (by omega) (r2.ext hwr)).mono ?_
            rintro e w4 ⟨A4, c4, rfl, o4, hb4⟩
            have o4 := own_base o4 (show w.heap.size + 3 ≤ _ from by omega)
            have B1 := B1.ext hb4
            have B3 := B3.ext hb4
            have RH := (r1.ext hwr).ext hb4
            have h7 := Below.trans hwr (Below.mono hb4 hwr.size)
            clear q1 q1' q2 F1 hb4 B2
            have f1 := B1.frozen 1
            have q1 := B1.cell 1
            have q1z := B1.cell 0
            have f3 := B3.frozen 0
            have f3' := B3.frozen 1
            have q3 := B3.cell 0
            have q3' := B3.cell 1
            go_wp2
            clear f1 q1 q1z f3 f3' q3 q3'
            obtain ⟨w6, hw6, B1', hlow, hgr⟩ := Blk.set1' B1 (.slice A4 (woL ws s).length c4)
            rw [← hw6]
            clear hw6
            have h8 := Below.trans h7 (hlow w.heap.size (Nat.le_refl _))
            have B3 := B3.grown hgr (by simp; omega)
            have o5 := own_lo o4 hgr (by omega)
            have RH := RH.grown hgr (fun b e hr => by
              injection hr with hr
              have h2 := RB1 b e
              omega)
            clear B1 hlow hgr h7 o4
            have RW := hs_of_own o5
            have RHn : ∀ b, (some (⟨gx, 0, none⟩ : Addr)) = some ⟨b, 0, none⟩ → some b ≠ some (w.heap.size + 1 + 1) := fun b e hr => by
              injection hr with hr
              have h2 := RB1 b e
              omega
            have RWn : ∀ b, A4 = some ⟨b, 0, none⟩ → some b ≠ some (w.heap.size + 1 + 1) := fun b e hr => by
              injection hr with hr
              have h1 := (o5.lt b (by rw [e]; rfl)).1
              omega
            obtain ⟨w9, hw9, B9, hlow9, hgr9⟩ := Blk.set2 B3 (.slice (some (⟨gx, 0, none⟩ : Addr)) k c) (.slice A4 (woL ws s).length c4)
            rw [← hw9]
            clear hw9
            have q1 := B9.cell 0
            have q1' := B9.cell 1
            have h9 := Below.trans h8 (hlow9 w.heap.size (by omega))
            exact bodyPost_ret (v := .tuple #[.agg #[.slice (some (⟨gx, 0, none⟩ : Addr)) k c, .slice A4 (woL ws s).length c4], .bool true]) (by simp [results, Try.results18, go_sem, q1, q1']; try rfl) rfl
              ⟨_, rfl, ⟨_, _, _, _, _, _, rfl, HL.out, RH.grown hgr9 RHn, rfl, RW.grown hgr9 RWn⟩, h9⟩
          | true =>
            cases fr with
            | false =>
              have hany : hs.any (agB ⟨s, t, true⟩) = true := hany
              have e3 : freeB ⟨hs, ws⟩ ⟨s, t, true⟩ = false := by unfold freeB; simp [hb, hany]
              have e4 : askL ⟨hs, ws⟩ ⟨s, t, true⟩ = ⟨hs, woL ws s ++ [⟨s, t, true⟩]⟩ := by unfold askL; simp [e3]
              obtain rfl : false = fb := e3.symm.trans HFB.out
              obtain rfl : _ = R := e4.symm.trans HR.out
              clear hany e3 e4 hf hb HO HFR HFB HR HAP hbr hbW
              go_wp2_with fail
              clear q1 q1' q2 F1
              obtain ⟨i0, hi, hz0, hz1, hz2⟩ := info_parts (P := Try.prog) (e := 46) (z := .agg #[.int .i64 0, .string ⟨#[]⟩, .bool false]) (size := 3) (bytes := 32) (by kernel_rfl)
              have hlo := B3.lt
              have D := fun w' (h : Blk w' (w.heap.size + 1) 46 #[.int .i64 s, .string t, .bool true] ∧ Below w.heap.size w w' ∧ wr.heap.size ≤ w'.heap.size) => (show w'.cell? ⟨w.heap.size + 1, 0, none⟩ = some (.int .i64 s) ∧ w'.cell? ⟨w.heap.size + 1, 1, none⟩ = some (.string t) ∧ w'.cell? ⟨w.heap.size + 1, 2, none⟩ = some (.bool true) from h.1.three (Below.refl _ _))
              refine wp_region_mixS1 (S := fun w' => Blk w' (w.heap.size + 1) 46 #[.int .i64 s, .string t, .bool true] ∧ Below w.heap.size w w' ∧ wr.heap.size ≤ w'.heap.size) ⟨6, 79, fun g => .slice (some ⟨g, 0, none⟩) 1 1, .cells #[.int .i64 s, .string t, .bool true] 46⟩ [(0, true), (2, true), (3, true), (5, true)] [(1, false), (4, false)] [(7, false), (8, true), (9, false)] (by kernel_rfl) (by kernel_rfl) ⟨Blk.drew B2, hwr.drew, Nat.le_refl _⟩ (fun w1 w2 he h => ⟨h.1.ext he, Below.trans h.2.1 (Below.mono he h.2.1.size), Nat.le_trans h.2.2 he.size⟩) (fun _ h => h.2.2) ?_
              repeat ((with_reducible show wpI _ _ _ _ _ ((_, true) :: _) _ _); (first | (refine wpI_on (v := ?_) rfl rfl (wanted_free rfl) (fun w' hS => ?_) ?_; rotate_left; (focus (go_simp; (try with_reducible rfl); done)); try simp only [List.setIfInBounds_toArray, List.set_cons_zero, List.set_cons_succ]) | (refine wpI_on (v := ?_) rfl rfl (wanted_yes rfl rfl rfl) (fun w' hS => ?_) ?_; rotate_left; (focus (go_simp; (try with_reducible rfl); done)); try simp only [List.setIfInBounds_toArray, List.set_cons_zero, List.set_cons_succ]) | (refine wpI_off rfl rfl (wanted_no rfl rfl rfl) ?_; try simp only [List.setIfInBounds_toArray, List.set_cons_zero, List.set_cons_succ]) | (refine wpI_off rfl rfl (wanted_undef rfl rfl rfl) ?_; try simp only [List.setIfInBounds_toArray, List.set_cons_zero, List.set_cons_succ])))
              refine wpI_done ⟨?_, ?_⟩
              · intro y hy
                simp only [List.mem_cons, List.not_mem_nil, or_false] at hy
                subst hy
                exact ⟨_, rfl, rfl, wanted_free rfl, fun w => by go_simp⟩
              clear D
              refine wpI_do rfl (wanted_free rfl) (fun wI hI hSI K hK => ?_)
              have p1 := (B1.ext (Below.trans (Below.refl _ _).drew hI)).cell 1
              go_simp
              refine hK.out _ _ (Below.refl _ _) ?_
              clear hK K p1 hSI
              have hI1 := Below.trans (Below.refl _ _).drew hI
              clear hI
              refine wpI_do rfl (wanted_free rfl) (fun wI hI hSI K hK => ?_); go_simp
              have hI2 := Below.trans hI1 (Below.mono hI hI1.size)
              refine (rwithout_ ws A' n' c' s _ HL'.out (by omega) ((r2.ext hwr).ext hI2)).mono ?_
              rintro e w4 ⟨A4, c4, rfl, o4, hb4⟩
              refine hK.out _ _ hb4 ?_
              clear hK K hI hI1 hSI
              have o4 := own_base o4 (show w.heap.size + 3 ≤ _ from by have := hI2.size; omega)
              have hI4 := Below.trans hI2 (Below.mono hb4 hI2.size)
              clear hb4 hI2
              repeat ((with_reducible show wpI _ _ _ _ _ ((_, true) :: _) _ _); (first | (refine wpI_on (v := ?_) rfl rfl (wanted_free rfl) (fun w' hS => ?_) ?_; rotate_left; (focus (go_simp; (try with_reducible rfl); done)); try simp only [List.setIfInBounds_toArray, List.set_cons_zero, List.set_cons_succ]) | (refine wpI_on (v := ?_) rfl rfl (wanted_yes rfl rfl rfl) (fun w' hS => ?_) ?_; rotate_left; (focus (go_simp; (try with_reducible rfl); done)); try simp only [List.setIfInBounds_toArray, List.set_cons_zero, List.set_cons_succ]) | (refine wpI_off rfl rfl (wanted_no rfl rfl rfl) ?_; try simp only [List.setIfInBounds_toArray, List.set_cons_zero, List.set_cons_succ]) | (refine wpI_off rfl rfl (wanted_undef rfl rfl rfl) ?_; try simp only [List.setIfInBounds_toArray, List.set_cons_zero, List.set_cons_succ])))
              refine wpI_done ?_
              intro g1 wf he hb hlo1 hhi1 hat1
              try simp only [List.setIfInBounds_toArray, List.set_cons_zero, List.set_cons_succ]
              have C1 : Blk wf g1 46 #[.int .i64 s, .string t, .bool true] := hat1
              have o4 := own_ext o4 he
              have hwf := Below.trans hI4 (Below.mono he hI4.size)
              obtain ⟨hb2, hbw, hbs⟩ := hb
              clear hat1 he hI4
              refine wpPerm_do rfl (wanted_free rfl) (fun K hK => ?_)
              refine wp_append_own _ (.tmp 77) (.tmp 79) 38 rfl (w.heap.size + 3) 46 i0 _ 3 32 Try.underlying38 hi hz0 hz1 hz2 rfl (by decide) _ _ _ rfl o4 ⟨g1, 0, none⟩ 1 1
                [.int .i64 s, .string t, .bool true] rfl rfl (three_at C1) (by intro u hu; simp at hu; rcases hu with rfl | rfl | rfl <;> rfl) (by have := woL_len ws s; have := HL'.out; unfold maxLen; omega) (by have := woL_len ws s; have := HL'.out; omega) (by omega) (fun v' w5 h2 h3 h4 => ?_)
              obtain ⟨A5, c5, rfl⟩ := own_slice h2
              clear h4
              have hlk := fun k hk => (o4.lt k hk).1
              have B1 := (B1.ext hwf).grown h3 (fun e => by have := hlk _ e.symm; omega)
              have B3 := (B3.ext hwf).grown h3 (fun e => by have := hlk _ e.symm; omega)
              have hb2 := hb2.grown h3 (fun e => by have := hlk _ e.symm; omega)
              have RH := ((r1.ext hwr).ext hwf).grown h3 (fun b e hr => by
                have h1 := hlk b hr.symm
                have h2 := RB1 b e
                omega)
              have hbw := hbw.grown h3 hbw.size (fun k hk => by have := hlk k hk; omega)
              have hbs := Nat.le_trans hbs h3.size
              refine hK.out _ _ ⟨hb2, hbw, hbs⟩ ?_
              clear hK K hlk h3 o4 C1 hwf hhi1 hlo1
              repeat ((with_reducible show wpPerm _ _ _ _ ((_, true) :: _) _ _); (first | (refine wpPerm_on (v := ?_) rfl rfl (wanted_free rfl) (fun w' hS => ?_) ?_; rotate_left; (focus (go_simp; (try with_reducible rfl); done)); try simp only [List.setIfInBounds_toArray, List.set_cons_zero, List.set_cons_succ]) | (refine wpPerm_on (v := ?_) rfl rfl (wanted_yes rfl rfl rfl) (fun w' hS => ?_) ?_; rotate_left; (focus (go_simp; (try with_reducible rfl); done)); try simp only [List.setIfInBounds_toArray, List.set_cons_zero, List.set_cons_succ]) | (refine wpPerm_off rfl rfl (wanted_no rfl rfl rfl) ?_; try simp only [List.setIfInBounds_toArray, List.set_cons_zero, List.set_cons_succ]) | (refine wpPerm_off rfl rfl (wanted_undef rfl rfl rfl) ?_; try simp only [List.setIfInBounds_toArray, List.set_cons_zero, List.set_cons_succ])))
              have f1 := B1.frozen 1
              have q1 := B1.cell 1
              refine wpPerm_do rfl (wanted_free rfl) (fun K hK => ?_); go_simp
              clear f1 q1
              obtain ⟨w6, hw6, B1', hlow, hgr⟩ := Blk.set1' B1 (.slice A5 ((woL ws s).length + 1) c5)
              rw [← hw6]
              clear hw6
              clear B1
              have B1 := B1'
              clear B1'
              have h8 := Below.trans hbw (hlow w.heap.size (Nat.le_refl _))
              have B3 := B3.grown hgr (by simp; omega)
              have hb2 := hb2.grown hgr (by simp)
              have o5 := own_lo h2 hgr (by omega)
              have RH := RH.grown hgr (fun b e hr => by
                injection hr with hr
                have h2 := RB1 b e
                omega)
              refine hK.out _ _ ⟨hb2, h8, Nat.le_trans hbs hgr.size⟩ (wpPerm_done ?_)
              clear hK K hlow hgr hbw hbs hb2 h2
              have RW := hs_of_own (l := woL ws s ++ [⟨s, t, true⟩]) (by rw [cellsH_append, cellsH_one]; exact o5)
              have RHn : ∀ b, (some (⟨gx, 0, none⟩ : Addr)) = some ⟨b, 0, none⟩ → some b ≠ some (w.heap.size + 1 + 1) := fun b e hr => by
                injection hr with hr
                have h2 := RB1 b e
                omega
              have RWn : ∀ b, A5 = some ⟨b, 0, none⟩ → some b ≠ some (w.heap.size + 1 + 1) := fun b e hr => by
                injection hr with hr
                have h1 := (o5.lt b (by rw [e]; rfl)).1
                omega
              have q1 := B1.cell 0
              have q1' := B1.cell 1
              have f3 := B3.frozen 0
              have f3' := B3.frozen 1
              have q3 := B3.cell 0
              have q3' := B3.cell 1
              go_wp2
              clear q1 q1' f3 f3' q3 q3'
              obtain ⟨w9, hw9, B9, hlow9, hgr9⟩ := Blk.set2 B3 (.slice (some (⟨gx, 0, none⟩ : Addr)) k c) (.slice A5 ((woL ws s).length + 1) c5)
              rw [← hw9]
              clear hw9
              have q1 := B9.cell 0
              have q1' := B9.cell 1
              have h9 := Below.trans h8 (hlow9 w.heap.size (by omega))
              exact bodyPost_ret (v := .tuple #[.agg #[.slice (some (⟨gx, 0, none⟩ : Addr)) k c, .slice A5 ((woL ws s).length + 1) c5], .bool false]) (by simp [results, Try.results18, go_sem, q1, q1']; try rfl) rfl
                ⟨_, rfl, ⟨_, _, _, _, _, _, rfl, HL.out, RH.grown hgr9 RHn, (by simp), RW.grown hgr9 RWn⟩, h9⟩
            | true =>
              have hany : hs.any (agB ⟨s, t, true⟩) = false := hany
              have e3 : freeB ⟨hs, ws⟩ ⟨s, t, true⟩ = true := by unfold freeB; simp [hb, hany]
              have e4 : askL ⟨hs, ws⟩ ⟨s, t, true⟩ = ⟨hs.set m ⟨s, t, true⟩, woL ws s⟩ := by unfold askL; simp [e3, hb, hf]
              obtain rfl : true = fb := e3.symm.trans HFB.out
              obtain rfl : _ = R := e4.symm.trans HR.out
              clear hany e3 e4 hf hb HO HFR HFB HR HAP hbr hbW
              have hlo := B3.lt
              obtain ⟨AX, cX, w4, hr1, ox, hbx⟩ := app15 hs (some ⟨gx, 0, none⟩) k c wr HL.out (by omega) (r1.ext hwr)
              have h4 := Below.trans hwr (Below.mono hbx hwr.size)
              obtain ⟨b3, cY, e3, hb3, hb3'⟩ := ox.form (by omega)
              injection e3 with e3 e3' e3''
              subst e3 e3''
              have Fz := ox.frozenAt (m * 3 + 2)
              have Qz := (ox.cellAt (m * 3 + 2) (by omega)).trans (cellsH_at hs m _ ho).2.2
              have S2 := ox.stored (m * 3 + 2) (.bool true)
              have hlk : wr.heap.size ≤ b3 := hb3
              have qa : (wr.alloc (.cells #[] 46)).cell? ⟨w.heap.size, 0, none⟩ = some (.slice (some ⟨gx, 0, none⟩) k c) := (B1.ext ((Below.refl _ _).alloc (Nat.le_refl _) _)).cell 0
              have B1 := (B1.ext hbx).grown S2.2 (by simp; omega)
              have B3 := (B3.ext hbx).grown S2.2 (by simp; omega)
              have B2 := (B2.ext hbx).grown S2.2 (by simp; omega)
              have h5 := h4.grown S2.2 h4.size (fun k hk => by injection hk with hk; omega)
              have o5 := own_base S2.1 (show w.heap.size + 3 ≤ _ from by omega)
              rw [cellsH_setx hs m _ true ho] at o5
              have q1b := B1.cell 1
              have q2b := B2.three (Below.refl _ _)
              go_wp2_with (at_builtin; refine Lib.wpList_append_run _ rfl _ _ _ _ rfl _ _ rfl rfl _ _ hr1 ?_)
              clear q1 q1' q2 qa F1 hr1 ox hbx S2 h4 Fz Qz
              generalize w4.setCell ⟨b3, m * 3 + 2, none⟩ (.bool true) = w5 at *
              obtain ⟨AY, hAY⟩ : ∃ AY : Option Addr, some ⟨b3, 0, none⟩ = AY := ⟨_, rfl⟩
              rw [hAY] at o5 ⊢
              clear hAY
              have hlo5 := B3.lt
              refine (rwithout_ ws A' n' c' s _ HL'.out (by omega) (r2.ext h5)).mono ?_
              rintro e w6 ⟨A4, c4, rfl, o4, hb4⟩
              have o4 := own_base o4 (show w.heap.size + 3 ≤ _ from by omega)
              have B1 := B1.ext hb4
              have B3 := B3.ext hb4
              have o5 := own_ext o5 hb4
              have h7 := Below.trans h5 (Below.mono hb4 h5.size)
              clear q1b q2b hb4 B2
              have f1 := B1.frozen 0
              have f1' := B1.frozen 1
              have q1 := B1.cell 0
              have q1' := B1.cell 1
              have f3 := B3.frozen 0
              have f3' := B3.frozen 1
              have q3 := B3.cell 0
              have q3' := B3.cell 1
              go_wp2
              clear f1 f1' q1 q1' f3 f3' q3 q3'
              obtain ⟨w7, hw7, B1', hlow, hgr⟩ := Blk.set2 B1 (.slice AY k cX) (.slice A4 (woL ws s).length c4)
              rw [← hw7]
              clear hw7
              have h8 := Below.trans h7 (hlow w.heap.size (Nat.le_refl _))
              have B3 := B3.grown hgr (by simp; omega)
              have o4 := own_lo o4 hgr (by omega)
              have o5 := own_lo o5 hgr (by omega)
              clear B1 hlow hgr h7
              obtain ⟨w9, hw9, B9, hlow9, hgr9⟩ := Blk.set2 B3 (.slice AY k cX) (.slice A4 (woL ws s).length c4)
              rw [← hw9]
              clear hw9
              have q1 := B9.cell 0
              have q1' := B9.cell 1
              have h9 := Below.trans h8 (hlow9 w.heap.size (by omega))
              have o4 := own_lo o4 hgr9 (by omega)
              have o5 := own_lo o5 hgr9 (by omega)
              exact bodyPost_ret (v := .tuple #[.agg #[.slice AY k cX, .slice A4 (woL ws s).length c4], .bool true]) (by simp [results, Try.results18, go_sem, q1, q1']; try rfl) rfl
                ⟨_, rfl, ⟨_, _, _, _, _, _, rfl, by simp [HL.out], hs_of_own o5, rfl, hs_of_own o4⟩, h9⟩
end Go.Proofs.Ytlfonenjgchklaa.lk
