/- Contract: Ask, where a hold is raised; all together. Printed by genask.py. -/
import Derived.Test.YtlfonenjgchklaaM5
namespace Go.Proofs.Ytlfonenjgchklaa.lk
open Go.ChangeShapes Go.WideShapes Go.ChangeAt Go.RowKit Go.Proofs.Ytlfonenjgchklaa.lib
set_option linter.unusedVariables false
theorem grown_two {a b c : World} {g : Nat} (h : a.grownBy b (some g)) (k : b.grownBy c (some g)) : a.grownBy c (some g) :=
  ⟨k.os.trans h.os, k.tape.trans h.tape, k.output.trans h.output, Nat.le_trans h.size k.size, fun i hi hn => (k.block i (Nat.lt_of_lt_of_le hi h.size) hn).trans (h.block i hi hn)⟩
theorem cellsH_set : ∀ (l : List Hd) (i : Nat) (o p : Hd), l[i]? = some o → (((cellsH l).set (i * 3) (.int .i64 p.s)).set (i * 3 + 1) (.string p.t)).set (i * 3 + 2) (.bool p.x) = cellsH (l.set i p)
  | [], i, o, p, h => by cases h
  | y :: r, 0, o, p, h => rfl
  | y :: r, i + 1, o, p, h => by
    have ih := cellsH_set r i o p h
    have e : cellsH (y :: r) = y.cells ++ cellsH r := rfl
    have e2 : cellsH ((y :: r).set (i + 1) p) = y.cells ++ cellsH (r.set i p) := rfl
    have e1 : (i + 1) * 3 = i * 3 + 3 := by omega
    rw [e, e2, ← ih, e1]
    rfl
theorem own_ne {w : World} {base b n c g : Nat} {xs : List Value} {cs : Array Value} (h : w.ownsRow base 30 3 (.slice (some ⟨b, 0, none⟩) n c) n xs) (hB : Blk w g 26 cs) : b ≠ g := by
  rcases h.2 with ⟨e, _⟩ | ⟨g', cap, cur, e, _, hgg, _⟩
  · cases e
  · injection e with e
    injection e with e
    injection e with e
    subst e
    rintro rfl
    unfold Blk at hB
    simp [hB] at hgg

set_option maxHeartbeats 4000000 in
set_option maxRecDepth 100000 in
theorem ask_up (hs ws : List Hd) (s : Int) (t : ByteArray) (i : Nat) (A A' : Option Addr) (n c n' c' : Nat) (w : World) (hl : hs.length = n) (hn : n ≤ 90000) (hr : Hs w A hs) (hl' : ws.length = n') (hn' : n' ≤ 90000) (hr' : Hs w A' ws)
    (hi : idxI (mineB ⟨s, t, true⟩) hs = i) (ho : hs[i]? = some ⟨s, t, false⟩) (hf : hs.any (agB ⟨s, t, true⟩) = false) :
    Calls Try.prog 11 #[.agg #[.slice A n c, .slice A' n' c'], .agg #[.int .i64 s, .string t, .bool true]] w (AskP ⟨hs.set i ⟨s, t, true⟩, woL ws s⟩ true w) := by
  have HL := Lib.hid hl
  have HL' := Lib.hid hl'
  clear hl hl'
  have HF := Lib.hid hf
  clear hf
  obtain ⟨b, rfl, hbl⟩ := hr.some_ (by have := (List.getElem?_eq_some_iff.1 ho).1; omega)
  have hin : i < n := by
    have := (List.getElem?_eq_some_iff.1 ho).1
    have := HL.out
    omega
  have hdi : decide ((i : Int) < (n : Int)) = true := by simp; omega
  have hdz : decide ((0 : Int) ≤ (i : Int)) = true := by simp
  have HOO := Lib.hid ho
  have HI := Lib.hid hi
  clear ho hi
  go_enter Try.func11, Try.ntmps11
  go_wp2_with fail
  obtain ⟨W, hW_, hbW, B1, B2, B3⟩ : ∃ W_, W_ = (((w.alloc (.cells #[.slice (some ⟨b, 0, none⟩) n c, .slice A' n' c'] 26)).alloc (.cells #[.int .i64 s, .string t, .bool true] 30)).alloc (.cells #[.slice none 0 0, .slice none 0 0] 26)) ∧ Below w.heap.size w W_ ∧ Blk W_ (w.heap.size) 26 #[.slice (some ⟨b, 0, none⟩) n c, .slice A' n' c'] ∧ Blk W_ (w.heap.size + 1) 30 #[.int .i64 s, .string t, .bool true] ∧ Blk W_ (w.heap.size + 1 + 1) 26 #[.slice none 0 0, .slice none 0 0] :=
    ⟨_, rfl, ((((Below.refl _ _).alloc (Nat.le_refl _) _).alloc (by simp; try omega) _).alloc (by simp; try omega) _), (((blk_new_at w (w.heap.size) _ _ (by simp)).alloc _).alloc _), ((blk_new_at (w.alloc (.cells #[.slice (some ⟨b, 0, none⟩) n c, .slice A' n' c'] 26)) (w.heap.size + 1) _ _ (by simp)).alloc _), (blk_new_at ((w.alloc (.cells #[.slice (some ⟨b, 0, none⟩) n c, .slice A' n' c'] 26)).alloc (.cells #[.int .i64 s, .string t, .bool true] 30)) (w.heap.size + 1 + 1) _ _ (by simp))⟩
  rw [← hW_]
  clear hW_
  have q1 := B1.cell 0
  have q1' := B1.cell 1
  have q2 := B2.three (Below.refl _ _)
  go_wp2_with fail
  refine (mine_ ⟨s, t, true⟩ (some ⟨b, 0, none⟩) A' n c n' c' hs _ HL.out (by omega) (hr.ext hbW)).mono ?_
  rintro e w1 ⟨rfl, hb1⟩
  rw [HI.out]
  have h1 := Below.trans hbW (Below.mono hb1 hbW.size)
  have B1 := B1.ext hb1
  have B2 := B2.ext hb1
  have B3 := B3.ext hb1
  clear q1 q1' q2
  have hw1 : w.heap.size + 2 < w1.heap.size := B3.lt
  go_wp2_with fail
  have D := fun w' (h : Below w1.heap.size w1.drew w') => (show w'.cell? ⟨w.heap.size, 0, none⟩ = some (.slice (some ⟨b, 0, none⟩) n c) ∧ w'.cell? ⟨w.heap.size + 1, 0, none⟩ = some (.int .i64 s) ∧ w'.cell? ⟨w.heap.size + 1, 1, none⟩ = some (.string t) ∧ w'.cell? ⟨w.heap.size + 1, 2, none⟩ = some (.bool true) from
    ⟨(B1.ext (Below.trans (Below.refl _ _).drew h)).cell 0, (B2.three (Below.trans (Below.refl _ _).drew h)).1, (B2.three (Below.trans (Below.refl _ _).drew h)).2.1, (B2.three (Below.trans (Below.refl _ _).drew h)).2.2⟩)
  have D2 := fun w' (h : Below w1.heap.size w1.drew w') => (((hr.ext h1).ext (Below.trans (Below.refl _ _).drew h)).at_ HOO.out)
  refine wp_region_one [(0, true), (1, true), (2, true), (3, true), (4, true), (5, true), (6, true), (7, true), (8, true), (9, true), (10, true), (11, true), (12, true), (13, true), (14, true), (15, true), (16, true), (17, true), (18, true), (19, true)] (by kernel_rfl) (by kernel_rfl) (by kernel_rfl) (by decide) ?_
  repeat ((with_reducible show wpPerm _ _ _ _ ((_, true) :: _) _ _); (first | (refine wpPerm_on (v := ?_) rfl rfl (wanted_free rfl) (fun w' hS => ?_) ?_; rotate_left; (focus (go_simp; (try with_reducible rfl); done)); try simp only [List.setIfInBounds_toArray, List.set_cons_zero, List.set_cons_succ]) | (refine wpPerm_on (v := ?_) rfl rfl (wanted_yes rfl rfl rfl) (fun w' hS => ?_) ?_; rotate_left; (focus (go_simp; (try with_reducible rfl); done)); try simp only [List.setIfInBounds_toArray, List.set_cons_zero, List.set_cons_succ]) | (refine wpPerm_off rfl rfl (wanted_no rfl rfl rfl) ?_; try simp only [List.setIfInBounds_toArray, List.set_cons_zero, List.set_cons_succ]) | (refine wpPerm_off rfl rfl (wanted_undef rfl rfl rfl) ?_; try simp only [List.setIfInBounds_toArray, List.set_cons_zero, List.set_cons_succ])))
  refine wpPerm_done ?_
  clear D D2
  have h1d : Below w.heap.size w w1.drew := h1.drew
  have B1 := Blk.drew B1
  have B2 := Blk.drew B2
  have B3 := Blk.drew B3
  have q1 := B1.cell 0
  have q2 := B2.three (Below.refl _ _)
  go_wp2_with fail
  refine (containsAg ⟨s, t, true⟩ hs (some ⟨b, 0, none⟩) n c _ HL.out (by omega) (hr.ext h1d)).mono ?_
  rintro e w2 ⟨rfl, hb2⟩
  rw [HF.out]
  have h2 := Below.trans h1d (Below.mono hb2 h1d.size)
  have B1 := B1.ext hb2
  have B2 := B2.ext hb2
  have B3 := B3.ext hb2
  clear q1 q2 hb1 hb2 h1 h1d
  have hw2 : w.heap.size + 2 < w2.heap.size := B3.lt
  go_wp2_with fail
  have D := fun w' (h : Below w2.heap.size w2.drew w') => (show w'.cell? ⟨w.heap.size, 0, none⟩ = some (.slice (some ⟨b, 0, none⟩) n c) ∧ w'.cell? ⟨w.heap.size, 1, none⟩ = some (.slice A' n' c') ∧ w'.cell? ⟨w.heap.size + 1, 0, none⟩ = some (.int .i64 s) ∧ w'.cell? ⟨w.heap.size + 1, 1, none⟩ = some (.string t) ∧ w'.cell? ⟨w.heap.size + 1, 2, none⟩ = some (.bool true) from
    ⟨(B1.ext (Below.trans (Below.refl _ _).drew h)).cell 0, (B1.ext (Below.trans (Below.refl _ _).drew h)).cell 1, (B2.three (Below.trans (Below.refl _ _).drew h)).1, (B2.three (Below.trans (Below.refl _ _).drew h)).2.1, (B2.three (Below.trans (Below.refl _ _).drew h)).2.2⟩)
  refine wp_region_mix1 ⟨9, 9, fun g => .pointer (some ⟨g, 0, none⟩), .cells #[.slice none 0 0, .slice none 0 0] 26⟩
    [(0, true), (1, true), (3, true), (4, true), (5, true), (6, true)] [(2, false), (7, false), (8, true)] [(10, false)] (by kernel_rfl) (by kernel_rfl) ?_
  repeat ((with_reducible show wpI _ _ _ _ _ ((_, true) :: _) _ _); (first | (refine wpI_on (v := ?_) rfl rfl (wanted_free rfl) (fun w' hS => ?_) ?_; rotate_left; (focus (go_simp; (try with_reducible rfl); done)); try simp only [List.setIfInBounds_toArray, List.set_cons_zero, List.set_cons_succ]) | (refine wpI_on (v := ?_) rfl rfl (wanted_yes rfl rfl rfl) (fun w' hS => ?_) ?_; rotate_left; (focus (go_simp; (try with_reducible rfl); done)); try simp only [List.setIfInBounds_toArray, List.set_cons_zero, List.set_cons_succ]) | (refine wpI_off rfl rfl (wanted_no rfl rfl rfl) ?_; try simp only [List.setIfInBounds_toArray, List.set_cons_zero, List.set_cons_succ]) | (refine wpI_off rfl rfl (wanted_undef rfl rfl rfl) ?_; try simp only [List.setIfInBounds_toArray, List.set_cons_zero, List.set_cons_succ])))
  refine wpI_done ⟨?_, ?_⟩
  · intro y hy
    simp only [List.mem_cons, List.not_mem_nil, or_false] at hy
    subst hy
    exact ⟨_, rfl, rfl, wanted_free rfl, fun w => by go_simp⟩
  clear D
  refine wpI_do rfl (wanted_free rfl) (fun wI hI hSI K hK => ?_); go_simp
  refine (clone_ hs (some ⟨b, 0, none⟩) n c _ HL.out (by omega) ((hr.ext h2).ext (Below.trans (Below.refl _ _).drew hI))).mono ?_
  rintro e w3 ⟨A3, c3, rfl, o3, hb3⟩
  refine hK.out _ _ hb3 ?_
  have hI3 := Below.trans hI (Below.mono hb3 hI.size)
  have bI := hI.size
  have o3 := own_base o3 (show w2.heap.size ≤ _ from bI)
  clear hK K hb3 hI hSI
  refine wpI_do rfl (wanted_free rfl) (fun wI hI hSI K hK => ?_); go_simp
  refine (without_ ws A' n' c' s _ HL'.out (by omega) ((hr'.ext h2).ext (Below.trans (Below.refl _ _).drew (Below.trans hI3 (Below.mono hI hI3.size))))).mono ?_
  rintro e w4 ⟨A4, c4, rfl, o4, hb4⟩
  refine hK.out _ _ hb4 ?_
  have hI4 := Below.trans hI (Below.mono hb4 hI.size)
  have hsep : ∀ b4, A4 = some ⟨b4, 0, none⟩ → ∀ b3, A3 = some ⟨b3, 0, none⟩ → b3 < b4 := fun b4 e4 b3 e3 => by
    have h1 := ((own_ext o3 hI).lt b3 (by rw [e3]; rfl)).2
    have h2 := (o4.lt b4 (by rw [e4]; rfl)).1
    omega
  have o3 := own_ext o3 hI4
  have bI := hI.size
  have o4 := own_base o4 (show w2.heap.size ≤ _ from Nat.le_trans hI3.size bI)
  clear hK K hb4 hI hI3 hI4 hSI
  repeat ((with_reducible show wpI _ _ _ _ _ ((_, true) :: _) _ _); (first | (refine wpI_on (v := ?_) rfl rfl (wanted_free rfl) (fun w' hS => ?_) ?_; rotate_left; (focus (go_simp; (try with_reducible rfl); done)); try simp only [List.setIfInBounds_toArray, List.set_cons_zero, List.set_cons_succ]) | (refine wpI_on (v := ?_) rfl rfl (wanted_yes rfl rfl rfl) (fun w' hS => ?_) ?_; rotate_left; (focus (go_simp; (try with_reducible rfl); done)); try simp only [List.setIfInBounds_toArray, List.set_cons_zero, List.set_cons_succ]) | (refine wpI_off rfl rfl (wanted_no rfl rfl rfl) ?_; try simp only [List.setIfInBounds_toArray, List.set_cons_zero, List.set_cons_succ]) | (refine wpI_off rfl rfl (wanted_undef rfl rfl rfl) ?_; try simp only [List.setIfInBounds_toArray, List.set_cons_zero, List.set_cons_succ])))
  refine wpI_done ?_
  intro g1 wf he hb hlo1 hhi1 hat1
  try simp only [List.setIfInBounds_toArray, List.set_cons_zero, List.set_cons_succ]
  have B5 : Blk wf g1 26 #[.slice none 0 0, .slice none 0 0] := hat1
  have o3 := own_ext o3 he
  have o4 := own_ext o4 he
  clear hat1 he
  have f0 := B5.frozen 0
  have f1 := B5.frozen 1
  have q0 := B5.cell 0
  have q1 := B5.cell 1
  refine wpPerm_do rfl (wanted_free rfl) (fun K hK => ?_); go_simp
  clear f0 f1 q0 q1
  obtain ⟨w5, hw5, B5', hlow, hgr⟩ := Blk.set2 B5 (.slice A3 n c3) (.slice A4 (woL ws s).length c4)
  rw [← hw5]
  clear hw5
  have o3 := own_far o3 B5 hgr
  have o4 := own_far o4 B5 hgr
  clear B5
  have B5 := B5'
  clear B5'
  refine hK.out _ _ (Below.trans hb (hlow _ hlo1)) (wpPerm_done ?_)
  clear hK K
  have h5 : Below w.heap.size w w5 := Below.trans h2 (Below.mono (Below.trans (Below.refl _ _).drew (Below.trans hb (hlow _ hlo1))) h2.size)
  have hx5 : Below w2.heap.size w2 w5 := Below.trans (Below.refl _ _).drew (Below.trans hb (hlow _ hlo1))
  have B2 := B2.ext hx5
  have B3 := B3.ext hx5
  have hg1 : w.heap.size + 2 < g1 := by omega
  clear B1 hx5 hb hlow hgr hlo1 hhi1
  have hw5 : w.heap.size + 2 < w5.heap.size := B3.lt
  have q1 := B5.cell 0
  have q1' := B5.cell 1
  have q2 := B2.three (Below.refl _ _)
  have f3 := B3.frozen 0
  have f3' := B3.frozen 1
  have q3 := B3.cell 0
  have q3' := B3.cell 1
  obtain ⟨b3, c3', e3, hb3, hb3'⟩ := o3.form (by omega)
  injection e3 with e3 e3' e3''
  subst e3
  have F0 := o3.frozenAt (i * 3)
  have F1 := o3.frozenAt (i * 3 + 1)
  have F2 := o3.frozenAt (i * 3 + 2)
  have HA := cellsH_at hs i _ HOO.out
  have Q0 := (o3.cellAt (i * 3) (by omega)).trans HA.1
  have Q1 := (o3.cellAt (i * 3 + 1) (by omega)).trans HA.2.1
  have Q2 := (o3.cellAt (i * 3 + 2) (by omega)).trans HA.2.2
  clear HA
  have hne1 : b3 ≠ g1 := own_ne o3 B5
  have hne2 : b3 ≠ w.heap.size + 1 + 1 := by omega
  go_wp2
  clear q1 q1' q2 f3 f3' q3 q3' F0 F1 F2 Q0 Q1 Q2
  have S0 := o3.stored (i * 3) (.int .i64 s)
  have S1 := S0.1.stored (i * 3 + 1) (.string t)
  have S2 := S1.1.stored (i * 3 + 2) (.bool true)
  have hgr : w5.grownBy (((w5.setCell ⟨b3, i * 3, none⟩ (.int .i64 s)).setCell ⟨b3, i * 3 + 1, none⟩ (.string t)).setCell ⟨b3, i * 3 + 2, none⟩ (.bool true)) (some b3) :=
    grown_two (grown_two S0.2 S1.2) S2.2
  have o5 := S2.1
  have e5 := cellsH_set hs i ⟨s, t, false⟩ ⟨s, t, true⟩ HOO.out
  simp only at e5
  rw [e5] at o5
  clear S0 S1 S2 e5 o3
  generalize ((w5.setCell ⟨b3, i * 3, none⟩ (.int .i64 s)).setCell ⟨b3, i * 3 + 1, none⟩ (.string t)).setCell ⟨b3, i * 3 + 2, none⟩ (.bool true) = w8 at *
  have h8 : Below w.heap.size w w8 := h5.grown hgr h5.size (fun k hk => by injection hk with hk; omega)
  have B3 := B3.grown hgr (by simp; omega)
  have o4 := o4.kept hgr (by
    cases e : (Value.slice A4 (woL ws s).length c4).ownBlock with
    | none => exact .inl rfl
    | some b4 =>
      refine .inr (fun hr => ?_)
      injection hr with hr
      rcases o4.2 with ⟨e4, _⟩ | ⟨g, cap, cur, e4, _⟩
      · rw [e4] at e; cases e
      · injection e4 with e4 _ _
        have := hsep g e4 b3 rfl
        rw [e4] at e
        have e : g = b4 := by simpa [Value.ownBlock] using e
        omega)
  obtain ⟨w9, hw9, B9, hlow9, hgr9⟩ := Blk.set2 B3 (.slice (some ⟨b3, 0, none⟩) n c3') (.slice A4 (woL ws s).length c4)
  rw [← hw9]
  clear hw9
  have q1 := B9.cell 0
  have q1' := B9.cell 1
  have h9 := Below.trans h8 (hlow9 w.heap.size (by omega))
  exact bodyPost_ret (v := .tuple #[.agg #[.slice (some ⟨b3, 0, none⟩) n c3', .slice A4 (woL ws s).length c4], .bool true]) (by simp [results, Try.results11, go_sem, q1, q1']; try rfl) rfl
    ⟨_, rfl, ⟨_, _, _, _, _, _, rfl, by simp [HL.out], hs_grown o5 hgr9 (by omega), rfl, hs_grown o4 hgr9 (by omega)⟩, h9⟩


theorem idx_some {p : Hd → Bool} {l : List Hd} {i : Nat} (h : l.findIdx? p = some i) : ∃ o, l[i]? = some o ∧ p o = true := by
  rw [List.findIdx?_eq_some_iff_getElem] at h
  obtain ⟨hl, hp, _⟩ := h
  exact ⟨l[i], List.getElem?_eq_getElem hl, hp⟩
theorem Ask_ (L : Lk) (h : Hd) (v : Value) (w : World) (hL : LkR w v L) (h1 : L.hs.length ≤ 90000) (h2 : L.ws.length ≤ 90000) :
    Calls Try.prog 11 #[v, .agg h.arr] w (AskP (askL L h) (freeB L h) w) := by
  obtain ⟨A, n, c, A', n', c', rfl, e1, r1, e2, r2⟩ := hL
  obtain ⟨hs, ws⟩ := L
  obtain ⟨s, t, x⟩ := h
  simp only at e1 e2 h1 h2 r1 r2
  simp only [Hd.arr]
  have hn : n ≤ 90000 := by omega
  have hn' : n' ≤ 90000 := by omega
  cases hf : hs.findIdx? (mineB ⟨s, t, x⟩) with
  | none =>
    have hi : idxI (mineB ⟨s, t, x⟩) hs = -1 := by unfold idxI; rw [hf]
    have hb : hasB ⟨hs, ws⟩ ⟨s, t, x⟩ = false := by unfold hasB; simp only [hf]
    cases ha : hs.any (agB ⟨s, t, x⟩) with
    | false =>
      have e3 : freeB ⟨hs, ws⟩ ⟨s, t, x⟩ = true := by unfold freeB; simp [hb, ha]
      have e4 : askL ⟨hs, ws⟩ ⟨s, t, x⟩ = ⟨hs ++ [⟨s, t, x⟩], woL ws s⟩ := by unfold askL; simp [e3, hb, hf]
      rw [e3, e4]
      exact ask_new hs ws s t x A A' n c n' c' w e1 hn r1 e2 hn' r2 hi ha
    | true =>
      have e3 : freeB ⟨hs, ws⟩ ⟨s, t, x⟩ = false := by unfold freeB; simp [hb, ha]
      have e4 : askL ⟨hs, ws⟩ ⟨s, t, x⟩ = ⟨hs, woL ws s ++ [⟨s, t, x⟩]⟩ := by unfold askL; simp [e3]
      rw [e3, e4]
      exact ask_wait hs ws s t x A A' n c n' c' w e1 hn r1 e2 hn' r2 hi ha
  | some i =>
    have hi : idxI (mineB ⟨s, t, x⟩) hs = i := by unfold idxI; rw [hf]
    obtain ⟨⟨os, ot, ox⟩, ho, hm⟩ := idx_some hf
    unfold mineB at hm
    simp only [Bool.and_eq_true, beq_iff_eq, beqBA] at hm
    obtain ⟨rfl, rfl⟩ := hm
    have hb : hasB ⟨hs, ws⟩ ⟨os, ot, x⟩ = (ox || !x) := by unfold hasB; simp only [hf, ho]
    cases ox with
    | true =>
      have e3 : freeB ⟨hs, ws⟩ ⟨os, ot, x⟩ = true := by unfold freeB; simp [hb]
      have e4 : askL ⟨hs, ws⟩ ⟨os, ot, x⟩ = ⟨hs, woL ws os⟩ := by unfold askL; simp [e3, hb]
      rw [e3, e4]
      exact ask_has1 hs ws os ot x i A A' n c n' c' w e1 hn r1 e2 hn' r2 hi ho
    | false =>
      cases x with
      | false =>
        have e3 : freeB ⟨hs, ws⟩ ⟨os, ot, false⟩ = true := by unfold freeB; simp [hb]
        have e4 : askL ⟨hs, ws⟩ ⟨os, ot, false⟩ = ⟨hs, woL ws os⟩ := by unfold askL; simp [e3, hb]
        rw [e3, e4]
        exact ask_has2 hs ws os ot i A A' n c n' c' w e1 hn r1 e2 hn' r2 hi ho
      | true =>
        cases ha : hs.any (agB ⟨os, ot, true⟩) with
        | false =>
          have e3 : freeB ⟨hs, ws⟩ ⟨os, ot, true⟩ = true := by unfold freeB; simp [hb, ha]
          have e4 : askL ⟨hs, ws⟩ ⟨os, ot, true⟩ = ⟨hs.set i ⟨os, ot, true⟩, woL ws os⟩ := by unfold askL; simp [e3, hb, hf]
          rw [e3, e4]
          exact ask_up hs ws os ot i A A' n c n' c' w e1 hn r1 e2 hn' r2 hi ho ha
        | true =>
          have e3 : freeB ⟨hs, ws⟩ ⟨os, ot, true⟩ = false := by unfold freeB; simp [hb, ha]
          have e4 : askL ⟨hs, ws⟩ ⟨os, ot, true⟩ = ⟨hs, woL ws os ++ [⟨os, ot, true⟩]⟩ := by unfold askL; simp [e3]
          rw [e3, e4]
          exact ask_hold hs ws os ot i A A' n c n' c' w e1 hn r1 e2 hn' r2 hi ho ha
end Go.Proofs.Ytlfonenjgchklaa.lk
