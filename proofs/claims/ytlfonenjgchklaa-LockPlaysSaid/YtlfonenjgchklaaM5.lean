/- Contract: Ask (printed by genask.py). -/
import Derived.Test.YtlfonenjgchklaaM4
import Derived.Deep.AppendLies
namespace Go.Proofs.Ytlfonenjgchklaa.lk
open Go.ChangeShapes Go.WideShapes Go.ChangeAt Go.RowKit Go.Proofs.Ytlfonenjgchklaa.lib
set_option linter.unusedVariables false

def AskP (L : Lk) (b : Bool) (w : World) (r : Ending) (w' : World) : Prop := ∃ v, r = .returned (.tuple #[v, .bool b]) ∧ LkR w' v L ∧ Below w.heap.size w w'
theorem Blk.set1' {w : World} {g : Nat} {t : TypeId} {x y : Value} (h : Blk w g t #[x, y]) (b : Value) : ∃ w', w' = w.setCell ⟨g, 1, none⟩ b ∧ Blk w' g t #[x, b] ∧ (∀ B, B ≤ g → Below B w w') ∧ w.grownBy w' (some g) := by
  refine ⟨_, rfl, ?_, fun B hB => (Below.refl _ _).setCell hB _, ⟨rfl, rfl, rfl, by simp [World.setCell], fun k hk hne => ?_⟩⟩
  · simpa using h.set_ 1 b
  · have hne : k ≠ g := fun e => hne (by rw [e])
    exact Below.heap_setCell _ _ _ _ hne
theorem Blk.set0' {w : World} {g : Nat} {t : TypeId} {x y : Value} (h : Blk w g t #[x, y]) (b : Value) : ∃ w', w' = w.setCell ⟨g, 0, none⟩ b ∧ Blk w' g t #[b, y] ∧ (∀ B, B ≤ g → Below B w w') ∧ w.grownBy w' (some g) := by
  refine ⟨_, rfl, ?_, fun B hB => (Below.refl _ _).setCell hB _, ⟨rfl, rfl, rfl, by simp [World.setCell], fun k hk hne => ?_⟩⟩
  · simpa using h.set_ 0 b
  · have hne : k ≠ g := fun e => hne (by rw [e])
    exact Below.heap_setCell _ _ _ _ hne
theorem hs_grown {w w' : World} {base : Nat} {A : Option Addr} {n c : Nat} {l : List Hd} {row : Nat} (h : w.ownsRow base 30 3 (.slice A n c) n (cellsH l)) (hg : w.grownBy w' (some row)) (hb : row < base) : Hs w' A l :=
  (hs_of_own h).grown hg (fun b e hr => by
    have h1 := (h.lt b (by rw [e]; rfl)).1
    injection hr with hr
    omega)
theorem own_grown {w w' : World} {base : Nat} {v : Value} {n row : Nat} {xs : List Value} (h : w.ownsRow base 30 3 v n xs) (hg : w.grownBy w' (some row)) (hb : row < base) : w'.ownsRow base 30 3 v n xs :=
  h.kept hg (by
    cases e : v.ownBlock with
    | none => exact .inl rfl
    | some b =>
      refine .inr (fun hr => ?_)
      have h1 := (h.lt b e).1
      injection hr with hr
      omega)
theorem own_grown' {w w' : World} {base : Nat} {v : Value} {n row : Nat} {xs : List Value} (h : w.ownsRow base 30 3 v n xs) (hg : w.grownBy w' (some row)) (hb : w.heap.size ≤ row) : w'.ownsRow base 30 3 v n xs :=
  h.kept hg (by
    cases e : v.ownBlock with
    | none => exact .inl rfl
    | some b =>
      refine .inr (fun hr => ?_)
      have h1 := (h.lt b e).2
      injection hr with hr
      omega)
theorem own_far {w w' : World} {base : Nat} {v : Value} {n row : Nat} {xs : List Value} {cs : Array Value} (h : w.ownsRow base 30 3 v n xs) (hB : Blk w row 26 cs) (hg : w.grownBy w' (some row)) : w'.ownsRow base 30 3 v n xs :=
  h.kept hg (by
    rcases h.2 with ⟨rfl, _⟩ | ⟨g, cap, cur, rfl, _, hgg, _⟩
    · exact .inl rfl
    · refine .inr (fun hr => ?_)
      injection hr with hr
      subst hr
      unfold Blk at hB
      simp [hB] at hgg)

set_option maxHeartbeats 4000000 in
set_option maxRecDepth 100000 in
theorem ask_new (hs ws : List Hd) (s : Int) (t : ByteArray) (x : Bool) (A A' : Option Addr) (n c n' c' : Nat) (w : World) (hl : hs.length = n) (hn : n ≤ 90000) (hr : Hs w A hs) (hl' : ws.length = n') (hn' : n' ≤ 90000) (hr' : Hs w A' ws)
    (hi : idxI (mineB ⟨s, t, x⟩) hs = -1) (hf : hs.any (agB ⟨s, t, x⟩) = false) :
    Calls Try.prog 11 #[.agg #[.slice A n c, .slice A' n' c'], .agg #[.int .i64 s, .string t, .bool x]] w (AskP ⟨hs ++ [⟨s, t, x⟩], woL ws s⟩ true w) := by
  have HL := Lib.hid hl
  have HL' := Lib.hid hl'
  clear hl hl'
  have HF := Lib.hid hf
  have HI := Lib.hid hi
  clear hf hi
  go_enter Try.func11, Try.ntmps11
  go_wp2_with fail
  obtain ⟨W, hW_, hbW, B1, B2, B3⟩ : ∃ W_, W_ = (((w.alloc (.cells #[.slice A n c, .slice A' n' c'] 26)).alloc (.cells #[.int .i64 s, .string t, .bool x] 30)).alloc (.cells #[.slice none 0 0, .slice none 0 0] 26)) ∧ Below w.heap.size w W_ ∧ Blk W_ (w.heap.size) 26 #[.slice A n c, .slice A' n' c'] ∧ Blk W_ (w.heap.size + 1) 30 #[.int .i64 s, .string t, .bool x] ∧ Blk W_ (w.heap.size + 1 + 1) 26 #[.slice none 0 0, .slice none 0 0] :=
    ⟨_, rfl, ((((Below.refl _ _).alloc (Nat.le_refl _) _).alloc (by simp; try omega) _).alloc (by simp; try omega) _), (((blk_new_at w (w.heap.size) _ _ (by simp)).alloc _).alloc _), ((blk_new_at (w.alloc (.cells #[.slice A n c, .slice A' n' c'] 26)) (w.heap.size + 1) _ _ (by simp)).alloc _), (blk_new_at ((w.alloc (.cells #[.slice A n c, .slice A' n' c'] 26)).alloc (.cells #[.int .i64 s, .string t, .bool x] 30)) (w.heap.size + 1 + 1) _ _ (by simp))⟩
  rw [← hW_]
  clear hW_
  have q1 := B1.cell 0
  have q1' := B1.cell 1
  have q2 := B2.three (Below.refl _ _)
  go_wp2_with fail
  refine (mine_ ⟨s, t, x⟩ A A' n c n' c' hs _ HL.out (by omega) (hr.ext hbW)).mono ?_
  rintro e w1 ⟨rfl, hb1⟩
  rw [HI.out]
  have h1 := Below.trans hbW (Below.mono hb1 hbW.size)
  have B1 := B1.ext hb1
  have B2 := B2.ext hb1
  have B3 := B3.ext hb1
  clear q1 q1' q2
  have hw1 : w.heap.size + 2 < w1.heap.size := B3.lt
  go_wp2_with fail
  have D := fun w' (h : Below w1.heap.size w1.drew w') => (show w'.cell? ⟨w.heap.size, 0, none⟩ = some (.slice A n c) ∧ w'.cell? ⟨w.heap.size + 1, 0, none⟩ = some (.int .i64 s) ∧ w'.cell? ⟨w.heap.size + 1, 1, none⟩ = some (.string t) ∧ w'.cell? ⟨w.heap.size + 1, 2, none⟩ = some (.bool x) from
    ⟨(B1.ext (Below.trans (Below.refl _ _).drew h)).cell 0, (B2.three (Below.trans (Below.refl _ _).drew h)).1, (B2.three (Below.trans (Below.refl _ _).drew h)).2.1, (B2.three (Below.trans (Below.refl _ _).drew h)).2.2⟩)
  
  refine wp_region_one [(0, true), (1, true), (2, true), (3, true), (4, true), (5, true), (6, true), (7, true), (8, true), (9, true), (10, true), (11, true), (12, true), (13, true), (14, true), (15, true), (16, true), (17, true), (18, true), (19, true)] (by kernel_rfl) (by kernel_rfl) (by kernel_rfl) (by decide) ?_
  repeat ((with_reducible show wpPerm _ _ _ _ ((_, true) :: _) _ _); (first | (refine wpPerm_on (v := ?_) rfl rfl (wanted_free rfl) (fun w' hS => ?_) ?_; rotate_left; (focus (go_simp; (try with_reducible rfl); done)); try simp only [List.setIfInBounds_toArray, List.set_cons_zero, List.set_cons_succ]) | (refine wpPerm_on (v := ?_) rfl rfl (wanted_yes rfl rfl rfl) (fun w' hS => ?_) ?_; rotate_left; (focus (go_simp; (try with_reducible rfl); done)); try simp only [List.setIfInBounds_toArray, List.set_cons_zero, List.set_cons_succ]) | (refine wpPerm_off rfl rfl (wanted_no rfl rfl rfl) ?_; try simp only [List.setIfInBounds_toArray, List.set_cons_zero, List.set_cons_succ]) | (refine wpPerm_off rfl rfl (wanted_undef rfl rfl rfl) ?_; try simp only [List.setIfInBounds_toArray, List.set_cons_zero, List.set_cons_succ])))
  refine wpPerm_done ?_
  clear D
  have h1d : Below w.heap.size w w1.drew := h1.drew
  have B1 := Blk.drew B1
  have B2 := Blk.drew B2
  have B3 := Blk.drew B3
  have q1 := B1.cell 0
  have q2 := B2.three (Below.refl _ _)
  go_wp2_with fail
  refine (containsAg ⟨s, t, x⟩ hs A n c _ HL.out (by omega) (hr.ext h1d)).mono ?_
  rintro e w2 ⟨rfl, hb2⟩
  rw [HF.out]
  have h2 := Below.trans h1d (Below.mono hb2 h1d.size)
  have B1 := B1.ext hb2
  have B2 := B2.ext hb2
  have B3 := B3.ext hb2
  clear q1 q2 hb1 hb2 h1 h1d
  have hw2 : w.heap.size + 2 < w2.heap.size := B3.lt
  go_wp2_with fail
  have D := fun w' (h : Below w2.heap.size w2.drew w') => (show w'.cell? ⟨w.heap.size, 0, none⟩ = some (.slice A n c) ∧ w'.cell? ⟨w.heap.size, 1, none⟩ = some (.slice A' n' c') ∧ w'.cell? ⟨w.heap.size + 1, 0, none⟩ = some (.int .i64 s) ∧ w'.cell? ⟨w.heap.size + 1, 1, none⟩ = some (.string t) ∧ w'.cell? ⟨w.heap.size + 1, 2, none⟩ = some (.bool x) from
    ⟨(B1.ext (Below.trans (Below.refl _ _).drew h)).cell 0, (B1.ext (Below.trans (Below.refl _ _).drew h)).cell 1, (B2.three (Below.trans (Below.refl _ _).drew h)).1, (B2.three (Below.trans (Below.refl _ _).drew h)).2.1, (B2.three (Below.trans (Below.refl _ _).drew h)).2.2⟩)
  refine wp_region_mix1 ⟨9, 9, fun g => .pointer (some ⟨g, 0, none⟩), .cells #[.slice none 0 0, .slice none 0 0] 26⟩
    [(0, true), (1, true), (3, true), (4, true), (5, true), (6, true)] [(2, false), (7, false), (8, true)] [(10, false)] (by kernel_rfl) (by kernel_rfl) ?_
  repeat ((with_reducible show wpI _ _ _ _ _ ((_, true) :: _) _ _); (first | (refine wpI_on (v := ?_) rfl rfl (wanted_free rfl) (fun w' hS => ?_) ?_; rotate_left; (focus (go_simp; (try with_reducible rfl); done)); try simp only [List.setIfInBounds_toArray, List.set_cons_zero, List.set_cons_succ]) | (refine wpI_on (v := ?_) rfl rfl (wanted_yes rfl rfl rfl) (fun w' hS => ?_) ?_; rotate_left; (focus (go_simp; (try with_reducible rfl); done)); try simp only [List.setIfInBounds_toArray, List.set_cons_zero, List.set_cons_succ]) | (refine wpI_off rfl rfl (wanted_no rfl rfl rfl) ?_; try simp only [List.setIfInBounds_toArray, List.set_cons_zero, List.set_cons_succ]) | (refine wpI_off rfl rfl (wanted_undef rfl rfl rfl) ?_; try simp only [List.setIfInBounds_toArray, List.set_cons_zero, List.set_cons_succ])))
  refine wpI_done ⟨?_, ?_⟩
  · intro y hy
    simp only [List.mem_cons, List.not_mem_nil, or_false] at hy
    subst hy
    exact ⟨_, rfl, rfl, wanted_free rfl, fun w => by go_simp⟩
  clear D
  refine wpI_do rfl (wanted_free rfl) (fun wI hI hSI K hK => ?_); go_simp
  refine (clone_ hs A n c _ HL.out (by omega) ((hr.ext h2).ext (Below.trans (Below.refl _ _).drew hI))).mono ?_
  rintro e w3 ⟨A3, c3, rfl, o3, hb3⟩
  refine hK.out _ _ hb3 ?_
  have hI3 := Below.trans hI (Below.mono hb3 hI.size)
  have bI := hI.size
  have o3 := own_base o3 (show w2.heap.size ≤ _ from bI)
  clear hK K hb3 hI hSI
  refine wpI_do rfl (wanted_free rfl) (fun wI hI hSI K hK => ?_); go_simp
  refine (without_ ws A' n' c' s _ HL'.out (by omega) ((hr'.ext h2).ext (Below.trans (Below.refl _ _).drew (Below.trans hI3 (Below.mono hI hI3.size))))).mono ?_
  rintro e w4 ⟨A4, c4, rfl, o4, hb4⟩
  refine hK.out _ _ hb4 ?_
  have hI4 := Below.trans hI (Below.mono hb4 hI.size)
  have hsep : ∀ b4, A4 = some ⟨b4, 0, none⟩ → ∀ b3, A3 = some ⟨b3, 0, none⟩ → b3 < b4 := fun b4 e4 b3 e3 => by
    have h1 := ((own_ext o3 hI).lt b3 (by rw [e3]; rfl)).2
    have h2 := (o4.lt b4 (by rw [e4]; rfl)).1
    omega
  have o3 := own_ext o3 hI4
  have bI := hI.size
  have o4 := own_base o4 (show w2.heap.size ≤ _ from Nat.le_trans hI3.size bI)
  clear hK K hb4 hI hI3 hI4 hSI
  repeat ((with_reducible show wpI _ _ _ _ _ ((_, true) :: _) _ _); (first | (refine wpI_on (v := ?_) rfl rfl (wanted_free rfl) (fun w' hS => ?_) ?_; rotate_left; (focus (go_simp; (try with_reducible rfl); done)); try simp only [List.setIfInBounds_toArray, List.set_cons_zero, List.set_cons_succ]) | (refine wpI_on (v := ?_) rfl rfl (wanted_yes rfl rfl rfl) (fun w' hS => ?_) ?_; rotate_left; (focus (go_simp; (try with_reducible rfl); done)); try simp only [List.setIfInBounds_toArray, List.set_cons_zero, List.set_cons_succ]) | (refine wpI_off rfl rfl (wanted_no rfl rfl rfl) ?_; try simp only [List.setIfInBounds_toArray, List.set_cons_zero, List.set_cons_succ]) | (refine wpI_off rfl rfl (wanted_undef rfl rfl rfl) ?_; try simp only [List.setIfInBounds_toArray, List.set_cons_zero, List.set_cons_succ])))
  refine wpI_done ?_
  intro g1 wf he hb hlo1 hhi1 hat1
  try simp only [List.setIfInBounds_toArray, List.set_cons_zero, List.set_cons_succ]
  have B5 : Blk wf g1 26 #[.slice none 0 0, .slice none 0 0] := hat1
  have o3 := own_ext o3 he
  have o4 := own_ext o4 he
  clear hat1 he
  have f0 := B5.frozen 0
  have f1 := B5.frozen 1
  have q0 := B5.cell 0
  have q1 := B5.cell 1
  refine wpPerm_do rfl (wanted_free rfl) (fun K hK => ?_); go_simp
  clear f0 f1 q0 q1
  obtain ⟨w5, hw5, B5', hlow, hgr⟩ := Blk.set2 B5 (.slice A3 n c3) (.slice A4 (woL ws s).length c4)
  rw [← hw5]
  clear hw5
  have o3 := own_far o3 B5 hgr
  have o4 := own_far o4 B5 hgr
  clear B5
  have B5 := B5'
  clear B5'
  refine hK.out _ _ (Below.trans hb (hlow _ hlo1)) (wpPerm_done ?_)
  clear hK K
  have h5 : Below w.heap.size w w5 := Below.trans h2 (Below.mono (Below.trans (Below.refl _ _).drew (Below.trans hb (hlow _ hlo1))) h2.size)
  have hx5 : Below w2.heap.size w2 w5 := Below.trans (Below.refl _ _).drew (Below.trans hb (hlow _ hlo1))
  have B2 := B2.ext hx5
  have B3 := B3.ext hx5
  have hg1 : w.heap.size + 2 < g1 := by omega
  clear B1 hx5 hb hlow hgr hlo1 hhi1
  have hw5 : w.heap.size + 2 < w5.heap.size := B3.lt
  have q1 := B5.cell 0
  have q2 := B2.three (Below.refl _ _)
  go_wp2_with fail
  clear q1 q2
  obtain ⟨W6, hW_, hb6, C1, C2⟩ : ∃ W_, W_ = ((w5.alloc (.cells #[.int .i64 s, .string t, .bool x] 30)).alloc (.cells #[.slice A3 n c3, .slice (some ⟨w5.heap.size, 0, none⟩) 1 1] 24)) ∧ Below w5.heap.size w5 W_ ∧ Blk W_ (w5.heap.size) 30 #[.int .i64 s, .string t, .bool x] ∧ Blk W_ (w5.heap.size + 1) 24 #[.slice A3 n c3, .slice (some ⟨w5.heap.size, 0, none⟩) 1 1] :=
    ⟨_, rfl, (((Below.refl _ _).alloc (Nat.le_refl _) _).alloc (by simp; try omega) _), ((blk_new_at w5 (w5.heap.size) _ _ (by simp)).alloc _), (blk_new_at (w5.alloc (.cells #[.int .i64 s, .string t, .bool x] 30)) (w5.heap.size + 1) _ _ (by simp))⟩
  rw [← hW_]
  clear hW_
  refine (concat_ hs ⟨s, t, x⟩ A3 (n) c3 w2.heap.size (w5.heap.size + 1) w5.heap.size _ HL.out (by omega) (own_ext o3 hb6) C2 C1).mono ?_
  rintro e w7 ⟨A7, c7, rfl, o7, hb7⟩
  have hb8 := Below.trans hb6 (Below.mono hb7 hb6.size)
  have B5 := B5.ext hb8
  have B3 := B3.ext hb8
  have o3 := own_ext o3 hb8
  have o4 := own_ext o4 hb8
  have h8 := Below.trans h5 (Below.mono hb8 h5.size)
  have hw6 := hb6.size
  clear hb8 hb7 C1 C2
  have q1 := B5.cell 0
  have q1' := B5.cell 1
  have f0 := B5.frozen 0
  have f3 := B3.frozen 0
  have f3' := B3.frozen 1
  have q3 := B3.cell 0
  have q3' := B3.cell 1
  have hne : w.heap.size + 1 + 1 ≠ g1 := by omega
  go_wp2
  clear q1 q1' f0 f3 f3' q3 q3' hne
  obtain ⟨w8, hw8, B8, hlow, hgr⟩ := Blk.set0' B5 (.slice A7 (n + 1) c7)
  rw [← hw8]
  clear hw8
  have o3 := own_far o3 B5 hgr
  have o4 := own_far o4 B5 hgr
  have o7 := own_far o7 B5 hgr
  have B3 := B3.grown hgr (by simp; omega)
  have h8 := Below.trans h8 (hlow w.heap.size (by omega))
  clear hlow hgr
  obtain ⟨w9, hw9, B9, hlow9, hgr9⟩ := Blk.set2 B3 (.slice A7 (n + 1) c7) (.slice A4 (woL ws s).length c4)
  rw [← hw9]
  clear hw9
  have q1 := B9.cell 0
  have q1' := B9.cell 1
  have h9 := Below.trans h8 (hlow9 w.heap.size (by omega))
  exact bodyPost_ret (v := .tuple #[.agg #[.slice A7 (n + 1) c7, .slice A4 (woL ws s).length c4], .bool true]) (by simp [results, Try.results11, go_sem, q1, q1']; try rfl) rfl
    ⟨_, rfl, ⟨_, _, _, _, _, _, rfl, by simp [HL.out], hs_grown o7 hgr9 (by omega), rfl, hs_grown o4 hgr9 (by omega)⟩, h9⟩


set_option maxHeartbeats 4000000 in
set_option maxRecDepth 100000 in
theorem ask_wait (hs ws : List Hd) (s : Int) (t : ByteArray) (x : Bool) (A A' : Option Addr) (n c n' c' : Nat) (w : World) (hl : hs.length = n) (hn : n ≤ 90000) (hr : Hs w A hs) (hl' : ws.length = n') (hn' : n' ≤ 90000) (hr' : Hs w A' ws)
    (hi : idxI (mineB ⟨s, t, x⟩) hs = -1) (hf : hs.any (agB ⟨s, t, x⟩) = true) :
    Calls Try.prog 11 #[.agg #[.slice A n c, .slice A' n' c'], .agg #[.int .i64 s, .string t, .bool x]] w (AskP ⟨hs, woL ws s ++ [⟨s, t, x⟩]⟩ false w) := by
  have HL := Lib.hid hl
  have HL' := Lib.hid hl'
  clear hl hl'
  have HF := Lib.hid hf
  have HI := Lib.hid hi
  clear hf hi
  go_enter Try.func11, Try.ntmps11
  go_wp2_with fail
  obtain ⟨W, hW_, hbW, B1, B2, B3⟩ : ∃ W_, W_ = (((w.alloc (.cells #[.slice A n c, .slice A' n' c'] 26)).alloc (.cells #[.int .i64 s, .string t, .bool x] 30)).alloc (.cells #[.slice none 0 0, .slice none 0 0] 26)) ∧ Below w.heap.size w W_ ∧ Blk W_ (w.heap.size) 26 #[.slice A n c, .slice A' n' c'] ∧ Blk W_ (w.heap.size + 1) 30 #[.int .i64 s, .string t, .bool x] ∧ Blk W_ (w.heap.size + 1 + 1) 26 #[.slice none 0 0, .slice none 0 0] :=
    ⟨_, rfl, ((((Below.refl _ _).alloc (Nat.le_refl _) _).alloc (by simp; try omega) _).alloc (by simp; try omega) _), (((blk_new_at w (w.heap.size) _ _ (by simp)).alloc _).alloc _), ((blk_new_at (w.alloc (.cells #[.slice A n c, .slice A' n' c'] 26)) (w.heap.size + 1) _ _ (by simp)).alloc _), (blk_new_at ((w.alloc (.cells #[.slice A n c, .slice A' n' c'] 26)).alloc (.cells #[.int .i64 s, .string t, .bool x] 30)) (w.heap.size + 1 + 1) _ _ (by simp))⟩
  rw [← hW_]
  clear hW_
  have q1 := B1.cell 0
  have q1' := B1.cell 1
  have q2 := B2.three (Below.refl _ _)
  go_wp2_with fail
  refine (mine_ ⟨s, t, x⟩ A A' n c n' c' hs _ HL.out (by omega) (hr.ext hbW)).mono ?_
  rintro e w1 ⟨rfl, hb1⟩
  rw [HI.out]
  have h1 := Below.trans hbW (Below.mono hb1 hbW.size)
  have B1 := B1.ext hb1
  have B2 := B2.ext hb1
  have B3 := B3.ext hb1
  clear q1 q1' q2
  have hw1 : w.heap.size + 2 < w1.heap.size := B3.lt
  go_wp2_with fail
  have D := fun w' (h : Below w1.heap.size w1.drew w') => (show w'.cell? ⟨w.heap.size, 0, none⟩ = some (.slice A n c) ∧ w'.cell? ⟨w.heap.size + 1, 0, none⟩ = some (.int .i64 s) ∧ w'.cell? ⟨w.heap.size + 1, 1, none⟩ = some (.string t) ∧ w'.cell? ⟨w.heap.size + 1, 2, none⟩ = some (.bool x) from
    ⟨(B1.ext (Below.trans (Below.refl _ _).drew h)).cell 0, (B2.three (Below.trans (Below.refl _ _).drew h)).1, (B2.three (Below.trans (Below.refl _ _).drew h)).2.1, (B2.three (Below.trans (Below.refl _ _).drew h)).2.2⟩)
  
  refine wp_region_one [(0, true), (1, true), (2, true), (3, true), (4, true), (5, true), (6, true), (7, true), (8, true), (9, true), (10, true), (11, true), (12, true), (13, true), (14, true), (15, true), (16, true), (17, true), (18, true), (19, true)] (by kernel_rfl) (by kernel_rfl) (by kernel_rfl) (by decide) ?_
  repeat ((with_reducible show wpPerm _ _ _ _ ((_, true) :: _) _ _); (first | (refine wpPerm_on (v := ?_) rfl rfl (wanted_free rfl) (fun w' hS => ?_) ?_; rotate_left; (focus (go_simp; (try with_reducible rfl); done)); try simp only [List.setIfInBounds_toArray, List.set_cons_zero, List.set_cons_succ]) | (refine wpPerm_on (v := ?_) rfl rfl (wanted_yes rfl rfl rfl) (fun w' hS => ?_) ?_; rotate_left; (focus (go_simp; (try with_reducible rfl); done)); try simp only [List.setIfInBounds_toArray, List.set_cons_zero, List.set_cons_succ]) | (refine wpPerm_off rfl rfl (wanted_no rfl rfl rfl) ?_; try simp only [List.setIfInBounds_toArray, List.set_cons_zero, List.set_cons_succ]) | (refine wpPerm_off rfl rfl (wanted_undef rfl rfl rfl) ?_; try simp only [List.setIfInBounds_toArray, List.set_cons_zero, List.set_cons_succ])))
  refine wpPerm_done ?_
  clear D
  have h1d : Below w.heap.size w w1.drew := h1.drew
  have B1 := Blk.drew B1
  have B2 := Blk.drew B2
  have B3 := Blk.drew B3
  have q1 := B1.cell 0
  have q2 := B2.three (Below.refl _ _)
  go_wp2_with fail
  refine (containsAg ⟨s, t, x⟩ hs A n c _ HL.out (by omega) (hr.ext h1d)).mono ?_
  rintro e w2 ⟨rfl, hb2⟩
  rw [HF.out]
  have h2 := Below.trans h1d (Below.mono hb2 h1d.size)
  have B1 := B1.ext hb2
  have B2 := B2.ext hb2
  have B3 := B3.ext hb2
  clear q1 q2 hb1 hb2 h1 h1d
  have hw2 : w.heap.size + 2 < w2.heap.size := B3.lt
  go_wp2_with fail
  have D := fun w' (h : Below w2.heap.size w2.drew w') => (show w'.cell? ⟨w.heap.size, 0, none⟩ = some (.slice A n c) ∧ w'.cell? ⟨w.heap.size, 1, none⟩ = some (.slice A' n' c') ∧ w'.cell? ⟨w.heap.size + 1, 0, none⟩ = some (.int .i64 s) ∧ w'.cell? ⟨w.heap.size + 1, 1, none⟩ = some (.string t) ∧ w'.cell? ⟨w.heap.size + 1, 2, none⟩ = some (.bool x) from
    ⟨(B1.ext (Below.trans (Below.refl _ _).drew h)).cell 0, (B1.ext (Below.trans (Below.refl _ _).drew h)).cell 1, (B2.three (Below.trans (Below.refl _ _).drew h)).1, (B2.three (Below.trans (Below.refl _ _).drew h)).2.1, (B2.three (Below.trans (Below.refl _ _).drew h)).2.2⟩)
  refine wp_region_mix1 ⟨9, 9, fun g => .pointer (some ⟨g, 0, none⟩), .cells #[.slice none 0 0, .slice none 0 0] 26⟩
    [(0, true), (1, true), (3, true), (4, true), (5, true), (6, true)] [(2, false), (7, false), (8, true)] [(10, false)] (by kernel_rfl) (by kernel_rfl) ?_
  repeat ((with_reducible show wpI _ _ _ _ _ ((_, true) :: _) _ _); (first | (refine wpI_on (v := ?_) rfl rfl (wanted_free rfl) (fun w' hS => ?_) ?_; rotate_left; (focus (go_simp; (try with_reducible rfl); done)); try simp only [List.setIfInBounds_toArray, List.set_cons_zero, List.set_cons_succ]) | (refine wpI_on (v := ?_) rfl rfl (wanted_yes rfl rfl rfl) (fun w' hS => ?_) ?_; rotate_left; (focus (go_simp; (try with_reducible rfl); done)); try simp only [List.setIfInBounds_toArray, List.set_cons_zero, List.set_cons_succ]) | (refine wpI_off rfl rfl (wanted_no rfl rfl rfl) ?_; try simp only [List.setIfInBounds_toArray, List.set_cons_zero, List.set_cons_succ]) | (refine wpI_off rfl rfl (wanted_undef rfl rfl rfl) ?_; try simp only [List.setIfInBounds_toArray, List.set_cons_zero, List.set_cons_succ])))
  refine wpI_done ⟨?_, ?_⟩
  · intro y hy
    simp only [List.mem_cons, List.not_mem_nil, or_false] at hy
    subst hy
    exact ⟨_, rfl, rfl, wanted_free rfl, fun w => by go_simp⟩
  clear D
  refine wpI_do rfl (wanted_free rfl) (fun wI hI hSI K hK => ?_); go_simp
  refine (clone_ hs A n c _ HL.out (by omega) ((hr.ext h2).ext (Below.trans (Below.refl _ _).drew hI))).mono ?_
  rintro e w3 ⟨A3, c3, rfl, o3, hb3⟩
  refine hK.out _ _ hb3 ?_
  have hI3 := Below.trans hI (Below.mono hb3 hI.size)
  have bI := hI.size
  have o3 := own_base o3 (show w2.heap.size ≤ _ from bI)
  clear hK K hb3 hI hSI
  refine wpI_do rfl (wanted_free rfl) (fun wI hI hSI K hK => ?_); go_simp
  refine (without_ ws A' n' c' s _ HL'.out (by omega) ((hr'.ext h2).ext (Below.trans (Below.refl _ _).drew (Below.trans hI3 (Below.mono hI hI3.size))))).mono ?_
  rintro e w4 ⟨A4, c4, rfl, o4, hb4⟩
  refine hK.out _ _ hb4 ?_
  have hI4 := Below.trans hI (Below.mono hb4 hI.size)
  have hsep : ∀ b4, A4 = some ⟨b4, 0, none⟩ → ∀ b3, A3 = some ⟨b3, 0, none⟩ → b3 < b4 := fun b4 e4 b3 e3 => by
    have h1 := ((own_ext o3 hI).lt b3 (by rw [e3]; rfl)).2
    have h2 := (o4.lt b4 (by rw [e4]; rfl)).1
    omega
  have o3 := own_ext o3 hI4
  have bI := hI.size
  have o4 := own_base o4 (show w2.heap.size ≤ _ from Nat.le_trans hI3.size bI)
  clear hK K hb4 hI hI3 hI4 hSI
  repeat ((with_reducible show wpI _ _ _ _ _ ((_, true) :: _) _ _); (first | (refine wpI_on (v := ?_) rfl rfl (wanted_free rfl) (fun w' hS => ?_) ?_; rotate_left; (focus (go_simp; (try with_reducible rfl); done)); try simp only [List.setIfInBounds_toArray, List.set_cons_zero, List.set_cons_succ]) | (refine wpI_on (v := ?_) rfl rfl (wanted_yes rfl rfl rfl) (fun w' hS => ?_) ?_; rotate_left; (focus (go_simp; (try with_reducible rfl); done)); try simp only [List.setIfInBounds_toArray, List.set_cons_zero, List.set_cons_succ]) | (refine wpI_off rfl rfl (wanted_no rfl rfl rfl) ?_; try simp only [List.setIfInBounds_toArray, List.set_cons_zero, List.set_cons_succ]) | (refine wpI_off rfl rfl (wanted_undef rfl rfl rfl) ?_; try simp only [List.setIfInBounds_toArray, List.set_cons_zero, List.set_cons_succ])))
  refine wpI_done ?_
  intro g1 wf he hb hlo1 hhi1 hat1
  try simp only [List.setIfInBounds_toArray, List.set_cons_zero, List.set_cons_succ]
  have B5 : Blk wf g1 26 #[.slice none 0 0, .slice none 0 0] := hat1
  have o3 := own_ext o3 he
  have o4 := own_ext o4 he
  clear hat1 he
  have f0 := B5.frozen 0
  have f1 := B5.frozen 1
  have q0 := B5.cell 0
  have q1 := B5.cell 1
  refine wpPerm_do rfl (wanted_free rfl) (fun K hK => ?_); go_simp
  clear f0 f1 q0 q1
  obtain ⟨w5, hw5, B5', hlow, hgr⟩ := Blk.set2 B5 (.slice A3 n c3) (.slice A4 (woL ws s).length c4)
  rw [← hw5]
  clear hw5
  have o3 := own_far o3 B5 hgr
  have o4 := own_far o4 B5 hgr
  clear B5
  have B5 := B5'
  clear B5'
  refine hK.out _ _ (Below.trans hb (hlow _ hlo1)) (wpPerm_done ?_)
  clear hK K
  have h5 : Below w.heap.size w w5 := Below.trans h2 (Below.mono (Below.trans (Below.refl _ _).drew (Below.trans hb (hlow _ hlo1))) h2.size)
  have hx5 : Below w2.heap.size w2 w5 := Below.trans (Below.refl _ _).drew (Below.trans hb (hlow _ hlo1))
  have B2 := B2.ext hx5
  have B3 := B3.ext hx5
  have hg1 : w.heap.size + 2 < g1 := by omega
  clear B1 hx5 hb hlow hgr hlo1 hhi1
  have hw5 : w.heap.size + 2 < w5.heap.size := B3.lt
  have q1 := B5.cell 1
  have q2 := B2.three (Below.refl _ _)
  go_wp2_with fail
  clear q1 q2
  obtain ⟨W6, hW_, hb6, C1, C2⟩ : ∃ W_, W_ = ((w5.alloc (.cells #[.int .i64 s, .string t, .bool x] 30)).alloc (.cells #[.slice A4 (woL ws s).length c4, .slice (some ⟨w5.heap.size, 0, none⟩) 1 1] 24)) ∧ Below w5.heap.size w5 W_ ∧ Blk W_ (w5.heap.size) 30 #[.int .i64 s, .string t, .bool x] ∧ Blk W_ (w5.heap.size + 1) 24 #[.slice A4 (woL ws s).length c4, .slice (some ⟨w5.heap.size, 0, none⟩) 1 1] :=
    ⟨_, rfl, (((Below.refl _ _).alloc (Nat.le_refl _) _).alloc (by simp; try omega) _), ((blk_new_at w5 (w5.heap.size) _ _ (by simp)).alloc _), (blk_new_at (w5.alloc (.cells #[.int .i64 s, .string t, .bool x] 30)) (w5.heap.size + 1) _ _ (by simp))⟩
  rw [← hW_]
  clear hW_
  refine (concat_ (woL ws s) ⟨s, t, x⟩ A4 ((woL ws s).length) c4 w2.heap.size (w5.heap.size + 1) w5.heap.size _ rfl (by have := woL_len ws s; have := HL.out; have := HL'.out; omega) (own_ext o4 hb6) C2 C1).mono ?_
  rintro e w7 ⟨A7, c7, rfl, o7, hb7⟩
  have hb8 := Below.trans hb6 (Below.mono hb7 hb6.size)
  have B5 := B5.ext hb8
  have B3 := B3.ext hb8
  have o3 := own_ext o3 hb8
  have o4 := own_ext o4 hb8
  have h8 := Below.trans h5 (Below.mono hb8 h5.size)
  have hw6 := hb6.size
  clear hb8 hb7 C1 C2
  have q1 := B5.cell 0
  have q1' := B5.cell 1
  have f0 := B5.frozen 1
  have f3 := B3.frozen 0
  have f3' := B3.frozen 1
  have q3 := B3.cell 0
  have q3' := B3.cell 1
  have hne : w.heap.size + 1 + 1 ≠ g1 := by omega
  go_wp2
  clear q1 q1' f0 f3 f3' q3 q3' hne
  obtain ⟨w8, hw8, B8, hlow, hgr⟩ := Blk.set1' B5 (.slice A7 ((woL ws s).length + 1) c7)
  rw [← hw8]
  clear hw8
  have o3 := own_far o3 B5 hgr
  have o4 := own_far o4 B5 hgr
  have o7 := own_far o7 B5 hgr
  have B3 := B3.grown hgr (by simp; omega)
  have h8 := Below.trans h8 (hlow w.heap.size (by omega))
  clear hlow hgr
  obtain ⟨w9, hw9, B9, hlow9, hgr9⟩ := Blk.set2 B3 (.slice A3 n c3) (.slice A7 ((woL ws s).length + 1) c7)
  rw [← hw9]
  clear hw9
  have q1 := B9.cell 0
  have q1' := B9.cell 1
  have h9 := Below.trans h8 (hlow9 w.heap.size (by omega))
  exact bodyPost_ret (v := .tuple #[.agg #[.slice A3 n c3, .slice A7 ((woL ws s).length + 1) c7], .bool false]) (by simp [results, Try.results11, go_sem, q1, q1']; try rfl) rfl
    ⟨_, rfl, ⟨_, _, _, _, _, _, rfl, HL.out, hs_grown o3 hgr9 (by omega), by simp, hs_grown o7 hgr9 (by omega)⟩, h9⟩


set_option maxHeartbeats 4000000 in
set_option maxRecDepth 100000 in
theorem ask_has1 (hs ws : List Hd) (s : Int) (t : ByteArray) (x : Bool) (i : Nat) (A A' : Option Addr) (n c n' c' : Nat) (w : World) (hl : hs.length = n) (hn : n ≤ 90000) (hr : Hs w A hs) (hl' : ws.length = n') (hn' : n' ≤ 90000) (hr' : Hs w A' ws)
    (hi : idxI (mineB ⟨s, t, x⟩) hs = i) (ho : hs[i]? = some ⟨s, t, true⟩) :
    Calls Try.prog 11 #[.agg #[.slice A n c, .slice A' n' c'], .agg #[.int .i64 s, .string t, .bool x]] w (AskP ⟨hs, woL ws s⟩ true w) := by
  have HL := Lib.hid hl
  have HL' := Lib.hid hl'
  clear hl hl'
  obtain ⟨b, rfl, hbl⟩ := hr.some_ (by have := (List.getElem?_eq_some_iff.1 ho).1; omega)
  have hin : i < n := by
    have := (List.getElem?_eq_some_iff.1 ho).1
    have := HL.out
    omega
  have hdi : decide ((i : Int) < (n : Int)) = true := by simp; omega
  have hdz : decide ((0 : Int) ≤ (i : Int)) = true := by simp
  have HOO := Lib.hid ho
  have HI := Lib.hid hi
  clear ho hi
  go_enter Try.func11, Try.ntmps11
  go_wp2_with fail
  obtain ⟨W, hW_, hbW, B1, B2, B3⟩ : ∃ W_, W_ = (((w.alloc (.cells #[.slice (some ⟨b, 0, none⟩) n c, .slice A' n' c'] 26)).alloc (.cells #[.int .i64 s, .string t, .bool x] 30)).alloc (.cells #[.slice none 0 0, .slice none 0 0] 26)) ∧ Below w.heap.size w W_ ∧ Blk W_ (w.heap.size) 26 #[.slice (some ⟨b, 0, none⟩) n c, .slice A' n' c'] ∧ Blk W_ (w.heap.size + 1) 30 #[.int .i64 s, .string t, .bool x] ∧ Blk W_ (w.heap.size + 1 + 1) 26 #[.slice none 0 0, .slice none 0 0] :=
    ⟨_, rfl, ((((Below.refl _ _).alloc (Nat.le_refl _) _).alloc (by simp; try omega) _).alloc (by simp; try omega) _), (((blk_new_at w (w.heap.size) _ _ (by simp)).alloc _).alloc _), ((blk_new_at (w.alloc (.cells #[.slice (some ⟨b, 0, none⟩) n c, .slice A' n' c'] 26)) (w.heap.size + 1) _ _ (by simp)).alloc _), (blk_new_at ((w.alloc (.cells #[.slice (some ⟨b, 0, none⟩) n c, .slice A' n' c'] 26)).alloc (.cells #[.int .i64 s, .string t, .bool x] 30)) (w.heap.size + 1 + 1) _ _ (by simp))⟩
  rw [← hW_]
  clear hW_
  have q1 := B1.cell 0
  have q1' := B1.cell 1
  have q2 := B2.three (Below.refl _ _)
  go_wp2_with fail
  refine (mine_ ⟨s, t, x⟩ (some ⟨b, 0, none⟩) A' n c n' c' hs _ HL.out (by omega) (hr.ext hbW)).mono ?_
  rintro e w1 ⟨rfl, hb1⟩
  rw [HI.out]
  have h1 := Below.trans hbW (Below.mono hb1 hbW.size)
  have B1 := B1.ext hb1
  have B2 := B2.ext hb1
  have B3 := B3.ext hb1
  clear q1 q1' q2
  have hw1 : w.heap.size + 2 < w1.heap.size := B3.lt
  go_wp2_with fail
  have D := fun w' (h : Below w1.heap.size w1.drew w') => (show w'.cell? ⟨w.heap.size, 0, none⟩ = some (.slice (some ⟨b, 0, none⟩) n c) ∧ w'.cell? ⟨w.heap.size + 1, 0, none⟩ = some (.int .i64 s) ∧ w'.cell? ⟨w.heap.size + 1, 1, none⟩ = some (.string t) ∧ w'.cell? ⟨w.heap.size + 1, 2, none⟩ = some (.bool x) from
    ⟨(B1.ext (Below.trans (Below.refl _ _).drew h)).cell 0, (B2.three (Below.trans (Below.refl _ _).drew h)).1, (B2.three (Below.trans (Below.refl _ _).drew h)).2.1, (B2.three (Below.trans (Below.refl _ _).drew h)).2.2⟩)
  have D2 := fun w' (h : Below w1.heap.size w1.drew w') => (((hr.ext h1).ext (Below.trans (Below.refl _ _).drew h)).at_ HOO.out)
  refine wp_region_one [(0, true), (1, true), (2, true), (3, true), (4, true), (5, true), (6, true), (7, true), (8, true), (9, true), (10, true), (11, true), (12, true), (13, true), (14, true), (15, true), (16, true), (17, true), (18, true), (19, true)] (by kernel_rfl) (by kernel_rfl) (by kernel_rfl) (by decide) ?_
  repeat ((with_reducible show wpPerm _ _ _ _ ((_, true) :: _) _ _); (first | (refine wpPerm_on (v := ?_) rfl rfl (wanted_free rfl) (fun w' hS => ?_) ?_; rotate_left; (focus (go_simp; (try with_reducible rfl); done)); try simp only [List.setIfInBounds_toArray, List.set_cons_zero, List.set_cons_succ]) | (refine wpPerm_on (v := ?_) rfl rfl (wanted_yes rfl rfl rfl) (fun w' hS => ?_) ?_; rotate_left; (focus (go_simp; (try with_reducible rfl); done)); try simp only [List.setIfInBounds_toArray, List.set_cons_zero, List.set_cons_succ]) | (refine wpPerm_off rfl rfl (wanted_no rfl rfl rfl) ?_; try simp only [List.setIfInBounds_toArray, List.set_cons_zero, List.set_cons_succ]) | (refine wpPerm_off rfl rfl (wanted_undef rfl rfl rfl) ?_; try simp only [List.setIfInBounds_toArray, List.set_cons_zero, List.set_cons_succ])))
  refine wpPerm_done ?_
  clear D D2
  have h2 : Below w.heap.size w w1.drew := h1.drew
  have B1 := Blk.drew B1
  have B2 := Blk.drew B2
  have B3 := Blk.drew B3
  generalize w1.drew = w2 at *
  have hw2 : w.heap.size + 2 < w2.heap.size := B3.lt
  go_wp2_with fail
  have D := fun w' (h : Below w2.heap.size w2.drew w') => (show w'.cell? ⟨w.heap.size, 0, none⟩ = some (.slice (some ⟨b, 0, none⟩) n c) ∧ w'.cell? ⟨w.heap.size, 1, none⟩ = some (.slice A' n' c') ∧ w'.cell? ⟨w.heap.size + 1, 0, none⟩ = some (.int .i64 s) ∧ w'.cell? ⟨w.heap.size + 1, 1, none⟩ = some (.string t) ∧ w'.cell? ⟨w.heap.size + 1, 2, none⟩ = some (.bool x) from
    ⟨(B1.ext (Below.trans (Below.refl _ _).drew h)).cell 0, (B1.ext (Below.trans (Below.refl _ _).drew h)).cell 1, (B2.three (Below.trans (Below.refl _ _).drew h)).1, (B2.three (Below.trans (Below.refl _ _).drew h)).2.1, (B2.three (Below.trans (Below.refl _ _).drew h)).2.2⟩)
  refine wp_region_mix1 ⟨9, 9, fun g => .pointer (some ⟨g, 0, none⟩), .cells #[.slice none 0 0, .slice none 0 0] 26⟩
    [(0, true), (1, true), (3, true), (4, true), (5, true), (6, true)] [(2, false), (7, false), (8, true)] [(10, false)] (by kernel_rfl) (by kernel_rfl) ?_
  repeat ((with_reducible show wpI _ _ _ _ _ ((_, true) :: _) _ _); (first | (refine wpI_on (v := ?_) rfl rfl (wanted_free rfl) (fun w' hS => ?_) ?_; rotate_left; (focus (go_simp; (try with_reducible rfl); done)); try simp only [List.setIfInBounds_toArray, List.set_cons_zero, List.set_cons_succ]) | (refine wpI_on (v := ?_) rfl rfl (wanted_yes rfl rfl rfl) (fun w' hS => ?_) ?_; rotate_left; (focus (go_simp; (try with_reducible rfl); done)); try simp only [List.setIfInBounds_toArray, List.set_cons_zero, List.set_cons_succ]) | (refine wpI_off rfl rfl (wanted_no rfl rfl rfl) ?_; try simp only [List.setIfInBounds_toArray, List.set_cons_zero, List.set_cons_succ]) | (refine wpI_off rfl rfl (wanted_undef rfl rfl rfl) ?_; try simp only [List.setIfInBounds_toArray, List.set_cons_zero, List.set_cons_succ])))
  refine wpI_done ⟨?_, ?_⟩
  · intro y hy
    simp only [List.mem_cons, List.not_mem_nil, or_false] at hy
    subst hy
    exact ⟨_, rfl, rfl, wanted_free rfl, fun w => by go_simp⟩
  clear D
  refine wpI_do rfl (wanted_free rfl) (fun wI hI hSI K hK => ?_); go_simp
  refine (clone_ hs (some ⟨b, 0, none⟩) n c _ HL.out (by omega) ((hr.ext h2).ext (Below.trans (Below.refl _ _).drew hI))).mono ?_
  rintro e w3 ⟨A3, c3, rfl, o3, hb3⟩
  refine hK.out _ _ hb3 ?_
  have hI3 := Below.trans hI (Below.mono hb3 hI.size)
  have bI := hI.size
  have o3 := own_base o3 (show w2.heap.size ≤ _ from bI)
  clear hK K hb3 hI hSI
  refine wpI_do rfl (wanted_free rfl) (fun wI hI hSI K hK => ?_); go_simp
  refine (without_ ws A' n' c' s _ HL'.out (by omega) ((hr'.ext h2).ext (Below.trans (Below.refl _ _).drew (Below.trans hI3 (Below.mono hI hI3.size))))).mono ?_
  rintro e w4 ⟨A4, c4, rfl, o4, hb4⟩
  refine hK.out _ _ hb4 ?_
  have hI4 := Below.trans hI (Below.mono hb4 hI.size)
  have hsep : ∀ b4, A4 = some ⟨b4, 0, none⟩ → ∀ b3, A3 = some ⟨b3, 0, none⟩ → b3 < b4 := fun b4 e4 b3 e3 => by
    have h1 := ((own_ext o3 hI).lt b3 (by rw [e3]; rfl)).2
    have h2 := (o4.lt b4 (by rw [e4]; rfl)).1
    omega
  have o3 := own_ext o3 hI4
  have bI := hI.size
  have o4 := own_base o4 (show w2.heap.size ≤ _ from Nat.le_trans hI3.size bI)
  clear hK K hb4 hI hI3 hI4 hSI
  repeat ((with_reducible show wpI _ _ _ _ _ ((_, true) :: _) _ _); (first | (refine wpI_on (v := ?_) rfl rfl (wanted_free rfl) (fun w' hS => ?_) ?_; rotate_left; (focus (go_simp; (try with_reducible rfl); done)); try simp only [List.setIfInBounds_toArray, List.set_cons_zero, List.set_cons_succ]) | (refine wpI_on (v := ?_) rfl rfl (wanted_yes rfl rfl rfl) (fun w' hS => ?_) ?_; rotate_left; (focus (go_simp; (try with_reducible rfl); done)); try simp only [List.setIfInBounds_toArray, List.set_cons_zero, List.set_cons_succ]) | (refine wpI_off rfl rfl (wanted_no rfl rfl rfl) ?_; try simp only [List.setIfInBounds_toArray, List.set_cons_zero, List.set_cons_succ]) | (refine wpI_off rfl rfl (wanted_undef rfl rfl rfl) ?_; try simp only [List.setIfInBounds_toArray, List.set_cons_zero, List.set_cons_succ])))
  refine wpI_done ?_
  intro g1 wf he hb hlo1 hhi1 hat1
  try simp only [List.setIfInBounds_toArray, List.set_cons_zero, List.set_cons_succ]
  have B5 : Blk wf g1 26 #[.slice none 0 0, .slice none 0 0] := hat1
  have o3 := own_ext o3 he
  have o4 := own_ext o4 he
  clear hat1 he
  have f0 := B5.frozen 0
  have f1 := B5.frozen 1
  have q0 := B5.cell 0
  have q1 := B5.cell 1
  refine wpPerm_do rfl (wanted_free rfl) (fun K hK => ?_); go_simp
  clear f0 f1 q0 q1
  obtain ⟨w5, hw5, B5', hlow, hgr⟩ := Blk.set2 B5 (.slice A3 n c3) (.slice A4 (woL ws s).length c4)
  rw [← hw5]
  clear hw5
  have o3 := own_far o3 B5 hgr
  have o4 := own_far o4 B5 hgr
  clear B5
  have B5 := B5'
  clear B5'
  refine hK.out _ _ (Below.trans hb (hlow _ hlo1)) (wpPerm_done ?_)
  clear hK K
  have h5 : Below w.heap.size w w5 := Below.trans h2 (Below.mono (Below.trans (Below.refl _ _).drew (Below.trans hb (hlow _ hlo1))) h2.size)
  have hx5 : Below w2.heap.size w2 w5 := Below.trans (Below.refl _ _).drew (Below.trans hb (hlow _ hlo1))
  have B2 := B2.ext hx5
  have B3 := B3.ext hx5
  have hg1 : w.heap.size + 2 < g1 := by omega
  clear B1 hx5 hb hlow hgr hlo1 hhi1
  have hw5 : w.heap.size + 2 < w5.heap.size := B3.lt
  have q1 := B5.cell 0
  have q1' := B5.cell 1
  have f3 := B3.frozen 0
  have f3' := B3.frozen 1
  have q3 := B3.cell 0
  have q3' := B3.cell 1
  go_wp2
  clear q1 q1' f3 f3' q3 q3'
  obtain ⟨w9, hw9, B9, hlow9, hgr9⟩ := Blk.set2 B3 (.slice A3 n c3) (.slice A4 (woL ws s).length c4)
  rw [← hw9]
  clear hw9
  have q1 := B9.cell 0
  have q1' := B9.cell 1
  have h9 := Below.trans h5 (hlow9 w.heap.size (by omega))
  exact bodyPost_ret (v := .tuple #[.agg #[.slice A3 n c3, .slice A4 (woL ws s).length c4], .bool true]) (by simp [results, Try.results11, go_sem, q1, q1']; try rfl) rfl
    ⟨_, rfl, ⟨_, _, _, _, _, _, rfl, HL.out, hs_grown o3 hgr9 (by omega), rfl, hs_grown o4 hgr9 (by omega)⟩, h9⟩


set_option maxHeartbeats 4000000 in
set_option maxRecDepth 100000 in
theorem ask_has2 (hs ws : List Hd) (s : Int) (t : ByteArray) (i : Nat) (A A' : Option Addr) (n c n' c' : Nat) (w : World) (hl : hs.length = n) (hn : n ≤ 90000) (hr : Hs w A hs) (hl' : ws.length = n') (hn' : n' ≤ 90000) (hr' : Hs w A' ws)
    (hi : idxI (mineB ⟨s, t, false⟩) hs = i) (ho : hs[i]? = some ⟨s, t, false⟩) :
    Calls Try.prog 11 #[.agg #[.slice A n c, .slice A' n' c'], .agg #[.int .i64 s, .string t, .bool false]] w (AskP ⟨hs, woL ws s⟩ true w) := by
  have HL := Lib.hid hl
  have HL' := Lib.hid hl'
  clear hl hl'
  obtain ⟨b, rfl, hbl⟩ := hr.some_ (by have := (List.getElem?_eq_some_iff.1 ho).1; omega)
  have hin : i < n := by
    have := (List.getElem?_eq_some_iff.1 ho).1
    have := HL.out
    omega
  have hdi : decide ((i : Int) < (n : Int)) = true := by simp; omega
  have hdz : decide ((0 : Int) ≤ (i : Int)) = true := by simp
  have HOO := Lib.hid ho
  have HI := Lib.hid hi
  clear ho hi
  go_enter Try.func11, Try.ntmps11
  go_wp2_with fail
  obtain ⟨W, hW_, hbW, B1, B2, B3⟩ : ∃ W_, W_ = (((w.alloc (.cells #[.slice (some ⟨b, 0, none⟩) n c, .slice A' n' c'] 26)).alloc (.cells #[.int .i64 s, .string t, .bool false] 30)).alloc (.cells #[.slice none 0 0, .slice none 0 0] 26)) ∧ Below w.heap.size w W_ ∧ Blk W_ (w.heap.size) 26 #[.slice (some ⟨b, 0, none⟩) n c, .slice A' n' c'] ∧ Blk W_ (w.heap.size + 1) 30 #[.int .i64 s, .string t, .bool false] ∧ Blk W_ (w.heap.size + 1 + 1) 26 #[.slice none 0 0, .slice none 0 0] :=
    ⟨_, rfl, ((((Below.refl _ _).alloc (Nat.le_refl _) _).alloc (by simp; try omega) _).alloc (by simp; try omega) _), (((blk_new_at w (w.heap.size) _ _ (by simp)).alloc _).alloc _), ((blk_new_at (w.alloc (.cells #[.slice (some ⟨b, 0, none⟩) n c, .slice A' n' c'] 26)) (w.heap.size + 1) _ _ (by simp)).alloc _), (blk_new_at ((w.alloc (.cells #[.slice (some ⟨b, 0, none⟩) n c, .slice A' n' c'] 26)).alloc (.cells #[.int .i64 s, .string t, .bool false] 30)) (w.heap.size + 1 + 1) _ _ (by simp))⟩
  rw [← hW_]
  clear hW_
  have q1 := B1.cell 0
  have q1' := B1.cell 1
  have q2 := B2.three (Below.refl _ _)
  go_wp2_with fail
  refine (mine_ ⟨s, t, false⟩ (some ⟨b, 0, none⟩) A' n c n' c' hs _ HL.out (by omega) (hr.ext hbW)).mono ?_
  rintro e w1 ⟨rfl, hb1⟩
  rw [HI.out]
  have h1 := Below.trans hbW (Below.mono hb1 hbW.size)
  have B1 := B1.ext hb1
  have B2 := B2.ext hb1
  have B3 := B3.ext hb1
  clear q1 q1' q2
  have hw1 : w.heap.size + 2 < w1.heap.size := B3.lt
  go_wp2_with fail
  have D := fun w' (h : Below w1.heap.size w1.drew w') => (show w'.cell? ⟨w.heap.size, 0, none⟩ = some (.slice (some ⟨b, 0, none⟩) n c) ∧ w'.cell? ⟨w.heap.size + 1, 0, none⟩ = some (.int .i64 s) ∧ w'.cell? ⟨w.heap.size + 1, 1, none⟩ = some (.string t) ∧ w'.cell? ⟨w.heap.size + 1, 2, none⟩ = some (.bool false) from
    ⟨(B1.ext (Below.trans (Below.refl _ _).drew h)).cell 0, (B2.three (Below.trans (Below.refl _ _).drew h)).1, (B2.three (Below.trans (Below.refl _ _).drew h)).2.1, (B2.three (Below.trans (Below.refl _ _).drew h)).2.2⟩)
  have D2 := fun w' (h : Below w1.heap.size w1.drew w') => (((hr.ext h1).ext (Below.trans (Below.refl _ _).drew h)).at_ HOO.out)
  refine wp_region_one [(0, true), (1, true), (2, true), (3, true), (4, true), (5, true), (6, true), (7, true), (8, true), (9, true), (10, true), (11, true), (12, true), (13, true), (14, true), (15, true), (16, true), (17, true), (18, true), (19, true)] (by kernel_rfl) (by kernel_rfl) (by kernel_rfl) (by decide) ?_
  repeat ((with_reducible show wpPerm _ _ _ _ ((_, true) :: _) _ _); (first | (refine wpPerm_on (v := ?_) rfl rfl (wanted_free rfl) (fun w' hS => ?_) ?_; rotate_left; (focus (go_simp; (try with_reducible rfl); done)); try simp only [List.setIfInBounds_toArray, List.set_cons_zero, List.set_cons_succ]) | (refine wpPerm_on (v := ?_) rfl rfl (wanted_yes rfl rfl rfl) (fun w' hS => ?_) ?_; rotate_left; (focus (go_simp; (try with_reducible rfl); done)); try simp only [List.setIfInBounds_toArray, List.set_cons_zero, List.set_cons_succ]) | (refine wpPerm_off rfl rfl (wanted_no rfl rfl rfl) ?_; try simp only [List.setIfInBounds_toArray, List.set_cons_zero, List.set_cons_succ]) | (refine wpPerm_off rfl rfl (wanted_undef rfl rfl rfl) ?_; try simp only [List.setIfInBounds_toArray, List.set_cons_zero, List.set_cons_succ])))
  refine wpPerm_done ?_
  clear D D2
  have h2 : Below w.heap.size w w1.drew := h1.drew
  have B1 := Blk.drew B1
  have B2 := Blk.drew B2
  have B3 := Blk.drew B3
  generalize w1.drew = w2 at *
  have hw2 : w.heap.size + 2 < w2.heap.size := B3.lt
  go_wp2_with fail
  have D := fun w' (h : Below w2.heap.size w2.drew w') => (show w'.cell? ⟨w.heap.size, 0, none⟩ = some (.slice (some ⟨b, 0, none⟩) n c) ∧ w'.cell? ⟨w.heap.size, 1, none⟩ = some (.slice A' n' c') ∧ w'.cell? ⟨w.heap.size + 1, 0, none⟩ = some (.int .i64 s) ∧ w'.cell? ⟨w.heap.size + 1, 1, none⟩ = some (.string t) ∧ w'.cell? ⟨w.heap.size + 1, 2, none⟩ = some (.bool false) from
    ⟨(B1.ext (Below.trans (Below.refl _ _).drew h)).cell 0, (B1.ext (Below.trans (Below.refl _ _).drew h)).cell 1, (B2.three (Below.trans (Below.refl _ _).drew h)).1, (B2.three (Below.trans (Below.refl _ _).drew h)).2.1, (B2.three (Below.trans (Below.refl _ _).drew h)).2.2⟩)
  refine wp_region_mix1 ⟨9, 9, fun g => .pointer (some ⟨g, 0, none⟩), .cells #[.slice none 0 0, .slice none 0 0] 26⟩
    [(0, true), (1, true), (3, true), (4, true), (5, true), (6, true)] [(2, false), (7, false), (8, true)] [(10, false)] (by kernel_rfl) (by kernel_rfl) ?_
  repeat ((with_reducible show wpI _ _ _ _ _ ((_, true) :: _) _ _); (first | (refine wpI_on (v := ?_) rfl rfl (wanted_free rfl) (fun w' hS => ?_) ?_; rotate_left; (focus (go_simp; (try with_reducible rfl); done)); try simp only [List.setIfInBounds_toArray, List.set_cons_zero, List.set_cons_succ]) | (refine wpI_on (v := ?_) rfl rfl (wanted_yes rfl rfl rfl) (fun w' hS => ?_) ?_; rotate_left; (focus (go_simp; (try with_reducible rfl); done)); try simp only [List.setIfInBounds_toArray, List.set_cons_zero, List.set_cons_succ]) | (refine wpI_off rfl rfl (wanted_no rfl rfl rfl) ?_; try simp only [List.setIfInBounds_toArray, List.set_cons_zero, List.set_cons_succ]) | (refine wpI_off rfl rfl (wanted_undef rfl rfl rfl) ?_; try simp only [List.setIfInBounds_toArray, List.set_cons_zero, List.set_cons_succ])))
  refine wpI_done ⟨?_, ?_⟩
  · intro y hy
    simp only [List.mem_cons, List.not_mem_nil, or_false] at hy
    subst hy
    exact ⟨_, rfl, rfl, wanted_free rfl, fun w => by go_simp⟩
  clear D
  refine wpI_do rfl (wanted_free rfl) (fun wI hI hSI K hK => ?_); go_simp
  refine (clone_ hs (some ⟨b, 0, none⟩) n c _ HL.out (by omega) ((hr.ext h2).ext (Below.trans (Below.refl _ _).drew hI))).mono ?_
  rintro e w3 ⟨A3, c3, rfl, o3, hb3⟩
  refine hK.out _ _ hb3 ?_
  have hI3 := Below.trans hI (Below.mono hb3 hI.size)
  have bI := hI.size
  have o3 := own_base o3 (show w2.heap.size ≤ _ from bI)
  clear hK K hb3 hI hSI
  refine wpI_do rfl (wanted_free rfl) (fun wI hI hSI K hK => ?_); go_simp
  refine (without_ ws A' n' c' s _ HL'.out (by omega) ((hr'.ext h2).ext (Below.trans (Below.refl _ _).drew (Below.trans hI3 (Below.mono hI hI3.size))))).mono ?_
  rintro e w4 ⟨A4, c4, rfl, o4, hb4⟩
  refine hK.out _ _ hb4 ?_
  have hI4 := Below.trans hI (Below.mono hb4 hI.size)
  have hsep : ∀ b4, A4 = some ⟨b4, 0, none⟩ → ∀ b3, A3 = some ⟨b3, 0, none⟩ → b3 < b4 := fun b4 e4 b3 e3 => by
    have h1 := ((own_ext o3 hI).lt b3 (by rw [e3]; rfl)).2
    have h2 := (o4.lt b4 (by rw [e4]; rfl)).1
    omega
  have o3 := own_ext o3 hI4
  have bI := hI.size
  have o4 := own_base o4 (show w2.heap.size ≤ _ from Nat.le_trans hI3.size bI)
  clear hK K hb4 hI hI3 hI4 hSI
  repeat ((with_reducible show wpI _ _ _ _ _ ((_, true) :: _) _ _); (first | (refine wpI_on (v := ?_) rfl rfl (wanted_free rfl) (fun w' hS => ?_) ?_; rotate_left; (focus (go_simp; (try with_reducible rfl); done)); try simp only [List.setIfInBounds_toArray, List.set_cons_zero, List.set_cons_succ]) | (refine wpI_on (v := ?_) rfl rfl (wanted_yes rfl rfl rfl) (fun w' hS => ?_) ?_; rotate_left; (focus (go_simp; (try with_reducible rfl); done)); try simp only [List.setIfInBounds_toArray, List.set_cons_zero, List.set_cons_succ]) | (refine wpI_off rfl rfl (wanted_no rfl rfl rfl) ?_; try simp only [List.setIfInBounds_toArray, List.set_cons_zero, List.set_cons_succ]) | (refine wpI_off rfl rfl (wanted_undef rfl rfl rfl) ?_; try simp only [List.setIfInBounds_toArray, List.set_cons_zero, List.set_cons_succ])))
  refine wpI_done ?_
  intro g1 wf he hb hlo1 hhi1 hat1
  try simp only [List.setIfInBounds_toArray, List.set_cons_zero, List.set_cons_succ]
  have B5 : Blk wf g1 26 #[.slice none 0 0, .slice none 0 0] := hat1
  have o3 := own_ext o3 he
  have o4 := own_ext o4 he
  clear hat1 he
  have f0 := B5.frozen 0
  have f1 := B5.frozen 1
  have q0 := B5.cell 0
  have q1 := B5.cell 1
  refine wpPerm_do rfl (wanted_free rfl) (fun K hK => ?_); go_simp
  clear f0 f1 q0 q1
  obtain ⟨w5, hw5, B5', hlow, hgr⟩ := Blk.set2 B5 (.slice A3 n c3) (.slice A4 (woL ws s).length c4)
  rw [← hw5]
  clear hw5
  have o3 := own_far o3 B5 hgr
  have o4 := own_far o4 B5 hgr
  clear B5
  have B5 := B5'
  clear B5'
  refine hK.out _ _ (Below.trans hb (hlow _ hlo1)) (wpPerm_done ?_)
  clear hK K
  have h5 : Below w.heap.size w w5 := Below.trans h2 (Below.mono (Below.trans (Below.refl _ _).drew (Below.trans hb (hlow _ hlo1))) h2.size)
  have hx5 : Below w2.heap.size w2 w5 := Below.trans (Below.refl _ _).drew (Below.trans hb (hlow _ hlo1))
  have B2 := B2.ext hx5
  have B3 := B3.ext hx5
  have hg1 : w.heap.size + 2 < g1 := by omega
  clear B1 hx5 hb hlow hgr hlo1 hhi1
  have hw5 : w.heap.size + 2 < w5.heap.size := B3.lt
  have q1 := B5.cell 0
  have q1' := B5.cell 1
  have f3 := B3.frozen 0
  have f3' := B3.frozen 1
  have q3 := B3.cell 0
  have q3' := B3.cell 1
  go_wp2
  clear q1 q1' f3 f3' q3 q3'
  obtain ⟨w9, hw9, B9, hlow9, hgr9⟩ := Blk.set2 B3 (.slice A3 n c3) (.slice A4 (woL ws s).length c4)
  rw [← hw9]
  clear hw9
  have q1 := B9.cell 0
  have q1' := B9.cell 1
  have h9 := Below.trans h5 (hlow9 w.heap.size (by omega))
  exact bodyPost_ret (v := .tuple #[.agg #[.slice A3 n c3, .slice A4 (woL ws s).length c4], .bool true]) (by simp [results, Try.results11, go_sem, q1, q1']; try rfl) rfl
    ⟨_, rfl, ⟨_, _, _, _, _, _, rfl, HL.out, hs_grown o3 hgr9 (by omega), rfl, hs_grown o4 hgr9 (by omega)⟩, h9⟩


set_option maxHeartbeats 4000000 in
set_option maxRecDepth 100000 in
theorem ask_hold (hs ws : List Hd) (s : Int) (t : ByteArray) (i : Nat) (A A' : Option Addr) (n c n' c' : Nat) (w : World) (hl : hs.length = n) (hn : n ≤ 90000) (hr : Hs w A hs) (hl' : ws.length = n') (hn' : n' ≤ 90000) (hr' : Hs w A' ws)
    (hi : idxI (mineB ⟨s, t, true⟩) hs = i) (ho : hs[i]? = some ⟨s, t, false⟩) (hf : hs.any (agB ⟨s, t, true⟩) = true) :
    Calls Try.prog 11 #[.agg #[.slice A n c, .slice A' n' c'], .agg #[.int .i64 s, .string t, .bool true]] w (AskP ⟨hs, woL ws s ++ [⟨s, t, true⟩]⟩ false w) := by
  have HL := Lib.hid hl
  have HL' := Lib.hid hl'
  clear hl hl'
  have HF := Lib.hid hf
  clear hf
  obtain ⟨b, rfl, hbl⟩ := hr.some_ (by have := (List.getElem?_eq_some_iff.1 ho).1; omega)
  have hin : i < n := by
    have := (List.getElem?_eq_some_iff.1 ho).1
    have := HL.out
    omega
  have hdi : decide ((i : Int) < (n : Int)) = true := by simp; omega
  have hdz : decide ((0 : Int) ≤ (i : Int)) = true := by simp
  have HOO := Lib.hid ho
  have HI := Lib.hid hi
  clear ho hi
  go_enter Try.func11, Try.ntmps11
  go_wp2_with fail
  obtain ⟨W, hW_, hbW, B1, B2, B3⟩ : ∃ W_, W_ = (((w.alloc (.cells #[.slice (some ⟨b, 0, none⟩) n c, .slice A' n' c'] 26)).alloc (.cells #[.int .i64 s, .string t, .bool true] 30)).alloc (.cells #[.slice none 0 0, .slice none 0 0] 26)) ∧ Below w.heap.size w W_ ∧ Blk W_ (w.heap.size) 26 #[.slice (some ⟨b, 0, none⟩) n c, .slice A' n' c'] ∧ Blk W_ (w.heap.size + 1) 30 #[.int .i64 s, .string t, .bool true] ∧ Blk W_ (w.heap.size + 1 + 1) 26 #[.slice none 0 0, .slice none 0 0] :=
    ⟨_, rfl, ((((Below.refl _ _).alloc (Nat.le_refl _) _).alloc (by simp; try omega) _).alloc (by simp; try omega) _), (((blk_new_at w (w.heap.size) _ _ (by simp)).alloc _).alloc _), ((blk_new_at (w.alloc (.cells #[.slice (some ⟨b, 0, none⟩) n c, .slice A' n' c'] 26)) (w.heap.size + 1) _ _ (by simp)).alloc _), (blk_new_at ((w.alloc (.cells #[.slice (some ⟨b, 0, none⟩) n c, .slice A' n' c'] 26)).alloc (.cells #[.int .i64 s, .string t, .bool true] 30)) (w.heap.size + 1 + 1) _ _ (by simp))⟩
  rw [← hW_]
  clear hW_
  have q1 := B1.cell 0
  have q1' := B1.cell 1
  have q2 := B2.three (Below.refl _ _)
  go_wp2_with fail
  refine (mine_ ⟨s, t, true⟩ (some ⟨b, 0, none⟩) A' n c n' c' hs _ HL.out (by omega) (hr.ext hbW)).mono ?_
  rintro e w1 ⟨rfl, hb1⟩
  rw [HI.out]
  have h1 := Below.trans hbW (Below.mono hb1 hbW.size)
  have B1 := B1.ext hb1
  have B2 := B2.ext hb1
  have B3 := B3.ext hb1
  clear q1 q1' q2
  have hw1 : w.heap.size + 2 < w1.heap.size := B3.lt
  go_wp2_with fail
  have D := fun w' (h : Below w1.heap.size w1.drew w') => (show w'.cell? ⟨w.heap.size, 0, none⟩ = some (.slice (some ⟨b, 0, none⟩) n c) ∧ w'.cell? ⟨w.heap.size + 1, 0, none⟩ = some (.int .i64 s) ∧ w'.cell? ⟨w.heap.size + 1, 1, none⟩ = some (.string t) ∧ w'.cell? ⟨w.heap.size + 1, 2, none⟩ = some (.bool true) from
    ⟨(B1.ext (Below.trans (Below.refl _ _).drew h)).cell 0, (B2.three (Below.trans (Below.refl _ _).drew h)).1, (B2.three (Below.trans (Below.refl _ _).drew h)).2.1, (B2.three (Below.trans (Below.refl _ _).drew h)).2.2⟩)
  have D2 := fun w' (h : Below w1.heap.size w1.drew w') => (((hr.ext h1).ext (Below.trans (Below.refl _ _).drew h)).at_ HOO.out)
  refine wp_region_one [(0, true), (1, true), (2, true), (3, true), (4, true), (5, true), (6, true), (7, true), (8, true), (9, true), (10, true), (11, true), (12, true), (13, true), (14, true), (15, true), (16, true), (17, true), (18, true), (19, true)] (by kernel_rfl) (by kernel_rfl) (by kernel_rfl) (by decide) ?_
  repeat ((with_reducible show wpPerm _ _ _ _ ((_, true) :: _) _ _); (first | (refine wpPerm_on (v := ?_) rfl rfl (wanted_free rfl) (fun w' hS => ?_) ?_; rotate_left; (focus (go_simp; (try with_reducible rfl); done)); try simp only [List.setIfInBounds_toArray, List.set_cons_zero, List.set_cons_succ]) | (refine wpPerm_on (v := ?_) rfl rfl (wanted_yes rfl rfl rfl) (fun w' hS => ?_) ?_; rotate_left; (focus (go_simp; (try with_reducible rfl); done)); try simp only [List.setIfInBounds_toArray, List.set_cons_zero, List.set_cons_succ]) | (refine wpPerm_off rfl rfl (wanted_no rfl rfl rfl) ?_; try simp only [List.setIfInBounds_toArray, List.set_cons_zero, List.set_cons_succ]) | (refine wpPerm_off rfl rfl (wanted_undef rfl rfl rfl) ?_; try simp only [List.setIfInBounds_toArray, List.set_cons_zero, List.set_cons_succ])))
  refine wpPerm_done ?_
  clear D D2
  have h1d : Below w.heap.size w w1.drew := h1.drew
  have B1 := Blk.drew B1
  have B2 := Blk.drew B2
  have B3 := Blk.drew B3
  have q1 := B1.cell 0
  have q2 := B2.three (Below.refl _ _)
  go_wp2_with fail
  refine (containsAg ⟨s, t, true⟩ hs (some ⟨b, 0, none⟩) n c _ HL.out (by omega) (hr.ext h1d)).mono ?_
  rintro e w2 ⟨rfl, hb2⟩
  rw [HF.out]
  have h2 := Below.trans h1d (Below.mono hb2 h1d.size)
  have B1 := B1.ext hb2
  have B2 := B2.ext hb2
  have B3 := B3.ext hb2
  clear q1 q2 hb1 hb2 h1 h1d
  have hw2 : w.heap.size + 2 < w2.heap.size := B3.lt
  go_wp2_with fail
  have D := fun w' (h : Below w2.heap.size w2.drew w') => (show w'.cell? ⟨w.heap.size, 0, none⟩ = some (.slice (some ⟨b, 0, none⟩) n c) ∧ w'.cell? ⟨w.heap.size, 1, none⟩ = some (.slice A' n' c') ∧ w'.cell? ⟨w.heap.size + 1, 0, none⟩ = some (.int .i64 s) ∧ w'.cell? ⟨w.heap.size + 1, 1, none⟩ = some (.string t) ∧ w'.cell? ⟨w.heap.size + 1, 2, none⟩ = some (.bool true) from
    ⟨(B1.ext (Below.trans (Below.refl _ _).drew h)).cell 0, (B1.ext (Below.trans (Below.refl _ _).drew h)).cell 1, (B2.three (Below.trans (Below.refl _ _).drew h)).1, (B2.three (Below.trans (Below.refl _ _).drew h)).2.1, (B2.three (Below.trans (Below.refl _ _).drew h)).2.2⟩)
  refine wp_region_mix1 ⟨9, 9, fun g => .pointer (some ⟨g, 0, none⟩), .cells #[.slice none 0 0, .slice none 0 0] 26⟩
    [(0, true), (1, true), (3, true), (4, true), (5, true), (6, true)] [(2, false), (7, false), (8, true)] [(10, false)] (by kernel_rfl) (by kernel_rfl) ?_
  repeat ((with_reducible show wpI _ _ _ _ _ ((_, true) :: _) _ _); (first | (refine wpI_on (v := ?_) rfl rfl (wanted_free rfl) (fun w' hS => ?_) ?_; rotate_left; (focus (go_simp; (try with_reducible rfl); done)); try simp only [List.setIfInBounds_toArray, List.set_cons_zero, List.set_cons_succ]) | (refine wpI_on (v := ?_) rfl rfl (wanted_yes rfl rfl rfl) (fun w' hS => ?_) ?_; rotate_left; (focus (go_simp; (try with_reducible rfl); done)); try simp only [List.setIfInBounds_toArray, List.set_cons_zero, List.set_cons_succ]) | (refine wpI_off rfl rfl (wanted_no rfl rfl rfl) ?_; try simp only [List.setIfInBounds_toArray, List.set_cons_zero, List.set_cons_succ]) | (refine wpI_off rfl rfl (wanted_undef rfl rfl rfl) ?_; try simp only [List.setIfInBounds_toArray, List.set_cons_zero, List.set_cons_succ])))
  refine wpI_done ⟨?_, ?_⟩
  · intro y hy
    simp only [List.mem_cons, List.not_mem_nil, or_false] at hy
    subst hy
    exact ⟨_, rfl, rfl, wanted_free rfl, fun w => by go_simp⟩
  clear D
  refine wpI_do rfl (wanted_free rfl) (fun wI hI hSI K hK => ?_); go_simp
  refine (clone_ hs (some ⟨b, 0, none⟩) n c _ HL.out (by omega) ((hr.ext h2).ext (Below.trans (Below.refl _ _).drew hI))).mono ?_
  rintro e w3 ⟨A3, c3, rfl, o3, hb3⟩
  refine hK.out _ _ hb3 ?_
  have hI3 := Below.trans hI (Below.mono hb3 hI.size)
  have bI := hI.size
  have o3 := own_base o3 (show w2.heap.size ≤ _ from bI)
  clear hK K hb3 hI hSI
  refine wpI_do rfl (wanted_free rfl) (fun wI hI hSI K hK => ?_); go_simp
  refine (without_ ws A' n' c' s _ HL'.out (by omega) ((hr'.ext h2).ext (Below.trans (Below.refl _ _).drew (Below.trans hI3 (Below.mono hI hI3.size))))).mono ?_
  rintro e w4 ⟨A4, c4, rfl, o4, hb4⟩
  refine hK.out _ _ hb4 ?_
  have hI4 := Below.trans hI (Below.mono hb4 hI.size)
  have hsep : ∀ b4, A4 = some ⟨b4, 0, none⟩ → ∀ b3, A3 = some ⟨b3, 0, none⟩ → b3 < b4 := fun b4 e4 b3 e3 => by
    have h1 := ((own_ext o3 hI).lt b3 (by rw [e3]; rfl)).2
    have h2 := (o4.lt b4 (by rw [e4]; rfl)).1
    omega
  have o3 := own_ext o3 hI4
  have bI := hI.size
  have o4 := own_base o4 (show w2.heap.size ≤ _ from Nat.le_trans hI3.size bI)
  clear hK K hb4 hI hI3 hI4 hSI
  repeat ((with_reducible show wpI _ _ _ _ _ ((_, true) :: _) _ _); (first | (refine wpI_on (v := ?_) rfl rfl (wanted_free rfl) (fun w' hS => ?_) ?_; rotate_left; (focus (go_simp; (try with_reducible rfl); done)); try simp only [List.setIfInBounds_toArray, List.set_cons_zero, List.set_cons_succ]) | (refine wpI_on (v := ?_) rfl rfl (wanted_yes rfl rfl rfl) (fun w' hS => ?_) ?_; rotate_left; (focus (go_simp; (try with_reducible rfl); done)); try simp only [List.setIfInBounds_toArray, List.set_cons_zero, List.set_cons_succ]) | (refine wpI_off rfl rfl (wanted_no rfl rfl rfl) ?_; try simp only [List.setIfInBounds_toArray, List.set_cons_zero, List.set_cons_succ]) | (refine wpI_off rfl rfl (wanted_undef rfl rfl rfl) ?_; try simp only [List.setIfInBounds_toArray, List.set_cons_zero, List.set_cons_succ])))
  refine wpI_done ?_
  intro g1 wf he hb hlo1 hhi1 hat1
  try simp only [List.setIfInBounds_toArray, List.set_cons_zero, List.set_cons_succ]
  have B5 : Blk wf g1 26 #[.slice none 0 0, .slice none 0 0] := hat1
  have o3 := own_ext o3 he
  have o4 := own_ext o4 he
  clear hat1 he
  have f0 := B5.frozen 0
  have f1 := B5.frozen 1
  have q0 := B5.cell 0
  have q1 := B5.cell 1
  refine wpPerm_do rfl (wanted_free rfl) (fun K hK => ?_); go_simp
  clear f0 f1 q0 q1
  obtain ⟨w5, hw5, B5', hlow, hgr⟩ := Blk.set2 B5 (.slice A3 n c3) (.slice A4 (woL ws s).length c4)
  rw [← hw5]
  clear hw5
  have o3 := own_far o3 B5 hgr
  have o4 := own_far o4 B5 hgr
  clear B5
  have B5 := B5'
  clear B5'
  refine hK.out _ _ (Below.trans hb (hlow _ hlo1)) (wpPerm_done ?_)
  clear hK K
  have h5 : Below w.heap.size w w5 := Below.trans h2 (Below.mono (Below.trans (Below.refl _ _).drew (Below.trans hb (hlow _ hlo1))) h2.size)
  have hx5 : Below w2.heap.size w2 w5 := Below.trans (Below.refl _ _).drew (Below.trans hb (hlow _ hlo1))
  have B2 := B2.ext hx5
  have B3 := B3.ext hx5
  have hg1 : w.heap.size + 2 < g1 := by omega
  clear B1 hx5 hb hlow hgr hlo1 hhi1
  have hw5 : w.heap.size + 2 < w5.heap.size := B3.lt
  have q1 := B5.cell 1
  have q2 := B2.three (Below.refl _ _)
  go_wp2_with fail
  clear q1 q2
  obtain ⟨W6, hW_, hb6, C1, C2⟩ : ∃ W_, W_ = ((w5.alloc (.cells #[.int .i64 s, .string t, .bool true] 30)).alloc (.cells #[.slice A4 (woL ws s).length c4, .slice (some ⟨w5.heap.size, 0, none⟩) 1 1] 24)) ∧ Below w5.heap.size w5 W_ ∧ Blk W_ (w5.heap.size) 30 #[.int .i64 s, .string t, .bool true] ∧ Blk W_ (w5.heap.size + 1) 24 #[.slice A4 (woL ws s).length c4, .slice (some ⟨w5.heap.size, 0, none⟩) 1 1] :=
    ⟨_, rfl, (((Below.refl _ _).alloc (Nat.le_refl _) _).alloc (by simp; try omega) _), ((blk_new_at w5 (w5.heap.size) _ _ (by simp)).alloc _), (blk_new_at (w5.alloc (.cells #[.int .i64 s, .string t, .bool true] 30)) (w5.heap.size + 1) _ _ (by simp))⟩
  rw [← hW_]
  clear hW_
  refine (concat_ (woL ws s) ⟨s, t, true⟩ A4 ((woL ws s).length) c4 w2.heap.size (w5.heap.size + 1) w5.heap.size _ rfl (by have := woL_len ws s; have := HL.out; have := HL'.out; omega) (own_ext o4 hb6) C2 C1).mono ?_
  rintro e w7 ⟨A7, c7, rfl, o7, hb7⟩
  have hb8 := Below.trans hb6 (Below.mono hb7 hb6.size)
  have B5 := B5.ext hb8
  have B3 := B3.ext hb8
  have o3 := own_ext o3 hb8
  have o4 := own_ext o4 hb8
  have h8 := Below.trans h5 (Below.mono hb8 h5.size)
  have hw6 := hb6.size
  clear hb8 hb7 C1 C2
  have q1 := B5.cell 0
  have q1' := B5.cell 1
  have f0 := B5.frozen 1
  have f3 := B3.frozen 0
  have f3' := B3.frozen 1
  have q3 := B3.cell 0
  have q3' := B3.cell 1
  have hne : w.heap.size + 1 + 1 ≠ g1 := by omega
  go_wp2
  clear q1 q1' f0 f3 f3' q3 q3' hne
  obtain ⟨w8, hw8, B8, hlow, hgr⟩ := Blk.set1' B5 (.slice A7 ((woL ws s).length + 1) c7)
  rw [← hw8]
  clear hw8
  have o3 := own_far o3 B5 hgr
  have o4 := own_far o4 B5 hgr
  have o7 := own_far o7 B5 hgr
  have B3 := B3.grown hgr (by simp; omega)
  have h8 := Below.trans h8 (hlow w.heap.size (by omega))
  clear hlow hgr
  obtain ⟨w9, hw9, B9, hlow9, hgr9⟩ := Blk.set2 B3 (.slice A3 n c3) (.slice A7 ((woL ws s).length + 1) c7)
  rw [← hw9]
  clear hw9
  have q1 := B9.cell 0
  have q1' := B9.cell 1
  have h9 := Below.trans h8 (hlow9 w.heap.size (by omega))
  exact bodyPost_ret (v := .tuple #[.agg #[.slice A3 n c3, .slice A7 ((woL ws s).length + 1) c7], .bool false]) (by simp [results, Try.results11, go_sem, q1, q1']; try rfl) rfl
    ⟨_, rfl, ⟨_, _, _, _, _, _, rfl, HL.out, hs_grown o3 hgr9 (by omega), by simp, hs_grown o7 hgr9 (by omega)⟩, h9⟩

end Go.Proofs.Ytlfonenjgchklaa.lk
