/- Contracts: Clone, Words. -/
import Derived.Test.YtfnceamkephpjaaGreatMK5
import Derived.Lib.SliceRun
import Derived.WalkSpells
namespace Go.Proofs.YtfnceamkephpjaaGreat.lx
open Go.ChangeShapes Go.WideShapes Go.ChangeAt Go.RowKit Go.Proofs.YtfnceamkephpjaaGreat.lib
set_option linter.unusedVariables false

def CloneP (n : Nat) (xs : List Value) (w : World) (r : Ending) (w' : World) : Prop := ∃ v, r = .returned v ∧ w'.ownsRow w.heap.size 57 3 v n xs ∧ Below w.heap.size w w'
set_option maxHeartbeats 1000000 in
set_option maxRecDepth 100000 in
theorem clone_ (g n c : Nat) (xs : List Value) (base : Nat) (w : World) (h : w.ownsRow base 57 3 (.slice (some ⟨g, 0, none⟩) n c) n xs) (hn : n ≤ 200000) (h1 : ∀ u ∈ xs, u.oneCell' = true) :
    Calls Tryz.prog 22 #[.slice (some ⟨g, 0, none⟩) n c] w (CloneP n xs w) := by
  have heq := fun W => Lib.run_eql_slice_nil (P := Tryz.prog) W 47 57 (some ⟨g, 0, none⟩) n c 0 0 Tryz.underlying47
  obtain ⟨i0, hi, hz0, hz1, hz2⟩ := info_parts (P := Tryz.prog) (e := 57) (z := .agg #[.int .i64 0, .int .i64 0, .string ⟨#[]⟩]) (size := 3) (bytes := 32) (by kernel_rfl)
  have HW := Lib.hid h
  have H1 := Lib.hid h1
  clear h h1
  go_enter Tryz.func22, Tryz.ntmps22
  go_wp2_with (at_builtin; refine wpList_append_own _ rfl (.tmp 5) (.tmp 6) 47 rfl w.heap.size 57 i0 _ 3 32 Tryz.underlying47 hi hz0 hz1 hz2 rfl (by decide) _ _ _ rfl (World.ownsRow_made w #[] 0 (Nat.le_refl _) (Nat.zero_le _) rfl) ⟨g, 0, none⟩ n c xs rfl HW.out.1 ?c1 ?c2 ?c3 ?c4 ?c5 ?_)
  case c1 => exact (HW.out.alloc _).cells (g := g) rfl
  case c2 => exact H1.out
  case c3 => unfold maxLen; omega
  case c4 => omega
  case c5 => simp
  intro v' w3 hown3 hgrow3 _
  go_wp2
  go_ret
  exact ⟨v', rfl, hown3, ((Below.refl _ _).alloc (Nat.le_refl _) _).grown hgrow3 (by simp) (fun k hk => by simp [Value.ownBlock] at hk; omega)⟩

set_option maxRecDepth 100000 in
theorem stepL_ne {l : List UInt8} {e : Int} (h : stepL l = .err e) : e ≠ 0 := by
  cases l with
  | nil => injection h with h; subst h; decide
  | cons c r =>
    rw [stepL] at h
    by_cases h1 : blankB c = true
    · rw [if_pos h1] at h; cases h
    rw [if_neg h1] at h
    by_cases h2 : letB c = true
    · rw [if_pos h2] at h; cases h
    rw [if_neg h2] at h
    by_cases h3 : digB c = true
    · rw [if_pos h3] at h
      unfold numSt at h
      split at h
      · cases h
      · injection h with h; subst h; decide
    rw [if_neg h3] at h
    by_cases h4 : c = 39
    · rw [if_pos h4] at h
      unfold textSt at h
      split at h
      · cases h
      · injection h with h; subst h; assumption
    rw [if_neg h4] at h
    by_cases h5 : twoB (c :: r) = true
    · rw [if_pos h5] at h; cases h
    rw [if_neg h5] at h
    by_cases h6 : signB c = true
    · rw [if_pos h6] at h; cases h
    · rw [if_neg h6] at h; injection h with h; subst h; decide
def fin (q : Int × List Wd) : Int × List Wd := if q.1 = 0 then (0, q.2 ++ [endW]) else (q.1, [])
def WRel (g base : Nat) (p : Int × List Wd) (wr : World) : Prop :=
  (∃ l ws, At wr g base l ws ∧ fin (lexL l ws) = p ∧ ws.length + l.length ≤ 600) ∨ ∃ l out e, Blk wr g 81 (wk l out 1 e) ∧ e ≠ 0 ∧ p = (e, [])
/-- what Words answers -/
def WordsP (p : Int × List Wd) (w : World) (r : Ending) (w' : World) : Prop := ∃ v, r = .returned (.tuple #[v, .int .i64 p.1]) ∧ w'.ownsRow w.heap.size 57 3 v p.2.length (cellsW p.2) ∧ Below w.heap.size w w'
def meas (g : Nat) (wr : World) : Nat := match wr.cell? ⟨g, 5, none⟩, wr.cell? ⟨g, 0, none⟩ with
  | some (.int _ e), some (.string s) => if e = 0 then s.size + 1 else 0
  | _, _ => 0
set_option maxRecDepth 100000 in
theorem meas_at {wr : World} {g base : Nat} {l : List UInt8} {ws : List Wd} (h : At wr g base l ws) : meas g wr = l.length + 1 := by
  have q := h.six
  unfold meas
  rw [q.1, q.2.1]
  simp [size_mk]
set_option maxRecDepth 100000 in
theorem meas_err {wr : World} {g : Nat} {l : List UInt8} {out : Value} {e : Int} (h : Blk wr g 81 (wk l out 1 e)) (he : e ≠ 0) : meas g wr = 0 := by
  have q0 := h.cell 0
  have q5 := h.cell 5
  unfold wk at q0 q5
  unfold meas
  rw [q0, q5]
  simp [he]
set_option maxRecDepth 100000 in
theorem word_r (g base : Nat) (L : List UInt8) (ws : List Wd) (w : World) (h : At w g base L ws) (hne : L ≠ []) (hl : L.length ≤ 100000) (hw : ws.length ≤ 100000) (hbg : base ≤ g) :
    Calls Tryz.prog 21 #[.pointer (some ⟨g, 0, none⟩)] w (StP g base ws (stepL L) w) := by
  cases L with
  | nil => exact absurd rfl hne
  | cons c r => exact word_ g base c r ws w h hl hw hbg
set_option maxRecDepth 100000 in
theorem one_cells (ws : List Wd) : ∀ u ∈ cellsW ws, u.oneCell' = true := by
  intro u hu
  unfold cellsW at hu
  rw [List.mem_flatMap] at hu
  obtain ⟨x, _, hx⟩ := hu
  simp at hx
  rcases hx with rfl | rfl | rfl <;> rfl
set_option maxRecDepth 100000 in
theorem step_rel {g base : Nat} {p : Int × List Wd} {l : List UInt8} {ws : List Wd} {w' : World} (hf : fin (lexL l ws) = p) (hl : l ≠ []) (hw : ws.length + l.length ≤ 600) (h : StAt g base ws w' (stepL l)) : WRel g base p w' ∧ meas g w' < l.length + 1 := by
  have hs := St.shorter hl
  cases hst : stepL l with
  | skip q =>
    rw [hst] at h hs
    have h : At w' g base q ws := h
    have hs : q.length < l.length := hs
    exact ⟨.inl ⟨q, ws, h, by rw [← hf, lexL_skip ws hst], by omega⟩, by rw [meas_at h]; omega⟩
  | put x q =>
    rw [hst] at h hs
    have h : At w' g base q (ws ++ [x]) := h
    have hs : q.length < l.length := hs
    exact ⟨.inl ⟨q, ws ++ [x], h, by rw [← hf, lexL_put ws hst], by rw [List.length_append]; simp; omega⟩, by rw [meas_at h]; omega⟩
  | err e =>
    rw [hst] at h
    obtain ⟨l', out, h⟩ := h
    have he := stepL_ne hst
    refine ⟨.inr ⟨l', out, e, h, he, ?_⟩, by rw [meas_err h he]; omega⟩
    rw [← hf, lexL_err ws hl hst]
    unfold fin
    rw [if_neg he]

set_option maxRecDepth 100000 in
set_option maxHeartbeats 4000000 in
theorem words_ok (l0 : List UInt8) (w : World) (hl : l0.length ≤ 600) :
    Calls Tryz.prog 11 #[.string ⟨l0.toArray⟩] w (WordsP (fin (lexL l0 [])) w) := by
  obtain ⟨p, hp⟩ : ∃ p, fin (lexL l0 []) = p := ⟨_, rfl⟩
  rw [hp]
  have HP := Lib.hid hp
  clear hp
  have hsz : (ByteArray.mk l0.toArray).size = l0.length := size_mk _
  have hd : decide (600 < (l0.length : Int)) = false := by simp; omega
  go_enter Tryz.func11, Tryz.ntmps11
  go_wp2
  obtain ⟨W, hW_, hbW, B1⟩ : ∃ W_, W_ = (w.alloc (.cells #[.string ⟨l0.toArray⟩, .slice none 0 0, .int .u32 0, .int .i32 0, .int .u32 0, .int .i64 0] 81)) ∧ Below w.heap.size w W_ ∧ Blk W_ (w.heap.size) 81 #[.string ⟨l0.toArray⟩, .slice none 0 0, .int .u32 0, .int .i32 0, .int .u32 0, .int .i64 0] :=
    ⟨_, rfl, ((Below.refl _ _).alloc (Nat.le_refl _) _), (blk_new_at w (w.heap.size) _ _ (by simp))⟩
  rw [← hW_]
  clear hW_
  go_loopw [14] (fun _ wr => Below w.heap.size w wr ∧ WRel w.heap.size w.heap.size p wr) (fun _ wr => meas w.heap.size wr)
  case atStart => exact ⟨hbW, .inl ⟨l0, [], ⟨.slice none 0 0, B1, World.ownsRow_nil _ _ _ _⟩, HP.out, by simpa using hl⟩⟩
  case round =>
    obtain ⟨hb, hR⟩ := hrel
    rcases hR with ⟨l, ws, hA, hf, hlw⟩ | ⟨l, out, e, hE, he, hpe⟩
    · have q := hA.six
      have HF := Lib.hid hf
      clear hf
      have hsl : (ByteArray.mk l.toArray).size = l.length := size_mk _
      have hm := Lib.hid (meas_at hA)
      by_cases hnil : l = []
      · have hd0 : decide (0 < l.length) = false := by rw [hnil]; rfl
        have HNIL := Lib.hid hnil
        clear hnil
        obtain ⟨out, hB, hO⟩ := hA
        unfold wk at hB
        have q1 := hB.cell 1
        obtain ⟨N, hN⟩ : ∃ N, ws.length = N := ⟨_, rfl⟩
        rw [hN] at hO hlw
        obtain ⟨A, c, rfl⟩ := own_slice hO
        have HO := Lib.hid hO
        have HN := Lib.hid hN
        clear hO hN
        obtain ⟨i0, hi, hz0, hz1, hz2⟩ := info_parts (P := Tryz.prog) (e := 57) (z := .agg #[.int .i64 0, .int .i64 0, .string ⟨#[]⟩]) (size := 3) (bytes := 32) (by kernel_rfl)
        go_wp2_with (at_builtin; refine wpList_append_own _ rfl (.tmp 41) (.tmp 43) 47 rfl w.heap.size 57 i0 _ 3 32 Tryz.underlying47 hi hz0 hz1 hz2 rfl (by decide) _ _ _ rfl (HO.out.alloc _) ⟨wr.heap.size, 0, none⟩ 1 1 [.int .i64 0, .int .i64 0, .string ⟨#[]⟩] rfl rfl ?c1 ?c2 ?c3 ?c4 ?c5 ?_)
        case c1 => exact three_at (Blk.new _ _ _)
        case c2 => intro u hu; simp at hu; rcases hu with rfl | rfl | rfl <;> rfl
        case c3 => unfold maxLen; omega
        case c4 => omega
        case c5 => have := hb.size; simp; omega
        intro v' w3 hown3 hgrow3 _
        obtain ⟨gv, cv, rfl, hgv, hgv2⟩ := hown3.form (by omega)
        have hb3 : Below w.heap.size w w3 := (hb.alloc hb.size _).grown hgrow3 (by have := hb.size; simp; omega) (fun k hk => (HO.out.lt k hk).1)
        have HO3 := Lib.hid hown3
        clear hown3 hgrow3 q q1
        go_wp2_with fail
        refine (clone_ gv (N + 1) cv _ w.heap.size _ HO3.out (by omega) ?_).mono ?_
        · have e := cellsW_snoc ws endW
          intro u hu
          exact one_cells (ws ++ [endW]) u (by rw [e]; exact hu)
        rintro r w4 ⟨v, rfl, hO4, hb4⟩
        have HO4 := Lib.hid hO4
        clear hO4
        go_wp2
        go_ret2
        have e : p = (0, ws ++ [endW]) := by rw [← HF.out, HNIL.out, lexL_nil]; rfl
        subst e
        refine ⟨v, rfl, ?_, Below.trans hb3 (Below.mono hb4 hb3.size)⟩
        show World.ownsRow w4 w.heap.size _ 3 v (ws ++ [endW]).length (cellsW (ws ++ [endW]))
        rw [cellsW_snoc, List.length_append, HN.out]
        obtain ⟨h1, h2⟩ := HO4.out
        refine ⟨h1, ?_⟩
        rcases h2 with h2 | ⟨g, cap, cur, e, h3, h4⟩
        · exact .inl h2
        · exact .inr ⟨g, cap, cur, e, Nat.le_trans hb3.size h3, h4⟩
      · have hd0 : decide (0 < l.length) = true := by
          have := List.length_pos_iff.2 hnil
          simpa using this
        have HNIL := Lib.hid hnil
        clear hnil
        go_wp2_with fail
        refine (word_r _ _ l ws _ hA HNIL.out (by omega) (by omega) (Nat.le_refl _)).mono ?_
        rintro e w2 ⟨rfl, hb2, hst⟩
        have hS := Lib.hid (step_rel HF.out HNIL.out hlw hst)
        clear hst
        go_wp2
        go_roundw
        case rel => exact ⟨Below.trans hb hb2, hS.out.1⟩
        case measure => rw [hm.out]; exact hS.out.2
    · subst hpe
      unfold wk at hE
      have q0 := hE.cell 0
      have q5 := hE.cell 5
      have he1 : (e == 0) = false := by simpa using he
      have he2 : (e != 0) = true := by simpa using he
      go_wp2
      have D := fun w' (h : Below wr.heap.size wr.drew w') => (hE.ext (Below.trans (Below.refl _ _).drew h)).cell 5
      refine wp_region_one [(0, true), (1, true), (2, true), (3, true), (4, true), (5, true)] (by kernel_rfl) (by kernel_rfl) (by kernel_rfl) (by decide) ?_
      repeat ((with_reducible show wpPerm _ _ _ _ ((_, true) :: _) _ _); (first | (refine wpPerm_on (v := ?_) rfl rfl (wanted_free rfl) (fun w' hS => ?_) ?_; rotate_left; (focus (go_simp; (try with_reducible rfl); done)); try simp only [List.setIfInBounds_toArray, List.set_cons_zero, List.set_cons_succ]) | (refine wpPerm_on (v := ?_) rfl rfl (wanted_yes rfl rfl rfl) (fun w' hS => ?_) ?_; rotate_left; (focus (go_simp; (try with_reducible rfl); done)); try simp only [List.setIfInBounds_toArray, List.set_cons_zero, List.set_cons_succ]) | (refine wpPerm_off rfl rfl (wanted_no rfl rfl rfl) ?_; try simp only [List.setIfInBounds_toArray, List.set_cons_zero, List.set_cons_succ]) | (refine wpPerm_off rfl rfl (wanted_undef rfl rfl rfl) ?_; try simp only [List.setIfInBounds_toArray, List.set_cons_zero, List.set_cons_succ])))
      refine wpPerm_done ?_
      clear D
      go_wp2
      go_ret2
      exact ⟨.slice none 0 0, rfl, World.ownsRow_nil _ _ _ _, hb.drew⟩
set_option maxRecDepth 100000 in
theorem words_long (l0 : List UInt8) (w : World) (hl : 600 < l0.length) (hl2 : l0.length ≤ maxLen) :
    Calls Tryz.prog 11 #[.string ⟨l0.toArray⟩] w (WordsP (5, []) w) := by
  unfold maxLen at hl2
  have hsz : (ByteArray.mk l0.toArray).size = l0.length := size_mk _
  have hd : decide (600 < (l0.length : Int)) = true := by simp; omega
  go_enter Tryz.func11, Tryz.ntmps11
  go_wp2_with fail
  obtain ⟨W, hW_, hbW, B1⟩ : ∃ W_, W_ = (w.alloc (.cells #[.string ⟨l0.toArray⟩, .slice none 0 0, .int .u32 0, .int .i32 0, .int .u32 0, .int .i64 0] 81)) ∧ Below w.heap.size w W_ ∧ Blk W_ (w.heap.size) 81 #[.string ⟨l0.toArray⟩, .slice none 0 0, .int .u32 0, .int .i32 0, .int .u32 0, .int .i64 0] :=
    ⟨_, rfl, ((Below.refl _ _).alloc (Nat.le_refl _) _), (blk_new_at w (w.heap.size) _ _ (by simp))⟩
  rw [← hW_]
  clear hW_
  refine (fail_ w.heap.size l0 (.slice none 0 0) 5 W B1).mono ?_
  rintro e w1 ⟨rfl, hE, hb1⟩
  have hb := Below.trans hbW (hb1 w.heap.size (Nat.le_refl _))
  unfold wk at hE
  have q0 := hE.cell 0
  have q5 := hE.cell 5
  clear hb1
  go_wp2
  refine wp_loop_rounds 1 ?_
  rw [rounds_succ]
  go_wp2
  have D := fun w' (h : Below w1.heap.size w1.drew w') => (hE.ext (Below.trans (Below.refl _ _).drew h)).cell 5
  refine wp_region_one [(0, true), (1, true), (2, true), (3, true), (4, true), (5, true)] (by kernel_rfl) (by kernel_rfl) (by kernel_rfl) (by decide) ?_
  repeat ((with_reducible show wpPerm _ _ _ _ ((_, true) :: _) _ _); (first | (refine wpPerm_on (v := ?_) rfl rfl (wanted_free rfl) (fun w' hS => ?_) ?_; rotate_left; (focus (go_simp; (try with_reducible rfl); done)); try simp only [List.setIfInBounds_toArray, List.set_cons_zero, List.set_cons_succ]) | (refine wpPerm_on (v := ?_) rfl rfl (wanted_yes rfl rfl rfl) (fun w' hS => ?_) ?_; rotate_left; (focus (go_simp; (try with_reducible rfl); done)); try simp only [List.setIfInBounds_toArray, List.set_cons_zero, List.set_cons_succ]) | (refine wpPerm_off rfl rfl (wanted_no rfl rfl rfl) ?_; try simp only [List.setIfInBounds_toArray, List.set_cons_zero, List.set_cons_succ]) | (refine wpPerm_off rfl rfl (wanted_undef rfl rfl rfl) ?_; try simp only [List.setIfInBounds_toArray, List.set_cons_zero, List.set_cons_succ])))
  refine wpPerm_done ?_
  clear D
  go_wp2
  go_ret2
  exact ⟨.slice none 0 0, rfl, World.ownsRow_nil _ _ _ _, hb.drew⟩
set_option maxRecDepth 100000 in
theorem words_ (s : ByteArray) (w : World) (hl : s.size ≤ maxLen) : Calls Tryz.prog 11 #[.string s] w (WordsP (wordsL s.data.toList) w) := by
  have hz : s.data.toList.length = s.size := by rw [Array.length_toList]; rfl
  have e : s = ⟨s.data.toList.toArray⟩ := ByteArray.ext (Array.toArray_toList).symm
  unfold wordsL
  by_cases h : 600 < s.data.toList.length
  · rw [if_pos h]
    have := words_long s.data.toList w h (by omega)
    rwa [← e] at this
  · rw [if_neg h]
    have := words_ok s.data.toList w (by omega)
    rwa [← e] at this
end Go.Proofs.YtfnceamkephpjaaGreat.lx
