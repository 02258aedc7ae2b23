/- Contracts: the document's without, Free. Printed by genref.py. -/
import Derived.Test.YtlfonenjgchklaaSame
import Derived.Test.YtlfonenjgchklaaAp
namespace Go.Proofs.Ytlfonenjgchklaa.lk
open Go.ChangeShapes Go.WideShapes Go.ChangeAt Go.RowKit Go.Proofs.Ytlfonenjgchklaa.lib
set_option linter.unusedVariables false

def OwnR (l : List Hd) (n : Nat) (w : World) (r : Ending) (w' : World) : Prop := ∃ A c, r = .returned (.slice A n c) ∧ w'.ownsRow w.heap.size 46 3 (.slice A n c) n (cellsH l) ∧ Below w.heap.size w w'
set_option maxHeartbeats 2000000 in
theorem rwithout_ (l : List Hd) (A : Option Addr) (n c : Nat) (s : Int) (w : World) (hl : l.length = n) (hn : n ≤ 100000) (hr : Hs w A l) :
    Calls Try.prog 30 #[.slice A n c, .int .i64 s] w (OwnR (woL l s) (woL l s).length w) := by
  have HL := Lib.hid hl
  clear hl
  obtain ⟨i0, hi, hz0, hz1, hz2⟩ := info_parts (P := Try.prog) (e := 46) (z := .agg #[.int .i64 0, .string ⟨#[]⟩, .bool false]) (size := 3) (bytes := 32) (by kernel_rfl)
  go_enter Try.func30, Try.ntmps30
  go_wp2
  go_loopw [5, 6] (fun out i wr => ∃ (k m : Nat), Below w.heap.size w wr ∧ k ≤ n ∧ i = .int .i64 k ∧ m ≤ k ∧ wr.ownsRow w.heap.size 46 3 out m (cellsH (woL (l.take k) s))) (fun _ i _ => n - (intOf i).toNat)
  case atStart => exact ⟨0, 0, Below.refl _ _, Nat.zero_le _, rfl, Nat.le_refl _, World.ownsRow_nil _ _ _ _⟩
  case round =>
    obtain ⟨k, m, hbw, hk, rfl, hm, hown⟩ := hrel
    rcases Nat.lt_or_ge k n with hlt | hge
    · have hd : decide ((k : Int) < (n : Int)) = true := by simp; omega
      have hkn : (k : Int) < (n : Int) := by omega
      obtain ⟨x, hx⟩ : ∃ x, l[k]? = some x := ⟨_, List.getElem?_eq_getElem (by rw [HL.out]; exact hlt)⟩
      obtain ⟨g, rfl, hg⟩ := hr.some_ (by rw [HL.out]; omega)
      have q := (hr.ext hbw).at_ hx
      have HX := Lib.hid (woL_snoc l k x s hx)
      clear hx
      obtain ⟨xs, xt, xx⟩ := x
      obtain ⟨p, hp⟩ : ∃ p, (xs != s) = p := ⟨_, rfl⟩
      have HP := Lib.hid hp
      have HO := Lib.hid hown
      clear hown
      cases p with
      | true =>
        obtain ⟨A', c', rfl⟩ := own_slice HO.out
        go_wp2_with (at_builtin; refine wpList_append_own _ rfl (.tmp 20) (.tmp 25) 38 rfl w.heap.size 46 i0 _ 3 32 Try.underlying38 hi hz0 hz1 hz2 rfl (by decide) _ _ _ rfl (HO.out.alloc _) ⟨wr.heap.size, 0, none⟩ 1 1 [.int .i64 xs, .string xt, .bool xx] rfl rfl ?c1 ?c2 ?c3 ?c4 ?c5 ?_)
        case c2 => exact ⟨rfl, rfl, rfl⟩
        case c3 => unfold maxLen; omega
        case c4 => omega
        case c5 => have := hbw.size; simp; omega
        all_goals try (exact three_at (blk_new_at _ _ _ _ (by simp)))
        intro v' w3 hown3 hgrow3 _
        go_wp2
        go_roundw
        case rel =>
          refine ⟨k + 1, m + 1, ?_, by omega, by go_num, by omega, ?_⟩
          · exact (hbw.alloc hbw.size _).grown hgrow3 (by have := hbw.size; simp; omega) (fun k hk => (HO.out.lt k hk).1)
          · rw [HX.out, if_pos HP.out, cellsH_append, cellsH_one]
            exact hown3
        case measure => simp [intOf]; omega
      | false =>
        go_wp2
        go_roundw
        case rel =>
          refine ⟨k + 1, m, hbw, by omega, by go_num, by omega, ?_⟩
          rw [HX.out, if_neg (by rw [HP.out]; decide)]
          exact HO.out
        case measure => simp [intOf]; omega
    · have hd : decide ((k : Int) < (n : Int)) = false := by simp; omega
      have hkn : k = n := by omega
      subst hkn
      have e : l.take k = l := List.take_of_length_le (by rw [HL.out]; exact Nat.le_refl _)
      rw [e] at hown
      have hml : (woL l s).length = m := by
        have := hown.1
        rw [cellsH_len] at this
        omega
      obtain ⟨A', c', rfl⟩ := own_slice hown
      go_wp2
      go_ret
      refine ⟨A', c', by rw [hml]; rfl, ?_, hbw⟩
      rw [hml]
      exact hown
set_option maxHeartbeats 1000000 in
theorem rFree_ (L : Lk) (s : Int) (v : Value) (w : World) (hL : LkR w v L) (h1 : L.hs.length ≤ 100000) (h2 : L.ws.length ≤ 100000) :
    Calls Try.prog 17 #[v, .int .i64 s] w (LkP (freeL L s) w) := by
  obtain ⟨A, n, c, A', n', c', rfl, e1, r1, e2, r2⟩ := hL
  have hn : n ≤ 100000 := by omega
  have hn' : n' ≤ 100000 := by omega
  have E1 := Lib.hid e1
  have E2 := Lib.hid e2
  clear e1 e2 h1 h2
  go_enter Try.func17, Try.ntmps17
  go_wp2
  obtain ⟨W, hW_, hbW, B1, B2⟩ : ∃ W_, W_ = ((w.alloc (.cells #[.slice A n c, .slice A' n' c'] 40)).alloc (.cells #[.slice none 0 0, .slice none 0 0] 40)) ∧ Below w.heap.size w W_ ∧ Blk W_ (w.heap.size) 40 #[.slice A n c, .slice A' n' c'] ∧ Blk W_ (w.heap.size + 1) 40 #[.slice none 0 0, .slice none 0 0] :=
    ⟨_, rfl, (((Below.refl _ _).alloc (Nat.le_refl _) _).alloc (by simp; try omega) _), ((blk_new_at w (w.heap.size) _ _ (by simp)).alloc _), (blk_new_at (w.alloc (.cells #[.slice A n c, .slice A' n' c'] 40)) (w.heap.size + 1) _ _ (by simp))⟩
  rw [← hW_]
  clear hW_
  have D := fun w' (h : Blk w' w.heap.size 40 #[.slice A n c, .slice A' n' c'] ∧ Below w.heap.size w w') => (show w'.cell? ⟨w.heap.size, 0, none⟩ = some (.slice A n c) ∧ w'.cell? ⟨w.heap.size, 1, none⟩ = some (.slice A' n' c') from ⟨h.1.cell 0, h.1.cell 1⟩)
  refine wp_region_oneS (S := fun w' => Blk w' w.heap.size 40 #[.slice A n c, .slice A' n' c'] ∧ Below w.heap.size w w') [(0, true), (1, true), (2, true), (4, true), (5, true), (6, true), (3, false), (7, false), (8, true), (9, false)] (by kernel_rfl) (by kernel_rfl) (by kernel_rfl) (by decide) ⟨B1, hbW.drew⟩ ?_
  repeat ((with_reducible show wpPerm _ _ _ _ ((_, true) :: _) _ _); (first | (refine wpPerm_on (v := ?_) rfl rfl (wanted_free rfl) (fun w' hS => ?_) ?_; rotate_left; (focus (go_simp; (try with_reducible rfl); done)); try simp only [List.setIfInBounds_toArray, List.set_cons_zero, List.set_cons_succ]) | (refine wpPerm_on (v := ?_) rfl rfl (wanted_yes rfl rfl rfl) (fun w' hS => ?_) ?_; rotate_left; (focus (go_simp; (try with_reducible rfl); done)); try simp only [List.setIfInBounds_toArray, List.set_cons_zero, List.set_cons_succ]) | (refine wpPerm_off rfl rfl (wanted_no rfl rfl rfl) ?_; try simp only [List.setIfInBounds_toArray, List.set_cons_zero, List.set_cons_succ]) | (refine wpPerm_off rfl rfl (wanted_undef rfl rfl rfl) ?_; try simp only [List.setIfInBounds_toArray, List.set_cons_zero, List.set_cons_succ])))
  refine wpPerm_do rfl (wanted_free rfl) (fun K hK => ?_); go_simp
  refine (rwithout_ L.hs A n c s _ E1.out hn (r1.ext (hbW.drew))).mono ?_
  rintro e w1 ⟨A2, c2, rfl, o2, hb2⟩
  have h1 := Below.trans hbW.drew (Below.mono hb2 hbW.size)
  refine hK.out _ _ ⟨B1.ext (Below.trans (Below.refl _ _).drew hb2), h1⟩ ?_
  clear hK K
  refine wpPerm_do rfl (wanted_free rfl) (fun K hK => ?_); go_simp
  refine (rwithout_ L.ws A' n' c' s _ E2.out hn' (r2.ext h1)).mono ?_
  rintro e w2 ⟨A3, c3, rfl, o3, hb3⟩
  have hbT := Below.trans (Below.refl _ _).drew (Below.trans hb2 (Below.mono hb3 hb2.size))
  have h2 := Below.trans h1 (Below.mono hb3 h1.size)
  refine hK.out _ _ ⟨B1.ext hbT, h2⟩ ?_
  clear hK K
  repeat ((with_reducible show wpPerm _ _ _ _ ((_, true) :: _) _ _); (first | (refine wpPerm_on (v := ?_) rfl rfl (wanted_free rfl) (fun w' hS => ?_) ?_; rotate_left; (focus (go_simp; (try with_reducible rfl); done)); try simp only [List.setIfInBounds_toArray, List.set_cons_zero, List.set_cons_succ]) | (refine wpPerm_on (v := ?_) rfl rfl (wanted_yes rfl rfl rfl) (fun w' hS => ?_) ?_; rotate_left; (focus (go_simp; (try with_reducible rfl); done)); try simp only [List.setIfInBounds_toArray, List.set_cons_zero, List.set_cons_succ]) | (refine wpPerm_off rfl rfl (wanted_no rfl rfl rfl) ?_; try simp only [List.setIfInBounds_toArray, List.set_cons_zero, List.set_cons_succ]) | (refine wpPerm_off rfl rfl (wanted_undef rfl rfl rfl) ?_; try simp only [List.setIfInBounds_toArray, List.set_cons_zero, List.set_cons_succ])))
  clear D
  have B2' := B2.ext hbT
  have f20 := B2'.frozen 0
  have f21 := B2'.frozen 1
  have q20 := B2'.cell 0
  have q21 := B2'.cell 1
  refine wpPerm_do rfl (wanted_free rfl) (fun K hK => ?_); go_simp
  clear f20 f21 q20 q21
  obtain ⟨w3, hw3, B3, hlow, hgr⟩ := Blk.set2 B2' (.slice A2 (woL L.hs s).length c2) (.slice A3 (woL L.ws s).length c3)
  rw [← hw3]
  clear hw3
  have h3 := Below.trans h2 (hlow w.heap.size (Nat.le_succ _))
  have B1' := (B1.ext hbT).grown hgr (by simp)
  refine hK.out _ _ ⟨B1', h3⟩ (wpPerm_done ?_)
  clear hK K
  have q30 := B3.cell 0
  have q31 := B3.cell 1
  have R2 := (hs_of_own o2).ext hb3
  have R3 := hs_of_own o3
  have l2 : ∀ b, A2 = some ⟨b, 0, none⟩ → some b ≠ some (w.heap.size + 1) := fun b e => by
    have h1 := (o2.lt b (by rw [e]; rfl)).1
    have h2 := B2.lt
    have h3 : W.heap.size ≤ b := h1
    simp
    omega
  have l3 : ∀ b, A3 = some ⟨b, 0, none⟩ → some b ≠ some (w.heap.size + 1) := fun b e => by
    have h1 := (o3.lt b (by rw [e]; rfl)).1
    have h2 := B2.lt
    have h3 : W.heap.size ≤ w1.heap.size := hb2.size
    simp
    omega
  go_wp2
  exact bodyPost_ret (v := .agg #[.slice A2 (woL L.hs s).length c2, .slice A3 (woL L.ws s).length c3]) (by simp [results, Try.results17, go_sem, q30, q31]; try rfl) rfl
    ⟨_, rfl, ⟨A2, _, c2, A3, _, c3, rfl, rfl, R2.grown hgr l2, rfl, R3.grown hgr l3⟩, h3⟩
end Go.Proofs.Ytlfonenjgchklaa.lk
