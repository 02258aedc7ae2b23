/- Contract: ToRef. Printed by genref2.py. -/
import Derived.Test.YtlfonenjgchklaaRf1
import Derived.Test.YtlfonenjgchklaaT
import Derived.Deep.AppendLies
namespace Go.Proofs.Ytlfonenjgchklaa.lk
open Go.ChangeShapes Go.WideShapes Go.ChangeAt Go.RowKit Go.Proofs.Ytlfonenjgchklaa.lib
set_option linter.unusedVariables false

theorem own_ne_r {w : World} {base g n : Nat} {t : TypeId} {v : Value} {xs : List Value} {cs : Array Value} (h : w.ownsRow base 46 3 v n xs) (hB : Blk w g t cs) (ht : 46 ≠ t) : some g ≠ v.ownBlock := by
  rcases h.2 with ⟨rfl, _⟩ | ⟨g', cap, cur, rfl, _, hgg, _⟩
  · simp [Value.ownBlock]
  · intro e
    simp [Value.ownBlock] at e
    subst e
    unfold Blk at hB
    rw [hB] at hgg
    injection hgg with h1
    injection h1 with h2 h3
    exact ht h3.symm
theorem own_far_r {w w' : World} {base : Nat} {v : Value} {n row : Nat} {xs : List Value} {cs : Array Value} (h : w.ownsRow base 46 3 v n xs) (hB : Blk w row 40 cs) (hg : w.grownBy w' (some row)) : w'.ownsRow base 46 3 v n xs :=
  h.kept hg (by
    have := own_ne_r h hB (by decide)
    cases e : v.ownBlock with
    | none => exact .inl rfl
    | some b => exact .inr (fun hr => this (by rw [e, ← hr])))
set_option maxHeartbeats 4000000 in
set_option maxRecDepth 1000000 in
theorem toRef_ (L : Lk) (v : Value) (w : World) (hL : LkR w v L) (h1 : L.hs.length ≤ 100000) (h2 : L.ws.length ≤ 100000) :
    Calls Try.prog 15 #[v] w (LkP L w) := by
  obtain ⟨A, n, c, A', n', c', rfl, e1, r1, e2, r2⟩ := hL
  have hn : n ≤ 100000 := by omega
  have hn' : n' ≤ 100000 := by omega
  have E1 := Lib.hid e1
  have E2 := Lib.hid e2
  clear e1 e2 h1 h2
  go_enter Try.func15, Try.ntmps15
  go_wp2_with fail
  obtain ⟨Wz, hW_, hbz, B1, B2, B8⟩ : ∃ W_, W_ = (((w.alloc (.cells #[.slice A n c, .slice A' n' c'] 26)).alloc (.cells #[.slice none 0 0, .slice none 0 0] 40)).alloc (.cells #[.slice none 0 0, .slice none 0 0] 40)) ∧ Below w.heap.size w W_ ∧ Blk W_ (w.heap.size) 26 #[.slice A n c, .slice A' n' c'] ∧ Blk W_ (w.heap.size + 1) 40 #[.slice none 0 0, .slice none 0 0] ∧ Blk W_ (w.heap.size + 1 + 1) 40 #[.slice none 0 0, .slice none 0 0] :=
    ⟨_, rfl, ((((Below.refl _ _).alloc (Nat.le_refl _) _).alloc (by simp; try omega) _).alloc (by simp; try omega) _), (((blk_new_at w (w.heap.size) _ _ (by simp)).alloc _).alloc _), ((blk_new_at (w.alloc (.cells #[.slice A n c, .slice A' n' c'] 26)) (w.heap.size + 1) _ _ (by simp)).alloc _), (blk_new_at ((w.alloc (.cells #[.slice A n c, .slice A' n' c'] 26)).alloc (.cells #[.slice none 0 0, .slice none 0 0] 40)) (w.heap.size + 1 + 1) _ _ (by simp))⟩
  rw [← hW_]
  clear hW_
  have r1 := r1.ext hbz
  have r2 := r2.ext hbz
  obtain ⟨g1, hg1⟩ : ∃ g1, w.heap.size = g1 := ⟨_, rfl⟩
  obtain ⟨g8, hg8⟩ : ∃ g8, w.heap.size + 1 + 1 = g8 := ⟨_, rfl⟩
  rw [hg8] at B8 ⊢
  have h18 : g1 + 1 < g8 := by omega
  have hw8 : w.heap.size ≤ g1 := by omega
  rw [hg1] at B1 B2 ⊢
  clear hg8 hg1
  go_loopw [4] (fun i wr => ∃ (j n8 : Nat) (out : Value), i = .int .i64 j ∧ j ≤ n ∧ n8 ≤ j ∧ Wz.grownBy wr (some g8) ∧ Blk wr g8 40 #[out, .slice none 0 0] ∧ wr.ownsRow Wz.heap.size 46 3 out n8 (cellsH (L.hs.take j))) (fun i _ => n - (intOf i).toNat)
  case atStart => exact ⟨0, 0, _, rfl, Nat.zero_le _, Nat.le_refl _, ⟨rfl, rfl, rfl, Nat.le_refl _, fun _ _ _ => rfl⟩, B8, World.ownsRow_nil _ _ _ _⟩
  case round =>
    obtain ⟨j, n8, out, rfl, hj, hm, gn, E, own⟩ := hrel
    have C := B1.grown gn (by simp; omega)
    have qc := C.cell 0
    rcases Nat.lt_or_ge j n with hlt | hge
    · have hd : decide ((j : Int) < (n : Int)) = true := by simp; omega
      have hjn : (j : Int) < (n : Int) := by omega
      obtain ⟨x, hx⟩ : ∃ x, L.hs[j]? = some x := ⟨_, List.getElem?_eq_getElem (by rw [E1.out]; exact hlt)⟩
      obtain ⟨hb_, rfl, hbl_⟩ := r1.some_ (by rw [E1.out]; omega)
      have HXS : Hid (L.hs.take (j + 1) = L.hs.take j ++ [x]) := Lib.hid (by rw [List.take_add_one, hx]; rfl)
      have HAT : Hid (∀ w', Wz.grownBy w' (some g8) → w'.cell? ⟨hb_, j * 3, none⟩ = some (.int .i64 x.s) ∧ w'.cell? ⟨hb_, j * 3 + 1, none⟩ = some (.string x.t) ∧ w'.cell? ⟨hb_, j * 3 + 2, none⟩ = some (.bool x.x)) := Lib.hid (fun w' h => by
        have h9 := r1.keep B8 (by intro z; simp) h
        exact h9.at_ hx)
      clear hx
      obtain ⟨xs, xt, xx⟩ := x
      go_wp2_with fail
      clear qc
      obtain ⟨A8, c8, rfl⟩ := own_slice own
      have D := fun w' (h : Wz.grownBy w' (some g8)) => (show w'.cell? ⟨g1, 0, none⟩ = some (.slice (some ⟨hb_, 0, none⟩) n c) ∧ w'.cell? ⟨hb_, j * 3, none⟩ = some (.int .i64 xs) ∧ w'.cell? ⟨hb_, j * 3 + 1, none⟩ = some (.string xt) ∧ w'.cell? ⟨hb_, j * 3 + 2, none⟩ = some (.bool xx) from ⟨(B1.grown h (by simp; omega)).cell 0, HAT.out w' h⟩)
      have gnd : Wz.grownBy wr.drew (some g8) := ⟨gn.os, gn.tape, gn.output, gn.size, gn.block⟩
      refine wp_region_tree (S := fun w' => Wz.grownBy w' (some g8)) (.take 0 (.take 2 (.take 3 (.take 4 (.take 5 (.take 6 (.take 7 (.take 8 (.take 9 (.take 10 (.take 11 (.take 12 (.take 13 (.take 14 (.take 15 (.take 16 (.take 17 (.take 18 (.take 19 (.take 20 (.two 1 21 (.one 21 (.one 22 (.take 23 (.one 24 .nil)))) (.one 1 (.one 22 (.take 23 (.one 24 .nil)))))))))))))))))))))))))
        (by kernel_rfl) (by kernel_rfl) (by kernel_rfl) (by decide) (by intro c a d v w h; cases d <;> exact h) gnd ?_
      repeat ((with_reducible show wpTree _ _ _ _ (.take _ _) _ _); (first | (refine wpTree_on (v := ?_) rfl rfl (wanted_free rfl) (fun w' hS => ?_) ?_; rotate_left; (focus (go_simp; (try with_reducible rfl); done)); try simp only [List.setIfInBounds_toArray, List.set_cons_zero, List.set_cons_succ]) | (refine wpTree_on (v := ?_) rfl rfl (wanted_yes rfl rfl rfl) (fun w' hS => ?_) ?_; rotate_left; (focus (go_simp; (try with_reducible rfl); done)); try simp only [List.setIfInBounds_toArray, List.set_cons_zero, List.set_cons_succ]) | (refine wpTree_off rfl rfl (wanted_no rfl rfl rfl) ?_; try simp only [List.setIfInBounds_toArray, List.set_cons_zero, List.set_cons_succ]) | (refine wpTree_off rfl rfl (wanted_undef rfl rfl rfl) ?_; try simp only [List.setIfInBounds_toArray, List.set_cons_zero, List.set_cons_succ])))
      clear D
      have gnA0 : Wz.grownBy (wr.alloc (.cells #[.int .i64 xs, .string xt, .bool xx] 46)) (some g8) := gn.andThen (World.grownBy_alloc _ _ none) (fun k hk => by cases hk)
      have gnA : Wz.grownBy (wr.alloc (.cells #[.int .i64 xs, .string xt, .bool xx] 46)).drew (some g8) := ⟨gnA0.os, gnA0.tape, gnA0.output, gnA0.size, gnA0.block⟩
      have BA := Blk.drew (E.alloc (.cells #[.int .i64 xs, .string xt, .bool xx] 46))
      have ownA := own_ext (own.alloc (.cells #[.int .i64 xs, .string xt, .bool xx] 46)) (Below.refl _ _).drew
      have X1 : Blk (wr.alloc (.cells #[.int .i64 xs, .string xt, .bool xx] 46)).drew wr.heap.size 46 #[.int .i64 xs, .string xt, .bool xx] := Blk.drew (Blk.new wr _ _)
      refine wpTree_both rfl (wanted_free rfl) rfl (wanted_free rfl) (fun K hK => ?_) (fun K hK => ?_)
      · have q8 := (Blk.drew E).cell 0
        go_simp
        refine hK.out _ _ gnd ?_
        clear hK K q8
        refine wpTree_do rfl (wanted_free rfl) (fun K hK => ?_); go_simp
        refine hK.out _ _ gnA ?_
        clear hK K
        obtain ⟨i0, hi, hz0, hz1, hz2⟩ := info_parts (P := Try.prog) (e := 46) (z := .agg #[.int .i64 0, .string ⟨#[]⟩, .bool false]) (size := 3) (bytes := 32) (by kernel_rfl)
        refine wpTree_do rfl (wanted_free rfl) (fun K hK => ?_)
        refine wp_append_own _ (.tmp 15) (.tmp 35) 38 rfl Wz.heap.size 46 i0 _ 3 32 Try.underlying38 hi hz0 hz1 hz2 rfl (by decide) _ n8 (cellsH (L.hs.take j)) rfl ownA ⟨wr.heap.size, 0, none⟩ 1 1
          [.int .i64 xs, .string xt, .bool xx] rfl rfl (three_at X1) (by intro u hu; simp at hu; rcases hu with rfl | rfl | rfl <;> rfl) (by unfold maxLen; omega) (by omega) gnA.size (fun v' w5 h2 h3 h4 => ?_)
        obtain ⟨gv, cv, rfl, hgv, hgv2⟩ := h2.form (by omega)
        clear h4
        have hlo := fun k hk => (ownA.lt k hk).1
        have D8 := BA.grown h3 (own_ne_r ownA BA (by decide))
        have gn5 : Wz.grownBy w5 (some g8) := gnA.andThen h3 (fun k hk => .inl (hlo k hk))
        refine hK.out _ _ gn5 ?_
        clear hK K
        repeat ((with_reducible show wpTree _ _ _ _ (.take _ _) _ _); (first | (refine wpTree_on (v := ?_) rfl rfl (wanted_free rfl) (fun w' hS => ?_) ?_; rotate_left; (focus (go_simp; (try with_reducible rfl); done)); try simp only [List.setIfInBounds_toArray, List.set_cons_zero, List.set_cons_succ]) | (refine wpTree_on (v := ?_) rfl rfl (wanted_yes rfl rfl rfl) (fun w' hS => ?_) ?_; rotate_left; (focus (go_simp; (try with_reducible rfl); done)); try simp only [List.setIfInBounds_toArray, List.set_cons_zero, List.set_cons_succ]) | (refine wpTree_off rfl rfl (wanted_no rfl rfl rfl) ?_; try simp only [List.setIfInBounds_toArray, List.set_cons_zero, List.set_cons_succ]) | (refine wpTree_off rfl rfl (wanted_undef rfl rfl rfl) ?_; try simp only [List.setIfInBounds_toArray, List.set_cons_zero, List.set_cons_succ])))
        have f0 := D8.frozen 0
        have q0 := D8.cell 0
        refine wpTree_do rfl (wanted_free rfl) (fun K hK => ?_); go_simp
        clear f0 q0
        obtain ⟨w6, hw6, E8, hlow, hgr⟩ := Blk.set0' D8 (.slice (some ⟨gv, 0, none⟩) (n8 + 1) cv)
        rw [← hw6]
        clear hw6
        have gn6 := World.grownBy.trans gn5 hgr
        have own6 := own_far_r h2 D8 hgr
        refine hK.out _ _ gn6 (wpTree_end ?_)
        clear hK K
        go_wp2
        go_roundw
        case rel =>
          refine ⟨j + 1, n8 + 1, _, by go_num, by omega, by omega, gn6, E8, ?_⟩
          rw [HXS.out, cellsH_append, cellsH_one]
          exact own6
        case measure => simp [intOf]; omega
  
      · go_simp
        refine hK.out _ _ gnA ?_
        clear hK K
        have q8 := BA.cell 0
        refine wpTree_do rfl (wanted_free rfl) (fun K hK => ?_); go_simp
        refine hK.out _ _ gnA ?_
        clear hK K q8
        obtain ⟨i0, hi, hz0, hz1, hz2⟩ := info_parts (P := Try.prog) (e := 46) (z := .agg #[.int .i64 0, .string ⟨#[]⟩, .bool false]) (size := 3) (bytes := 32) (by kernel_rfl)
        refine wpTree_do rfl (wanted_free rfl) (fun K hK => ?_)
        refine wp_append_own _ (.tmp 15) (.tmp 35) 38 rfl Wz.heap.size 46 i0 _ 3 32 Try.underlying38 hi hz0 hz1 hz2 rfl (by decide) _ n8 (cellsH (L.hs.take j)) rfl ownA ⟨wr.heap.size, 0, none⟩ 1 1
          [.int .i64 xs, .string xt, .bool xx] rfl rfl (three_at X1) (by intro u hu; simp at hu; rcases hu with rfl | rfl | rfl <;> rfl) (by unfold maxLen; omega) (by omega) gnA.size (fun v' w5 h2 h3 h4 => ?_)
        obtain ⟨gv, cv, rfl, hgv, hgv2⟩ := h2.form (by omega)
        clear h4
        have hlo := fun k hk => (ownA.lt k hk).1
        have D8 := BA.grown h3 (own_ne_r ownA BA (by decide))
        have gn5 : Wz.grownBy w5 (some g8) := gnA.andThen h3 (fun k hk => .inl (hlo k hk))
        refine hK.out _ _ gn5 ?_
        clear hK K
        repeat ((with_reducible show wpTree _ _ _ _ (.take _ _) _ _); (first | (refine wpTree_on (v := ?_) rfl rfl (wanted_free rfl) (fun w' hS => ?_) ?_; rotate_left; (focus (go_simp; (try with_reducible rfl); done)); try simp only [List.setIfInBounds_toArray, List.set_cons_zero, List.set_cons_succ]) | (refine wpTree_on (v := ?_) rfl rfl (wanted_yes rfl rfl rfl) (fun w' hS => ?_) ?_; rotate_left; (focus (go_simp; (try with_reducible rfl); done)); try simp only [List.setIfInBounds_toArray, List.set_cons_zero, List.set_cons_succ]) | (refine wpTree_off rfl rfl (wanted_no rfl rfl rfl) ?_; try simp only [List.setIfInBounds_toArray, List.set_cons_zero, List.set_cons_succ]) | (refine wpTree_off rfl rfl (wanted_undef rfl rfl rfl) ?_; try simp only [List.setIfInBounds_toArray, List.set_cons_zero, List.set_cons_succ])))
        have f0 := D8.frozen 0
        have q0 := D8.cell 0
        refine wpTree_do rfl (wanted_free rfl) (fun K hK => ?_); go_simp
        clear f0 q0
        obtain ⟨w6, hw6, E8, hlow, hgr⟩ := Blk.set0' D8 (.slice (some ⟨gv, 0, none⟩) (n8 + 1) cv)
        rw [← hw6]
        clear hw6
        have gn6 := World.grownBy.trans gn5 hgr
        have own6 := own_far_r h2 D8 hgr
        refine hK.out _ _ gn6 (wpTree_end ?_)
        clear hK K
        go_wp2
        go_roundw
        case rel =>
          refine ⟨j + 1, n8 + 1, _, by go_num, by omega, by omega, gn6, E8, ?_⟩
          rw [HXS.out, cellsH_append, cellsH_one]
          exact own6
        case measure => simp [intOf]; omega
  
    · have hd : decide ((j : Int) < (n : Int)) = false := by simp; omega
      have hjn : j = n := by omega
      have htk : L.hs.take j = L.hs := List.take_of_length_le (by rw [E1.out, hjn]; exact Nat.le_refl _)
      rw [htk] at own
      clear htk hjn
      obtain ⟨A8, c8, rfl⟩ := own_slice own
      go_wp2_with fail
      have hdf : decide (j < n) = false := by simp; omega
      rw [hdf]
      clear hdf
      have HsH := hs_of_own own
      have hmH : L.hs.length = n8 := by
        have := own.1
        rw [cellsH_len] at this
        omega
      have HMH := Lib.hid hmH
      have B1n := C
      have B2n := B2.grown gn (by simp; omega)
      have r2n := r2.keep B8 (by intro z; simp) gn
      have hbn : Below w.heap.size w wr := hbz.grown gn hbz.size (fun k hk => by injection hk with hk; omega)
      have E8 := E
      obtain ⟨Wy, hWy⟩ : ∃ Wy, wr = Wy := ⟨_, rfl⟩
      rw [hWy] at B1n B2n r2n hbn E8 HsH ⊢
      clear hmH hd qc B1 B2 r1 r2 hbz own gn C B8 E hWy hge hj
      have B1 := B1n
      have B2 := B2n
      have r2 := r2n
      have B8 := E8
      have hbz := hbn
      clear B1n B2n r2n E8 hbn
      go_loopw [5] (fun i wr => ∃ (j m : Nat) (out : Value), i = .int .i64 j ∧ j ≤ n' ∧ m ≤ j ∧ Wy.grownBy wr (some g8) ∧ Blk wr g8 40 #[.slice A8 n8 c8, out] ∧ wr.ownsRow Wy.heap.size 46 3 out m (cellsH (L.ws.take j))) (fun i _ => n' - (intOf i).toNat)
      case atStart => exact ⟨0, 0, _, rfl, Nat.zero_le _, Nat.le_refl _, ⟨rfl, rfl, rfl, Nat.le_refl _, fun _ _ _ => rfl⟩, B8, World.ownsRow_nil _ _ _ _⟩
      case round =>
        obtain ⟨j, m, out, rfl, hj, hm, gn, E, own⟩ := hrel
        have C := B1.grown gn (by simp; omega)
        have qc := C.cell 1
        rcases Nat.lt_or_ge j n' with hlt | hge
        · have hd : decide ((j : Int) < (n' : Int)) = true := by simp; omega
          have hjn : (j : Int) < (n' : Int) := by omega
          obtain ⟨x, hx⟩ : ∃ x, L.ws[j]? = some x := ⟨_, List.getElem?_eq_getElem (by rw [E2.out]; exact hlt)⟩
          obtain ⟨hb_, rfl, hbl_⟩ := r2.some_ (by rw [E2.out]; omega)
          have HXS : Hid (L.ws.take (j + 1) = L.ws.take j ++ [x]) := Lib.hid (by rw [List.take_add_one, hx]; rfl)
          have HAT : Hid (∀ w', Wy.grownBy w' (some g8) → w'.cell? ⟨hb_, j * 3, none⟩ = some (.int .i64 x.s) ∧ w'.cell? ⟨hb_, j * 3 + 1, none⟩ = some (.string x.t) ∧ w'.cell? ⟨hb_, j * 3 + 2, none⟩ = some (.bool x.x)) := Lib.hid (fun w' h => by
            have h9 := r2.keep B8 (by intro z; simp) h
            exact h9.at_ hx)
          clear hx
          obtain ⟨xs, xt, xx⟩ := x
          go_wp2_with fail
          clear qc
          obtain ⟨AO, cO, rfl⟩ := own_slice own
          have D := fun w' (h : Wy.grownBy w' (some g8)) => (show w'.cell? ⟨g1, 1, none⟩ = some (.slice (some ⟨hb_, 0, none⟩) n' c') ∧ w'.cell? ⟨hb_, j * 3, none⟩ = some (.int .i64 xs) ∧ w'.cell? ⟨hb_, j * 3 + 1, none⟩ = some (.string xt) ∧ w'.cell? ⟨hb_, j * 3 + 2, none⟩ = some (.bool xx) from ⟨(B1.grown h (by simp; omega)).cell 1, HAT.out w' h⟩)
          have gnd : Wy.grownBy wr.drew (some g8) := ⟨gn.os, gn.tape, gn.output, gn.size, gn.block⟩
          refine wp_region_tree (S := fun w' => Wy.grownBy w' (some g8)) (.take 0 (.take 2 (.take 3 (.take 4 (.take 5 (.take 6 (.take 7 (.take 8 (.take 9 (.take 10 (.take 11 (.take 12 (.take 13 (.take 14 (.take 15 (.take 16 (.take 17 (.take 18 (.take 19 (.take 20 (.two 1 21 (.one 21 (.one 22 (.take 23 (.one 24 .nil)))) (.one 1 (.one 22 (.take 23 (.one 24 .nil)))))))))))))))))))))))))
            (by kernel_rfl) (by kernel_rfl) (by kernel_rfl) (by decide) (by intro c a d v w h; cases d <;> exact h) gnd ?_
          repeat ((with_reducible show wpTree _ _ _ _ (.take _ _) _ _); (first | (refine wpTree_on (v := ?_) rfl rfl (wanted_free rfl) (fun w' hS => ?_) ?_; rotate_left; (focus (go_simp; (try with_reducible rfl); done)); try simp only [List.setIfInBounds_toArray, List.set_cons_zero, List.set_cons_succ]) | (refine wpTree_on (v := ?_) rfl rfl (wanted_yes rfl rfl rfl) (fun w' hS => ?_) ?_; rotate_left; (focus (go_simp; (try with_reducible rfl); done)); try simp only [List.setIfInBounds_toArray, List.set_cons_zero, List.set_cons_succ]) | (refine wpTree_off rfl rfl (wanted_no rfl rfl rfl) ?_; try simp only [List.setIfInBounds_toArray, List.set_cons_zero, List.set_cons_succ]) | (refine wpTree_off rfl rfl (wanted_undef rfl rfl rfl) ?_; try simp only [List.setIfInBounds_toArray, List.set_cons_zero, List.set_cons_succ])))
          clear D
          have gnA0 : Wy.grownBy (wr.alloc (.cells #[.int .i64 xs, .string xt, .bool xx] 46)) (some g8) := gn.andThen (World.grownBy_alloc _ _ none) (fun k hk => by cases hk)
          have gnA : Wy.grownBy (wr.alloc (.cells #[.int .i64 xs, .string xt, .bool xx] 46)).drew (some g8) := ⟨gnA0.os, gnA0.tape, gnA0.output, gnA0.size, gnA0.block⟩
          have BA := Blk.drew (E.alloc (.cells #[.int .i64 xs, .string xt, .bool xx] 46))
          have ownA := own_ext (own.alloc (.cells #[.int .i64 xs, .string xt, .bool xx] 46)) (Below.refl _ _).drew
          have X1 : Blk (wr.alloc (.cells #[.int .i64 xs, .string xt, .bool xx] 46)).drew wr.heap.size 46 #[.int .i64 xs, .string xt, .bool xx] := Blk.drew (Blk.new wr _ _)
          refine wpTree_both rfl (wanted_free rfl) rfl (wanted_free rfl) (fun K hK => ?_) (fun K hK => ?_)
          · have q8 := (Blk.drew E).cell 1
            go_simp
            refine hK.out _ _ gnd ?_
            clear hK K q8
            refine wpTree_do rfl (wanted_free rfl) (fun K hK => ?_); go_simp
            refine hK.out _ _ gnA ?_
            clear hK K
            obtain ⟨i0, hi, hz0, hz1, hz2⟩ := info_parts (P := Try.prog) (e := 46) (z := .agg #[.int .i64 0, .string ⟨#[]⟩, .bool false]) (size := 3) (bytes := 32) (by kernel_rfl)
            refine wpTree_do rfl (wanted_free rfl) (fun K hK => ?_)
            refine wp_append_own _ (.tmp 46) (.tmp 66) 38 rfl Wy.heap.size 46 i0 _ 3 32 Try.underlying38 hi hz0 hz1 hz2 rfl (by decide) _ m (cellsH (L.ws.take j)) rfl ownA ⟨wr.heap.size, 0, none⟩ 1 1
              [.int .i64 xs, .string xt, .bool xx] rfl rfl (three_at X1) (by intro u hu; simp at hu; rcases hu with rfl | rfl | rfl <;> rfl) (by unfold maxLen; omega) (by omega) gnA.size (fun v' w5 h2 h3 h4 => ?_)
            obtain ⟨gv, cv, rfl, hgv, hgv2⟩ := h2.form (by omega)
            clear h4
            have hlo := fun k hk => (ownA.lt k hk).1
            have D8 := BA.grown h3 (own_ne_r ownA BA (by decide))
            have gn5 : Wy.grownBy w5 (some g8) := gnA.andThen h3 (fun k hk => .inl (hlo k hk))
            refine hK.out _ _ gn5 ?_
            clear hK K
            repeat ((with_reducible show wpTree _ _ _ _ (.take _ _) _ _); (first | (refine wpTree_on (v := ?_) rfl rfl (wanted_free rfl) (fun w' hS => ?_) ?_; rotate_left; (focus (go_simp; (try with_reducible rfl); done)); try simp only [List.setIfInBounds_toArray, List.set_cons_zero, List.set_cons_succ]) | (refine wpTree_on (v := ?_) rfl rfl (wanted_yes rfl rfl rfl) (fun w' hS => ?_) ?_; rotate_left; (focus (go_simp; (try with_reducible rfl); done)); try simp only [List.setIfInBounds_toArray, List.set_cons_zero, List.set_cons_succ]) | (refine wpTree_off rfl rfl (wanted_no rfl rfl rfl) ?_; try simp only [List.setIfInBounds_toArray, List.set_cons_zero, List.set_cons_succ]) | (refine wpTree_off rfl rfl (wanted_undef rfl rfl rfl) ?_; try simp only [List.setIfInBounds_toArray, List.set_cons_zero, List.set_cons_succ])))
            have f0 := D8.frozen 1
            have q0 := D8.cell 1
            refine wpTree_do rfl (wanted_free rfl) (fun K hK => ?_); go_simp
            clear f0 q0
            obtain ⟨w6, hw6, E8, hlow, hgr⟩ := Blk.set1' D8 (.slice (some ⟨gv, 0, none⟩) (m + 1) cv)
            rw [← hw6]
            clear hw6
            have gn6 := World.grownBy.trans gn5 hgr
            have own6 := own_far_r h2 D8 hgr
            refine hK.out _ _ gn6 (wpTree_end ?_)
            clear hK K
            go_wp2
            go_roundw
            case rel =>
              refine ⟨j + 1, m + 1, _, by go_num, by omega, by omega, gn6, E8, ?_⟩
              rw [HXS.out, cellsH_append, cellsH_one]
              exact own6
            case measure => simp [intOf]; omega
  
          · go_simp
            refine hK.out _ _ gnA ?_
            clear hK K
            have q8 := BA.cell 1
            refine wpTree_do rfl (wanted_free rfl) (fun K hK => ?_); go_simp
            refine hK.out _ _ gnA ?_
            clear hK K q8
            obtain ⟨i0, hi, hz0, hz1, hz2⟩ := info_parts (P := Try.prog) (e := 46) (z := .agg #[.int .i64 0, .string ⟨#[]⟩, .bool false]) (size := 3) (bytes := 32) (by kernel_rfl)
            refine wpTree_do rfl (wanted_free rfl) (fun K hK => ?_)
            refine wp_append_own _ (.tmp 46) (.tmp 66) 38 rfl Wy.heap.size 46 i0 _ 3 32 Try.underlying38 hi hz0 hz1 hz2 rfl (by decide) _ m (cellsH (L.ws.take j)) rfl ownA ⟨wr.heap.size, 0, none⟩ 1 1
              [.int .i64 xs, .string xt, .bool xx] rfl rfl (three_at X1) (by intro u hu; simp at hu; rcases hu with rfl | rfl | rfl <;> rfl) (by unfold maxLen; omega) (by omega) gnA.size (fun v' w5 h2 h3 h4 => ?_)
            obtain ⟨gv, cv, rfl, hgv, hgv2⟩ := h2.form (by omega)
            clear h4
            have hlo := fun k hk => (ownA.lt k hk).1
            have D8 := BA.grown h3 (own_ne_r ownA BA (by decide))
            have gn5 : Wy.grownBy w5 (some g8) := gnA.andThen h3 (fun k hk => .inl (hlo k hk))
            refine hK.out _ _ gn5 ?_
            clear hK K
            repeat ((with_reducible show wpTree _ _ _ _ (.take _ _) _ _); (first | (refine wpTree_on (v := ?_) rfl rfl (wanted_free rfl) (fun w' hS => ?_) ?_; rotate_left; (focus (go_simp; (try with_reducible rfl); done)); try simp only [List.setIfInBounds_toArray, List.set_cons_zero, List.set_cons_succ]) | (refine wpTree_on (v := ?_) rfl rfl (wanted_yes rfl rfl rfl) (fun w' hS => ?_) ?_; rotate_left; (focus (go_simp; (try with_reducible rfl); done)); try simp only [List.setIfInBounds_toArray, List.set_cons_zero, List.set_cons_succ]) | (refine wpTree_off rfl rfl (wanted_no rfl rfl rfl) ?_; try simp only [List.setIfInBounds_toArray, List.set_cons_zero, List.set_cons_succ]) | (refine wpTree_off rfl rfl (wanted_undef rfl rfl rfl) ?_; try simp only [List.setIfInBounds_toArray, List.set_cons_zero, List.set_cons_succ])))
            have f0 := D8.frozen 1
            have q0 := D8.cell 1
            refine wpTree_do rfl (wanted_free rfl) (fun K hK => ?_); go_simp
            clear f0 q0
            obtain ⟨w6, hw6, E8, hlow, hgr⟩ := Blk.set1' D8 (.slice (some ⟨gv, 0, none⟩) (m + 1) cv)
            rw [← hw6]
            clear hw6
            have gn6 := World.grownBy.trans gn5 hgr
            have own6 := own_far_r h2 D8 hgr
            refine hK.out _ _ gn6 (wpTree_end ?_)
            clear hK K
            go_wp2
            go_roundw
            case rel =>
              refine ⟨j + 1, m + 1, _, by go_num, by omega, by omega, gn6, E8, ?_⟩
              rw [HXS.out, cellsH_append, cellsH_one]
              exact own6
            case measure => simp [intOf]; omega
  
        · have hd : decide ((j : Int) < (n' : Int)) = false := by simp; omega
          have hjn : j = n' := by omega
          have htk : L.ws.take j = L.ws := List.take_of_length_le (by rw [E2.out, hjn]; exact Nat.le_refl _)
          rw [htk] at own
          clear htk hjn
          obtain ⟨AO, cO, rfl⟩ := own_slice own
          have hmW : L.ws.length = m := by
            have := own.1
            rw [cellsH_len] at this
            omega
          have HsW := hs_of_own own
          have HsH2 := HsH.keep B8 (by intro z; simp) gn
          have q8 := E.cell 0
          have q8' := E.cell 1
          have B2' := B2.grown gn (by simp; omega)
          have f0 := B2'.frozen 0
          have f1 := B2'.frozen 1
          have p0 := B2'.cell 0
          have p1 := B2'.cell 1
          go_wp2
          clear q8 q8' f0 f1 p0 p1
          obtain ⟨w9, hw9, C9, hlow9, hgr9⟩ := Blk.set2 B2' (.slice A8 n8 c8) (.slice AO m cO)
          rw [← hw9]
          clear hw9
          have p0 := C9.cell 0
          have p1 := C9.cell 1
          have hbn : Below w.heap.size w wr := hbz.grown gn hbz.size (fun k hk => by injection hk with hk; omega)
          exact bodyPost_ret (v := .agg #[.slice A8 n8 c8, .slice AO m cO]) (by simp [results, Try.results15, go_sem, p0, p1]; try rfl) rfl
            ⟨_, rfl, ⟨_, _, _, _, _, _, rfl, HMH.out, HsH2.keep B2' (by intro z; simp) hgr9, hmW, HsW.keep B2' (by intro z; simp) hgr9⟩, Below.trans hbn (hlow9 _ (by omega))⟩
  
  
  
  
end Go.Proofs.Ytlfonenjgchklaa.lk
