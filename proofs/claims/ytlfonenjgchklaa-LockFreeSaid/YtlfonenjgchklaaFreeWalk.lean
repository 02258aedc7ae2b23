/- LockFree: the walk. Printed by genfree.py. -/
import Derived.Test.YtlfonenjgchklaaSame
import Derived.Test.YtlfonenjgchklaaAp
import Derived.Test.YtlfonenjgchklaaT
import Derived.Deep.AppendLies
namespace Go.Proofs.Ytlfonenjgchklaa.lk
open Go.ChangeShapes Go.WideShapes Go.ChangeAt Go.RowKit Go.Proofs.Ytlfonenjgchklaa.lib
set_option linter.unusedVariables false

theorem own_ne_h {w : World} {base g n : Nat} {t : TypeId} {v : Value} {xs : List Value} {cs : Array Value} (h : w.ownsRow base 30 3 v n xs) (hB : Blk w g t cs) (ht : 30 ≠ t) : some g ≠ v.ownBlock := by
  rcases h.2 with ⟨rfl, _⟩ | ⟨g', cap, cur, rfl, _, hgg, _⟩
  · simp [Value.ownBlock]
  · intro e
    simp [Value.ownBlock] at e
    subst e
    unfold Blk at hB
    rw [hB] at hgg
    injection hgg with h1
    injection h1 with h2 h3
    exact ht h3.symm
set_option maxHeartbeats 4000000 in
set_option maxRecDepth 1000000 in
theorem free_walk (A : Option Addr) (n c : Nat) (l : List Ac) (s : Int) (w : World) (hl : l.length = n) (hn : n ≤ maxLen) (hI : Acts w A l) :
    Calls Try.prog 8 #[.slice A n c, .int .i64 s] w fun e W' => e = .returned (.bool true) ∧ Below w.heap.size w W' := by
  have HL := Lib.hid hl
  unfold maxLen at hn
  clear hl
  go_enter Try.func8, Try.ntmps8
  go_wp2_with fail
  refine (known_ _).mono ?_
  rintro e w1 ⟨rfl, hb1⟩
  go_wp2_with fail
  obtain ⟨W, hW_, hbW1, B0⟩ : ∃ W_, W_ = (w1.alloc (.cells #[.slice none 0 0, .slice none 0 0] 26)) ∧ Below w1.heap.size w1 W_ ∧ Blk W_ (w1.heap.size) 26 #[.slice none 0 0, .slice none 0 0] :=
    ⟨_, rfl, ((Below.refl _ _).alloc (Nat.le_refl _) _), (blk_new_at w1 (w1.heap.size) _ _ (by simp))⟩
  rw [← hW_]
  clear hW_
  have hbW := Below.trans hb1 (Below.mono hbW1 hb1.size)
  have hV0 : Va W w1.heap.size ⟨[], []⟩ := ⟨_, _, _, _, _, _, B0, LkR.none W⟩
  have hgw : w.heap.size ≤ w1.heap.size := hb1.size
  clear hbW1 hb1 B0
  generalize w1.heap.size = g at *
  go_loopw [6] (fun i wr => ∃ (k : Nat) (L : Lk), i = .int .i64 k ∧ k ≤ n ∧ k ≤ 40 ∧ Va wr g L ∧ Wf k L ∧ Below w.heap.size w wr) (fun i _ => n - (intOf i).toNat)
  case atStart => exact ⟨0, ⟨[], []⟩, rfl, Nat.zero_le _, Nat.zero_le _, hV0, Wf.nil 0, hbW⟩
  case round =>
    obtain ⟨k, L, rfl, hk, hk40, hV, hW, hbw⟩ := hrel
    clear hV0 hbW
    obtain ⟨A1, n1, c1, A2, n2, c2, hB, hL⟩ := hV
    by_cases hgo : k < n ∧ k < 40
    · have hd1 : decide ((k : Int) < (n : Int)) = true := by simp; omega
      have hd2 : decide ((k : Int) < 40) = true := by simp; omega
      have hkn : (k : Int) < (n : Int) := by omega
      obtain ⟨x, hx⟩ : ∃ x, l[k]? = some x := ⟨_, List.getElem?_eq_getElem (by rw [HL.out]; exact hgo.1)⟩
      obtain ⟨ab, ao, rfl, hab, hac⟩ := hI (by rw [HL.out]; omega)
      have qa := hac k x hx
      clear hx hac
      go_wp2_with fail
      have D := fun w' (h : Below w.heap.size w w') => (show w'.cell? ⟨ab, ao + k * 4, none⟩ = some (.int .i64 x.k) ∧ w'.cell? ⟨ab, ao + k * 4 + 1, none⟩ = some (.int .i64 x.s) ∧ w'.cell? ⟨ab, ao + k * 4 + 2, none⟩ = some (.int .i64 x.t) ∧ w'.cell? ⟨ab, ao + k * 4 + 3, none⟩ = some (.bool x.x) from
        ⟨(h.cell (by exact hab)).trans qa.1, (h.cell (by exact hab)).trans qa.2.1, (h.cell (by exact hab)).trans qa.2.2.1, (h.cell (by exact hab)).trans qa.2.2.2⟩)
      refine wp_region_tree (S := fun w' => Below w.heap.size w w') (.take 1 (.take 2 (.take 3 (.take 4 (.two 0 5 (.one 5 (.one 6 (.take 7 (.take 8 (.take 9 (.one 10 .nil)))))) (.one 0 (.one 6 (.take 7 (.take 8 (.take 9 (.one 10 .nil))))))))))) (by kernel_rfl) (by kernel_rfl) (by kernel_rfl) (by decide) (by intro c a d v w h; cases d <;> exact h) hbw.drew ?_
      repeat ((with_reducible show wpTree _ _ _ _ (.take _ _) _ _); (first | (refine wpTree_on (v := ?_) rfl rfl (wanted_free rfl) (fun w' hS => ?_) ?_; rotate_left; (focus (go_simp; (try with_reducible rfl); done)); try simp only [List.setIfInBounds_toArray, List.set_cons_zero, List.set_cons_succ]) | (refine wpTree_on (v := ?_) rfl rfl (wanted_yes rfl rfl rfl) (fun w' hS => ?_) ?_; rotate_left; (focus (go_simp; (try with_reducible rfl); done)); try simp only [List.setIfInBounds_toArray, List.set_cons_zero, List.set_cons_succ]) | (refine wpTree_off rfl rfl (wanted_no rfl rfl rfl) ?_; try simp only [List.setIfInBounds_toArray, List.set_cons_zero, List.set_cons_succ]) | (refine wpTree_off rfl rfl (wanted_undef rfl rfl rfl) ?_; try simp only [List.setIfInBounds_toArray, List.set_cons_zero, List.set_cons_succ])))
      clear D qa
      have hbd := hbw.drew
      refine wpTree_both rfl (wanted_free rfl) rfl (wanted_free rfl) (fun K hK => ?_) (fun K hK => ?_)
      · have q0 := (Blk.drew hB).cell 0
        have q1 := (Blk.drew hB).cell 1
        go_simp
        refine hK.out _ _ hbd ?_
        clear hK K q0 q1
        refine wpTree_do rfl (wanted_free rfl) (fun K hK => ?_); go_simp
        refine (hold_ x _).mono ?_
        rintro e w3 ⟨rfl, hh⟩
        have hh := Below.trans (Below.refl wr.heap.size wr).drew hh
        have hb3 := Below.trans hbw (Below.mono hh hbw.size)
        have hB3 := hB.ext hh
        have hL3 := hL.ext hh
        refine hK.out _ _ hb3 ?_
        clear hK K hh hB hL hbd
        refine wpTree_do rfl (wanted_free rfl) (fun K hK => ?_); go_simp
        have hA := Ask_ L x.hd _ _ hL3 (by have := hW.hl; omega) (by have := hW.wl; omega)
        refine hA.mono ?_
        rintro e w4 ⟨v, rfl, hL4, hb4⟩
        obtain ⟨A3, n3, c3, A4, n4, c4, rfl, hL4⟩ := hL4.parts
        have hB4 := hB3.ext hb4
        have hb5 := Below.trans hb3 (Below.mono hb4 hb3.size)
        refine hK.out _ _ hb5 ?_
        clear hK K hA hL3 hB3 hb4 hb3
        repeat ((with_reducible show wpTree _ _ _ _ (.take _ _) _ _); (first | (refine wpTree_on (v := ?_) rfl rfl (wanted_free rfl) (fun w' hS => ?_) ?_; rotate_left; (focus (go_simp; (try with_reducible rfl); done)); try simp only [List.setIfInBounds_toArray, List.set_cons_zero, List.set_cons_succ]) | (refine wpTree_on (v := ?_) rfl rfl (wanted_yes rfl rfl rfl) (fun w' hS => ?_) ?_; rotate_left; (focus (go_simp; (try with_reducible rfl); done)); try simp only [List.setIfInBounds_toArray, List.set_cons_zero, List.set_cons_succ]) | (refine wpTree_off rfl rfl (wanted_no rfl rfl rfl) ?_; try simp only [List.setIfInBounds_toArray, List.set_cons_zero, List.set_cons_succ]) | (refine wpTree_off rfl rfl (wanted_undef rfl rfl rfl) ?_; try simp only [List.setIfInBounds_toArray, List.set_cons_zero, List.set_cons_succ])))
        have f0 := hB4.frozen 0
        have f1 := hB4.frozen 1
        have q0 := hB4.cell 0
        have q1 := hB4.cell 1
        refine wpTree_do rfl (wanted_free rfl) (fun K hK => ?_); go_simp
        clear f0 f1 q0 q1
        obtain ⟨w6, hw6, C6, hL6, hlow, hgr⟩ := Va.set hB4 (by simp) hL4
        rw [← hw6]
        clear hw6
        have hb6 := Below.trans hb5 (hlow _ hgw)
        refine hK.out _ _ hb6 (wpTree_end ?_)
        clear hK K
        go_wp2
        go_roundw
        case rel =>
          exact ⟨k + 1, _, by go_num, by omega, by omega, ⟨_, _, _, _, _, _, C6, hL6⟩, hW.ask x.bs, hb6⟩
        case measure => simp [intOf]; omega

      · go_simp
        refine (hold_ x _).mono ?_
        rintro e w3 ⟨rfl, hh⟩
        have hh := Below.trans (Below.refl wr.heap.size wr).drew hh
        have hb3 := Below.trans hbw (Below.mono hh hbw.size)
        have hB3 := hB.ext hh
        have hL3 := hL.ext hh
        refine hK.out _ _ hb3 ?_
        clear hK K hh hB hL hbd
        have q0 := hB3.cell 0
        have q1 := hB3.cell 1
        refine wpTree_do rfl (wanted_free rfl) (fun K hK => ?_); go_simp
        refine hK.out _ _ hb3 ?_
        clear hK K q0 q1
        refine wpTree_do rfl (wanted_free rfl) (fun K hK => ?_); go_simp
        have hA := Ask_ L x.hd _ _ hL3 (by have := hW.hl; omega) (by have := hW.wl; omega)
        refine hA.mono ?_
        rintro e w4 ⟨v, rfl, hL4, hb4⟩
        obtain ⟨A3, n3, c3, A4, n4, c4, rfl, hL4⟩ := hL4.parts
        have hB4 := hB3.ext hb4
        have hb5 := Below.trans hb3 (Below.mono hb4 hb3.size)
        refine hK.out _ _ hb5 ?_
        clear hK K hA hL3 hB3 hb4 hb3
        repeat ((with_reducible show wpTree _ _ _ _ (.take _ _) _ _); (first | (refine wpTree_on (v := ?_) rfl rfl (wanted_free rfl) (fun w' hS => ?_) ?_; rotate_left; (focus (go_simp; (try with_reducible rfl); done)); try simp only [List.setIfInBounds_toArray, List.set_cons_zero, List.set_cons_succ]) | (refine wpTree_on (v := ?_) rfl rfl (wanted_yes rfl rfl rfl) (fun w' hS => ?_) ?_; rotate_left; (focus (go_simp; (try with_reducible rfl); done)); try simp only [List.setIfInBounds_toArray, List.set_cons_zero, List.set_cons_succ]) | (refine wpTree_off rfl rfl (wanted_no rfl rfl rfl) ?_; try simp only [List.setIfInBounds_toArray, List.set_cons_zero, List.set_cons_succ]) | (refine wpTree_off rfl rfl (wanted_undef rfl rfl rfl) ?_; try simp only [List.setIfInBounds_toArray, List.set_cons_zero, List.set_cons_succ])))
        have f0 := hB4.frozen 0
        have f1 := hB4.frozen 1
        have q0 := hB4.cell 0
        have q1 := hB4.cell 1
        refine wpTree_do rfl (wanted_free rfl) (fun K hK => ?_); go_simp
        clear f0 f1 q0 q1
        obtain ⟨w6, hw6, C6, hL6, hlow, hgr⟩ := Va.set hB4 (by simp) hL4
        rw [← hw6]
        clear hw6
        have hb6 := Below.trans hb5 (hlow _ hgw)
        refine hK.out _ _ hb6 (wpTree_end ?_)
        clear hK K
        go_wp2
        go_roundw
        case rel =>
          exact ⟨k + 1, _, by go_num, by omega, by omega, ⟨_, _, _, _, _, _, C6, hL6⟩, hW.ask x.bs, hb6⟩
        case measure => simp [intOf]; omega

    · rcases Nat.lt_or_ge k n with hkn | hkn
      · have hd1 : decide ((k : Int) < (n : Int)) = true := by simp; omega
        have hd2 : decide ((k : Int) < 40) = false := by simp; omega
        have qh := hB.cell 0
        have qh' := hB.cell 1
        go_wp2_with fail
        refine (within_ s 8 _ (by omega) (by omega)).mono ?_
        rintro e w2 ⟨rfl, rfl⟩
        generalize wi s 8 = sv at *
        go_wp2_with fail
        refine (Free_ L sv _ _ hL (by have := hW.hl; omega) (by have := hW.wl; omega)).mono ?_
        rintro e w3 ⟨v, rfl, hL3, hb3⟩
        obtain ⟨A3, n3, c3, A4, n4, c4, rfl, hL3⟩ := hL3.parts
        have hBa := hB.ext hb3
        have hLa := hL.ext hb3
        have hb4 := Below.trans hbw (Below.mono hb3 hbw.size)
        clear qh qh' hB hL hb3 hbw
        go_wp2_with fail
        clear hk
        obtain ⟨Wz, hWz, hbz0, C7, B8, hg8⟩ : ∃ Wz, Wz = (w3.alloc (.cells #[.slice A3 n3 c3, .slice A4 n4 c4] 26)).alloc (.cells #[.slice none 0 0, .slice none 0 0] 26) ∧ Below w3.heap.size w3 Wz ∧ Blk Wz w3.heap.size 26 #[.slice A3 n3 c3, .slice A4 n4 c4] ∧
            Blk Wz (w3.heap.size + 1) 26 #[.slice none 0 0, .slice none 0 0] ∧ g < w3.heap.size := ⟨_, rfl, ((Below.refl _ _).alloc (Nat.le_refl _) _).alloc (by simp) _, (Blk.new _ _ _).alloc _, blk_new_at _ _ _ _ (by simp), hBa.lt⟩
        rw [← hWz]
        clear hWz
        have C5 := hBa.ext hbz0
        have L5 := hLa.ext hbz0
        have L7 := hL3.ext hbz0
        have hbz := Below.trans hb4 (Below.mono hbz0 hb4.size)
        have hw7 : w.heap.size ≤ w3.heap.size := hb4.size
        clear hBa hLa hL3 hbz0 hb4
        obtain ⟨g8, hg8e⟩ : ∃ g8, w3.heap.size + 1 = g8 := ⟨_, rfl⟩
        rw [hg8e] at B8 ⊢
        generalize w3.heap.size = g7 at *
        have hg78 : g7 < g8 := by omega
        clear hg8e
        go_loopw [9] (fun i wr => ∃ (j m : Nat) (out : Value), i = .int .i64 j ∧ j ≤ n1 ∧ m ≤ j ∧ Wz.grownBy wr (some g8) ∧ Blk wr g8 26 #[out, .slice none 0 0] ∧ wr.ownsRow Wz.heap.size 30 3 out m (cellsH (woL (L.hs.take j) sv))) (fun i _ => n1 - (intOf i).toNat)
        case atStart => exact ⟨0, 0, _, rfl, Nat.zero_le _, Nat.le_refl _, ⟨rfl, rfl, rfl, Nat.le_refl _, fun _ _ _ => rfl⟩, B8, World.ownsRow_nil _ _ _ _⟩
        case round =>
          obtain ⟨j, n8, out, rfl, hj, hm, gn, E, own⟩ := hrel
          have hinv := L5.inv
          have hlen := hinv.1
          have hl40 : n1 ≤ 40 := by have := hW.hl; omega
          have C := C5.grown gn (by simp; omega)
          have LL := L5.keep B8 (by intro z; simp) gn
          have HLEN := Lib.hid hlen
          have hinv := LL.inv
          clear hlen
          rcases Nat.lt_or_ge j n1 with hlt | hge
          · have hd : decide ((j : Int) < (n1 : Int)) = true := by simp; omega
            have hjn : (j : Int) < (n1 : Int) := by omega
            obtain ⟨x, hx⟩ : ∃ x, L.hs[j]? = some x := ⟨_, List.getElem?_eq_getElem (by rw [HLEN.out]; exact hlt)⟩
            obtain ⟨hb_, rfl, hbl_⟩ := (hinv.2.1).some_ (by rw [HLEN.out]; omega)
            have hq := (hinv.2.1).at_ hx
            have HXS := Lib.hid (woL_snoc L.hs j x sv hx)
            have HAT : Hid (∀ w', Wz.grownBy w' (some g8) → w'.cell? ⟨hb_, j * 3, none⟩ = some (.int .i64 x.s) ∧ w'.cell? ⟨hb_, j * 3 + 1, none⟩ = some (.string x.t) ∧ w'.cell? ⟨hb_, j * 3 + 2, none⟩ = some (.bool x.x)) := Lib.hid (fun w' h => by
              have h9 := (L5.keep B8 (by intro z; simp) h).inv
              exact (h9.2.1).at_ hx)
            clear hx hinv
            obtain ⟨xs, xt, xx⟩ := x
            have qc := C.cell 0
            obtain ⟨p, hp⟩ : ∃ p, (xs != sv) = p := ⟨_, rfl⟩
            have HP := Lib.hid hp
            cases p with
            | false =>
              go_wp2
              go_roundw
              case rel =>
                refine ⟨j + 1, n8, out, by go_num, by omega, by omega, gn, E, ?_⟩
                rw [HXS.out, if_neg (by rw [HP.out]; decide)]
                exact own
              case measure => simp [intOf]; omega
            | true =>
              go_wp2_with fail
              clear hp hq qc
              obtain ⟨A8, c8, rfl⟩ := own_slice own
              have D := fun w' (h : Wz.grownBy w' (some g8)) => (show w'.cell? ⟨g, 0, none⟩ = some (.slice (some ⟨hb_, 0, none⟩) n1 c1) ∧ w'.cell? ⟨hb_, j * 3, none⟩ = some (.int .i64 xs) ∧ w'.cell? ⟨hb_, j * 3 + 1, none⟩ = some (.string xt) ∧ w'.cell? ⟨hb_, j * 3 + 2, none⟩ = some (.bool xx) from ⟨(C5.grown h (by simp; omega)).cell 0, HAT.out w' h⟩)
              have gnd : Wz.grownBy wr.drew (some g8) := ⟨gn.os, gn.tape, gn.output, gn.size, gn.block⟩
              refine wp_region_tree (S := fun w' => Wz.grownBy w' (some g8)) (.take 0 (.take 2 (.take 3 (.take 4 (.take 5 (.take 6 (.two 1 7 (.one 7 (.one 8 (.take 9 (.one 10 .nil)))) (.one 1 (.one 8 (.take 9 (.one 10 .nil)))))))))))
                (by kernel_rfl) (by kernel_rfl) (by kernel_rfl) (by decide) (by intro c a d v w h; cases d <;> exact h) gnd ?_
              repeat ((with_reducible show wpTree _ _ _ _ (.take _ _) _ _); (first | (refine wpTree_on (v := ?_) rfl rfl (wanted_free rfl) (fun w' hS => ?_) ?_; rotate_left; (focus (go_simp; (try with_reducible rfl); done)); try simp only [List.setIfInBounds_toArray, List.set_cons_zero, List.set_cons_succ]) | (refine wpTree_on (v := ?_) rfl rfl (wanted_yes rfl rfl rfl) (fun w' hS => ?_) ?_; rotate_left; (focus (go_simp; (try with_reducible rfl); done)); try simp only [List.setIfInBounds_toArray, List.set_cons_zero, List.set_cons_succ]) | (refine wpTree_off rfl rfl (wanted_no rfl rfl rfl) ?_; try simp only [List.setIfInBounds_toArray, List.set_cons_zero, List.set_cons_succ]) | (refine wpTree_off rfl rfl (wanted_undef rfl rfl rfl) ?_; try simp only [List.setIfInBounds_toArray, List.set_cons_zero, List.set_cons_succ])))
              clear D
              have gnA0 : Wz.grownBy (wr.alloc (.cells #[.int .i64 xs, .string xt, .bool xx] 30)) (some g8) := gn.andThen (World.grownBy_alloc _ _ none) (fun k hk => by cases hk)
              have gnA : Wz.grownBy (wr.alloc (.cells #[.int .i64 xs, .string xt, .bool xx] 30)).drew (some g8) := ⟨gnA0.os, gnA0.tape, gnA0.output, gnA0.size, gnA0.block⟩
              have BA := Blk.drew (E.alloc (.cells #[.int .i64 xs, .string xt, .bool xx] 30))
              have ownA := own_ext (own.alloc (.cells #[.int .i64 xs, .string xt, .bool xx] 30)) (Below.refl _ _).drew
              have X1 : Blk (wr.alloc (.cells #[.int .i64 xs, .string xt, .bool xx] 30)).drew wr.heap.size 30 #[.int .i64 xs, .string xt, .bool xx] := Blk.drew (Blk.new wr _ _)
              refine wpTree_both rfl (wanted_free rfl) rfl (wanted_free rfl) (fun K hK => ?_) (fun K hK => ?_)
              · have q8 := (Blk.drew E).cell 0
                go_simp
                refine hK.out _ _ gnd ?_
                clear hK K q8
                refine wpTree_do rfl (wanted_free rfl) (fun K hK => ?_); go_simp
                refine hK.out _ _ gnA ?_
                clear hK K
                obtain ⟨i0, hi, hz0, hz1, hz2⟩ := info_parts (P := Try.prog) (e := 30) (z := .agg #[.int .i64 0, .string ⟨#[]⟩, .bool false]) (size := 3) (bytes := 32) (by kernel_rfl)
                refine wpTree_do rfl (wanted_free rfl) (fun K hK => ?_)
                refine wp_append_own _ (.tmp 55) (.tmp 61) 24 rfl Wz.heap.size 30 i0 _ 3 32 Try.underlying24 hi hz0 hz1 hz2 rfl (by decide) _ n8 (cellsH (woL (L.hs.take j) sv)) rfl ownA ⟨wr.heap.size, 0, none⟩ 1 1
                  [.int .i64 xs, .string xt, .bool xx] rfl rfl (three_at X1) (by intro u hu; simp at hu; rcases hu with rfl | rfl | rfl <;> rfl) (by unfold maxLen; omega) (by omega) gnA.size (fun v' w5 h2 h3 h4 => ?_)
                obtain ⟨gv, cv, rfl, hgv, hgv2⟩ := h2.form (by omega)
                clear h4
                have hlo := fun k hk => (ownA.lt k hk).1
                have D8 := BA.grown h3 (own_ne_h ownA BA (by decide))
                have gn5 : Wz.grownBy w5 (some g8) := gnA.andThen h3 (fun k hk => .inl (hlo k hk))
                refine hK.out _ _ gn5 ?_
                clear hK K
                repeat ((with_reducible show wpTree _ _ _ _ (.take _ _) _ _); (first | (refine wpTree_on (v := ?_) rfl rfl (wanted_free rfl) (fun w' hS => ?_) ?_; rotate_left; (focus (go_simp; (try with_reducible rfl); done)); try simp only [List.setIfInBounds_toArray, List.set_cons_zero, List.set_cons_succ]) | (refine wpTree_on (v := ?_) rfl rfl (wanted_yes rfl rfl rfl) (fun w' hS => ?_) ?_; rotate_left; (focus (go_simp; (try with_reducible rfl); done)); try simp only [List.setIfInBounds_toArray, List.set_cons_zero, List.set_cons_succ]) | (refine wpTree_off rfl rfl (wanted_no rfl rfl rfl) ?_; try simp only [List.setIfInBounds_toArray, List.set_cons_zero, List.set_cons_succ]) | (refine wpTree_off rfl rfl (wanted_undef rfl rfl rfl) ?_; try simp only [List.setIfInBounds_toArray, List.set_cons_zero, List.set_cons_succ])))
                have f0 := D8.frozen 0
                have q0 := D8.cell 0
                refine wpTree_do rfl (wanted_free rfl) (fun K hK => ?_); go_simp
                clear f0 q0
                obtain ⟨w6, hw6, E8, hlow, hgr⟩ := Blk.set0' D8 (.slice (some ⟨gv, 0, none⟩) (n8 + 1) cv)
                rw [← hw6]
                clear hw6
                have gn6 := World.grownBy.trans gn5 hgr
                have own6 := own_far h2 D8 hgr
                refine hK.out _ _ gn6 (wpTree_end ?_)
                clear hK K
                go_wp2
                go_roundw
                case rel =>
                  refine ⟨j + 1, n8 + 1, _, by go_num, by omega, by omega, gn6, E8, ?_⟩
                  rw [HXS.out, if_pos HP.out, cellsH_append, cellsH_one]
                  exact own6
                case measure => simp [intOf]; omega

              · go_simp
                refine hK.out _ _ gnA ?_
                clear hK K
                have q8 := BA.cell 0
                refine wpTree_do rfl (wanted_free rfl) (fun K hK => ?_); go_simp
                refine hK.out _ _ gnA ?_
                clear hK K q8
                obtain ⟨i0, hi, hz0, hz1, hz2⟩ := info_parts (P := Try.prog) (e := 30) (z := .agg #[.int .i64 0, .string ⟨#[]⟩, .bool false]) (size := 3) (bytes := 32) (by kernel_rfl)
                refine wpTree_do rfl (wanted_free rfl) (fun K hK => ?_)
                refine wp_append_own _ (.tmp 55) (.tmp 61) 24 rfl Wz.heap.size 30 i0 _ 3 32 Try.underlying24 hi hz0 hz1 hz2 rfl (by decide) _ n8 (cellsH (woL (L.hs.take j) sv)) rfl ownA ⟨wr.heap.size, 0, none⟩ 1 1
                  [.int .i64 xs, .string xt, .bool xx] rfl rfl (three_at X1) (by intro u hu; simp at hu; rcases hu with rfl | rfl | rfl <;> rfl) (by unfold maxLen; omega) (by omega) gnA.size (fun v' w5 h2 h3 h4 => ?_)
                obtain ⟨gv, cv, rfl, hgv, hgv2⟩ := h2.form (by omega)
                clear h4
                have hlo := fun k hk => (ownA.lt k hk).1
                have D8 := BA.grown h3 (own_ne_h ownA BA (by decide))
                have gn5 : Wz.grownBy w5 (some g8) := gnA.andThen h3 (fun k hk => .inl (hlo k hk))
                refine hK.out _ _ gn5 ?_
                clear hK K
                repeat ((with_reducible show wpTree _ _ _ _ (.take _ _) _ _); (first | (refine wpTree_on (v := ?_) rfl rfl (wanted_free rfl) (fun w' hS => ?_) ?_; rotate_left; (focus (go_simp; (try with_reducible rfl); done)); try simp only [List.setIfInBounds_toArray, List.set_cons_zero, List.set_cons_succ]) | (refine wpTree_on (v := ?_) rfl rfl (wanted_yes rfl rfl rfl) (fun w' hS => ?_) ?_; rotate_left; (focus (go_simp; (try with_reducible rfl); done)); try simp only [List.setIfInBounds_toArray, List.set_cons_zero, List.set_cons_succ]) | (refine wpTree_off rfl rfl (wanted_no rfl rfl rfl) ?_; try simp only [List.setIfInBounds_toArray, List.set_cons_zero, List.set_cons_succ]) | (refine wpTree_off rfl rfl (wanted_undef rfl rfl rfl) ?_; try simp only [List.setIfInBounds_toArray, List.set_cons_zero, List.set_cons_succ])))
                have f0 := D8.frozen 0
                have q0 := D8.cell 0
                refine wpTree_do rfl (wanted_free rfl) (fun K hK => ?_); go_simp
                clear f0 q0
                obtain ⟨w6, hw6, E8, hlow, hgr⟩ := Blk.set0' D8 (.slice (some ⟨gv, 0, none⟩) (n8 + 1) cv)
                rw [← hw6]
                clear hw6
                have gn6 := World.grownBy.trans gn5 hgr
                have own6 := own_far h2 D8 hgr
                refine hK.out _ _ gn6 (wpTree_end ?_)
                clear hK K
                go_wp2
                go_roundw
                case rel =>
                  refine ⟨j + 1, n8 + 1, _, by go_num, by omega, by omega, gn6, E8, ?_⟩
                  rw [HXS.out, if_pos HP.out, cellsH_append, cellsH_one]
                  exact own6
                case measure => simp [intOf]; omega

          · have hd : decide ((j : Int) < (n1 : Int)) = false := by simp; omega
            have hjn : j = n1 := by omega
            have htk : L.hs.take j = L.hs := List.take_of_length_le (by rw [HLEN.out, hjn]; exact Nat.le_refl _)
            rw [htk] at own
            clear htk hjn hinv HLEN
            have qc := C.cell 0
            obtain ⟨A8, c8, rfl⟩ := own_slice own
            go_wp2_with fail
            have hdf : decide (j < n1) = false := by simp; omega
            rw [hdf]
            clear hdf
            have HsH := hs_of_own own
            have hmH : (woL L.hs sv).length = n8 := by
              have := own.1
              rw [cellsH_len] at this
              omega
            have HMH := Lib.hid hmH
            have C5n := C
            have L5n := LL
            have C7n := C7.grown gn (by simp; omega)
            have L7n := L7.keep B8 (by intro z; simp) gn
            have hbn : Below w.heap.size w wr := hbz.grown gn hbz.size (fun k hk => by injection hk with hk; omega)
            have E8 := E
            obtain ⟨Wy, hWy⟩ : ∃ Wy, wr = Wy := ⟨_, rfl⟩
            rw [hWy] at C5n L5n C7n L7n hbn E8 HsH ⊢
            clear hmH hd qc C5 C7 L7 hbz own gn C LL B8 E hWy hge hj
            have C5 := C5n
            have L5 := L5n
            have C7 := C7n
            have L7 := L7n
            have B8 := E8
            have hbz := hbn
            clear C5n L5n C7n L7n E8 hbn
            go_loopw [10] (fun i wr => ∃ (j m : Nat) (out : Value), i = .int .i64 j ∧ j ≤ n2 ∧ m ≤ j ∧ Wy.grownBy wr (some g8) ∧ Blk wr g8 26 #[.slice A8 n8 c8, out] ∧ wr.ownsRow Wy.heap.size 30 3 out m (cellsH (woL (L.ws.take j) sv))) (fun i _ => n2 - (intOf i).toNat)
            case atStart => exact ⟨0, 0, _, rfl, Nat.zero_le _, Nat.le_refl _, ⟨rfl, rfl, rfl, Nat.le_refl _, fun _ _ _ => rfl⟩, B8, World.ownsRow_nil _ _ _ _⟩
            case round =>
              obtain ⟨j, m, out, rfl, hj, hm, gn, E, own⟩ := hrel
              have hinv := L5.inv
              have hlen := hinv.2.2.1
              have hl40 : n2 ≤ 40 := by have := hW.wl; omega
              have C := C5.grown gn (by simp; omega)
              have LL := L5.keep B8 (by intro z; simp) gn
              have HLEN := Lib.hid hlen
              have hinv := LL.inv
              clear hlen
              rcases Nat.lt_or_ge j n2 with hlt | hge
              · have hd : decide ((j : Int) < (n2 : Int)) = true := by simp; omega
                have hjn : (j : Int) < (n2 : Int) := by omega
                obtain ⟨x, hx⟩ : ∃ x, L.ws[j]? = some x := ⟨_, List.getElem?_eq_getElem (by rw [HLEN.out]; exact hlt)⟩
                obtain ⟨hb_, rfl, hbl_⟩ := (hinv.2.2.2).some_ (by rw [HLEN.out]; omega)
                have hq := (hinv.2.2.2).at_ hx
                have HXS := Lib.hid (woL_snoc L.ws j x sv hx)
                have HAT : Hid (∀ w', Wy.grownBy w' (some g8) → w'.cell? ⟨hb_, j * 3, none⟩ = some (.int .i64 x.s) ∧ w'.cell? ⟨hb_, j * 3 + 1, none⟩ = some (.string x.t) ∧ w'.cell? ⟨hb_, j * 3 + 2, none⟩ = some (.bool x.x)) := Lib.hid (fun w' h => by
                  have h9 := (L5.keep B8 (by intro z; simp) h).inv
                  exact (h9.2.2.2).at_ hx)
                clear hx hinv
                obtain ⟨xs, xt, xx⟩ := x
                have qc := C.cell 1
                obtain ⟨p, hp⟩ : ∃ p, (xs != sv) = p := ⟨_, rfl⟩
                have HP := Lib.hid hp
                cases p with
                | false =>
                  go_wp2
                  go_roundw
                  case rel =>
                    refine ⟨j + 1, m, out, by go_num, by omega, by omega, gn, E, ?_⟩
                    rw [HXS.out, if_neg (by rw [HP.out]; decide)]
                    exact own
                  case measure => simp [intOf]; omega
                | true =>
                  go_wp2_with fail
                  clear hp hq qc
                  obtain ⟨AO, cO, rfl⟩ := own_slice own
                  have D := fun w' (h : Wy.grownBy w' (some g8)) => (show w'.cell? ⟨g, 1, none⟩ = some (.slice (some ⟨hb_, 0, none⟩) n2 c2) ∧ w'.cell? ⟨hb_, j * 3, none⟩ = some (.int .i64 xs) ∧ w'.cell? ⟨hb_, j * 3 + 1, none⟩ = some (.string xt) ∧ w'.cell? ⟨hb_, j * 3 + 2, none⟩ = some (.bool xx) from ⟨(C5.grown h (by simp; omega)).cell 1, HAT.out w' h⟩)
                  have gnd : Wy.grownBy wr.drew (some g8) := ⟨gn.os, gn.tape, gn.output, gn.size, gn.block⟩
                  refine wp_region_tree (S := fun w' => Wy.grownBy w' (some g8)) (.take 0 (.take 2 (.take 3 (.take 4 (.take 5 (.take 6 (.two 1 7 (.one 7 (.one 8 (.take 9 (.one 10 .nil)))) (.one 1 (.one 8 (.take 9 (.one 10 .nil)))))))))))
                    (by kernel_rfl) (by kernel_rfl) (by kernel_rfl) (by decide) (by intro c a d v w h; cases d <;> exact h) gnd ?_
                  repeat ((with_reducible show wpTree _ _ _ _ (.take _ _) _ _); (first | (refine wpTree_on (v := ?_) rfl rfl (wanted_free rfl) (fun w' hS => ?_) ?_; rotate_left; (focus (go_simp; (try with_reducible rfl); done)); try simp only [List.setIfInBounds_toArray, List.set_cons_zero, List.set_cons_succ]) | (refine wpTree_on (v := ?_) rfl rfl (wanted_yes rfl rfl rfl) (fun w' hS => ?_) ?_; rotate_left; (focus (go_simp; (try with_reducible rfl); done)); try simp only [List.setIfInBounds_toArray, List.set_cons_zero, List.set_cons_succ]) | (refine wpTree_off rfl rfl (wanted_no rfl rfl rfl) ?_; try simp only [List.setIfInBounds_toArray, List.set_cons_zero, List.set_cons_succ]) | (refine wpTree_off rfl rfl (wanted_undef rfl rfl rfl) ?_; try simp only [List.setIfInBounds_toArray, List.set_cons_zero, List.set_cons_succ])))
                  clear D
                  have gnA0 : Wy.grownBy (wr.alloc (.cells #[.int .i64 xs, .string xt, .bool xx] 30)) (some g8) := gn.andThen (World.grownBy_alloc _ _ none) (fun k hk => by cases hk)
                  have gnA : Wy.grownBy (wr.alloc (.cells #[.int .i64 xs, .string xt, .bool xx] 30)).drew (some g8) := ⟨gnA0.os, gnA0.tape, gnA0.output, gnA0.size, gnA0.block⟩
                  have BA := Blk.drew (E.alloc (.cells #[.int .i64 xs, .string xt, .bool xx] 30))
                  have ownA := own_ext (own.alloc (.cells #[.int .i64 xs, .string xt, .bool xx] 30)) (Below.refl _ _).drew
                  have X1 : Blk (wr.alloc (.cells #[.int .i64 xs, .string xt, .bool xx] 30)).drew wr.heap.size 30 #[.int .i64 xs, .string xt, .bool xx] := Blk.drew (Blk.new wr _ _)
                  refine wpTree_both rfl (wanted_free rfl) rfl (wanted_free rfl) (fun K hK => ?_) (fun K hK => ?_)
                  · have q8 := (Blk.drew E).cell 1
                    go_simp
                    refine hK.out _ _ gnd ?_
                    clear hK K q8
                    refine wpTree_do rfl (wanted_free rfl) (fun K hK => ?_); go_simp
                    refine hK.out _ _ gnA ?_
                    clear hK K
                    obtain ⟨i0, hi, hz0, hz1, hz2⟩ := info_parts (P := Try.prog) (e := 30) (z := .agg #[.int .i64 0, .string ⟨#[]⟩, .bool false]) (size := 3) (bytes := 32) (by kernel_rfl)
                    refine wpTree_do rfl (wanted_free rfl) (fun K hK => ?_)
                    refine wp_append_own _ (.tmp 80) (.tmp 86) 24 rfl Wy.heap.size 30 i0 _ 3 32 Try.underlying24 hi hz0 hz1 hz2 rfl (by decide) _ m (cellsH (woL (L.ws.take j) sv)) rfl ownA ⟨wr.heap.size, 0, none⟩ 1 1
                      [.int .i64 xs, .string xt, .bool xx] rfl rfl (three_at X1) (by intro u hu; simp at hu; rcases hu with rfl | rfl | rfl <;> rfl) (by unfold maxLen; omega) (by omega) gnA.size (fun v' w5 h2 h3 h4 => ?_)
                    obtain ⟨gv, cv, rfl, hgv, hgv2⟩ := h2.form (by omega)
                    clear h4
                    have hlo := fun k hk => (ownA.lt k hk).1
                    have D8 := BA.grown h3 (own_ne_h ownA BA (by decide))
                    have gn5 : Wy.grownBy w5 (some g8) := gnA.andThen h3 (fun k hk => .inl (hlo k hk))
                    refine hK.out _ _ gn5 ?_
                    clear hK K
                    repeat ((with_reducible show wpTree _ _ _ _ (.take _ _) _ _); (first | (refine wpTree_on (v := ?_) rfl rfl (wanted_free rfl) (fun w' hS => ?_) ?_; rotate_left; (focus (go_simp; (try with_reducible rfl); done)); try simp only [List.setIfInBounds_toArray, List.set_cons_zero, List.set_cons_succ]) | (refine wpTree_on (v := ?_) rfl rfl (wanted_yes rfl rfl rfl) (fun w' hS => ?_) ?_; rotate_left; (focus (go_simp; (try with_reducible rfl); done)); try simp only [List.setIfInBounds_toArray, List.set_cons_zero, List.set_cons_succ]) | (refine wpTree_off rfl rfl (wanted_no rfl rfl rfl) ?_; try simp only [List.setIfInBounds_toArray, List.set_cons_zero, List.set_cons_succ]) | (refine wpTree_off rfl rfl (wanted_undef rfl rfl rfl) ?_; try simp only [List.setIfInBounds_toArray, List.set_cons_zero, List.set_cons_succ])))
                    have f0 := D8.frozen 1
                    have q0 := D8.cell 1
                    refine wpTree_do rfl (wanted_free rfl) (fun K hK => ?_); go_simp
                    clear f0 q0
                    obtain ⟨w6, hw6, E8, hlow, hgr⟩ := Blk.set1' D8 (.slice (some ⟨gv, 0, none⟩) (m + 1) cv)
                    rw [← hw6]
                    clear hw6
                    have gn6 := World.grownBy.trans gn5 hgr
                    have own6 := own_far h2 D8 hgr
                    refine hK.out _ _ gn6 (wpTree_end ?_)
                    clear hK K
                    go_wp2
                    go_roundw
                    case rel =>
                      refine ⟨j + 1, m + 1, _, by go_num, by omega, by omega, gn6, E8, ?_⟩
                      rw [HXS.out, if_pos HP.out, cellsH_append, cellsH_one]
                      exact own6
                    case measure => simp [intOf]; omega

                  · go_simp
                    refine hK.out _ _ gnA ?_
                    clear hK K
                    have q8 := BA.cell 1
                    refine wpTree_do rfl (wanted_free rfl) (fun K hK => ?_); go_simp
                    refine hK.out _ _ gnA ?_
                    clear hK K q8
                    obtain ⟨i0, hi, hz0, hz1, hz2⟩ := info_parts (P := Try.prog) (e := 30) (z := .agg #[.int .i64 0, .string ⟨#[]⟩, .bool false]) (size := 3) (bytes := 32) (by kernel_rfl)
                    refine wpTree_do rfl (wanted_free rfl) (fun K hK => ?_)
                    refine wp_append_own _ (.tmp 80) (.tmp 86) 24 rfl Wy.heap.size 30 i0 _ 3 32 Try.underlying24 hi hz0 hz1 hz2 rfl (by decide) _ m (cellsH (woL (L.ws.take j) sv)) rfl ownA ⟨wr.heap.size, 0, none⟩ 1 1
                      [.int .i64 xs, .string xt, .bool xx] rfl rfl (three_at X1) (by intro u hu; simp at hu; rcases hu with rfl | rfl | rfl <;> rfl) (by unfold maxLen; omega) (by omega) gnA.size (fun v' w5 h2 h3 h4 => ?_)
                    obtain ⟨gv, cv, rfl, hgv, hgv2⟩ := h2.form (by omega)
                    clear h4
                    have hlo := fun k hk => (ownA.lt k hk).1
                    have D8 := BA.grown h3 (own_ne_h ownA BA (by decide))
                    have gn5 : Wy.grownBy w5 (some g8) := gnA.andThen h3 (fun k hk => .inl (hlo k hk))
                    refine hK.out _ _ gn5 ?_
                    clear hK K
                    repeat ((with_reducible show wpTree _ _ _ _ (.take _ _) _ _); (first | (refine wpTree_on (v := ?_) rfl rfl (wanted_free rfl) (fun w' hS => ?_) ?_; rotate_left; (focus (go_simp; (try with_reducible rfl); done)); try simp only [List.setIfInBounds_toArray, List.set_cons_zero, List.set_cons_succ]) | (refine wpTree_on (v := ?_) rfl rfl (wanted_yes rfl rfl rfl) (fun w' hS => ?_) ?_; rotate_left; (focus (go_simp; (try with_reducible rfl); done)); try simp only [List.setIfInBounds_toArray, List.set_cons_zero, List.set_cons_succ]) | (refine wpTree_off rfl rfl (wanted_no rfl rfl rfl) ?_; try simp only [List.setIfInBounds_toArray, List.set_cons_zero, List.set_cons_succ]) | (refine wpTree_off rfl rfl (wanted_undef rfl rfl rfl) ?_; try simp only [List.setIfInBounds_toArray, List.set_cons_zero, List.set_cons_succ])))
                    have f0 := D8.frozen 1
                    have q0 := D8.cell 1
                    refine wpTree_do rfl (wanted_free rfl) (fun K hK => ?_); go_simp
                    clear f0 q0
                    obtain ⟨w6, hw6, E8, hlow, hgr⟩ := Blk.set1' D8 (.slice (some ⟨gv, 0, none⟩) (m + 1) cv)
                    rw [← hw6]
                    clear hw6
                    have gn6 := World.grownBy.trans gn5 hgr
                    have own6 := own_far h2 D8 hgr
                    refine hK.out _ _ gn6 (wpTree_end ?_)
                    clear hK K
                    go_wp2
                    go_roundw
                    case rel =>
                      refine ⟨j + 1, m + 1, _, by go_num, by omega, by omega, gn6, E8, ?_⟩
                      rw [HXS.out, if_pos HP.out, cellsH_append, cellsH_one]
                      exact own6
                    case measure => simp [intOf]; omega

              · have hd : decide ((j : Int) < (n2 : Int)) = false := by simp; omega
                have hjn : j = n2 := by omega
                have htk : L.ws.take j = L.ws := List.take_of_length_le (by rw [HLEN.out, hjn]; exact Nat.le_refl _)
                rw [htk] at own
                clear htk hjn hinv HLEN
                have qc := C.cell 1
                obtain ⟨AO, cO, rfl⟩ := own_slice own
                have hmW : (woL L.ws sv).length = m := by
                  have := own.1
                  rw [cellsH_len] at this
                  omega
                have C7z := C7.grown gn (by simp; omega)
                have L7z := L7.keep B8 (by intro z; simp) gn
                have hbn : Below w.heap.size w wr := hbz.grown gn hbz.size (fun k hk => by injection hk with hk; omega)
                have HsW := hs_of_own own
                have HsH2 := HsH.keep B8 (by intro z; simp) gn
                have L8 : LkR wr (.agg #[.slice A8 n8 c8, .slice AO m cO]) (freeL L sv) := ⟨_, _, _, _, _, _, rfl, HMH.out, HsH2, hmW, HsW⟩
                have hlF : (freeL L sv).hs.length ≤ 90000 ∧ (freeL L sv).ws.length ≤ 90000 := ⟨Nat.le_trans (woL_len _ _) (by have := hW.hl; omega), Nat.le_trans (woL_len _ _) (by have := hW.wl; omega)⟩
                have hff : freeL (freeL L sv) sv = freeL L sv := by
                  unfold freeL
                  simp only [woL_woL]
                have HFF := Lib.hid hff
                clear hmW HsW HsH2 hff
                go_wp2_with fail
                have D := fun w' (h : Below wr.heap.size wr.drew w') => (show w'.cell? ⟨g7, 0, none⟩ = some (.slice A3 n3 c3) ∧ w'.cell? ⟨g7, 1, none⟩ = some (.slice A4 n4 c4) ∧ w'.cell? ⟨g8, 0, none⟩ = some (.slice A8 n8 c8) ∧ w'.cell? ⟨g8, 1, none⟩ = some (.slice AO m cO) from
                  ⟨(C7z.ext (Below.trans (Below.refl _ _).drew h)).cell 0, (C7z.ext (Below.trans (Below.refl _ _).drew h)).cell 1, (E.ext (Below.trans (Below.refl _ _).drew h)).cell 0, (E.ext (Below.trans (Below.refl _ _).drew h)).cell 1⟩)
                refine wp_region_one [(0, true), (1, true), (2, false), (3, true), (4, true), (5, true), (7, true), (6, false), (8, false), (9, true), (10, true)] (by kernel_rfl) (by kernel_rfl) (by kernel_rfl) (by decide) ?_
                repeat ((with_reducible show wpPerm _ _ _ _ ((_, true) :: _) _ _); (first | (refine wpPerm_on (v := ?_) rfl rfl (wanted_free rfl) (fun w' hS => ?_) ?_; rotate_left; (focus (go_simp; (try with_reducible rfl); done)); try simp only [List.setIfInBounds_toArray, List.set_cons_zero, List.set_cons_succ]) | (refine wpPerm_on (v := ?_) rfl rfl (wanted_yes rfl rfl rfl) (fun w' hS => ?_) ?_; rotate_left; (focus (go_simp; (try with_reducible rfl); done)); try simp only [List.setIfInBounds_toArray, List.set_cons_zero, List.set_cons_succ]) | (refine wpPerm_off rfl rfl (wanted_no rfl rfl rfl) ?_; try simp only [List.setIfInBounds_toArray, List.set_cons_zero, List.set_cons_succ]) | (refine wpPerm_off rfl rfl (wanted_undef rfl rfl rfl) ?_; try simp only [List.setIfInBounds_toArray, List.set_cons_zero, List.set_cons_succ])))
                refine wpPerm_do rfl (wanted_free rfl) (fun K hK => ?_); go_simp
                refine (same_ (freeL L sv) (freeL L sv) _ _ _ (L7z.ext (Below.refl _ _).drew) (L8.ext (Below.refl _ _).drew) (by omega) (by omega)).mono ?_
                rintro e w5 ⟨rfl, hb5⟩
                rw [decide_eq_true rfl]
                refine hK.out _ _ hb5 ?_
                clear hK K
                have hB5 := Below.trans (Below.refl wr.heap.size wr).drew hb5
                repeat ((with_reducible show wpPerm _ _ _ _ ((_, true) :: _) _ _); (first | (refine wpPerm_on (v := ?_) rfl rfl (wanted_free rfl) (fun w' hS => ?_) ?_; rotate_left; (focus (go_simp; (try with_reducible rfl); done)); try simp only [List.setIfInBounds_toArray, List.set_cons_zero, List.set_cons_succ]) | (refine wpPerm_on (v := ?_) rfl rfl (wanted_yes rfl rfl rfl) (fun w' hS => ?_) ?_; rotate_left; (focus (go_simp; (try with_reducible rfl); done)); try simp only [List.setIfInBounds_toArray, List.set_cons_zero, List.set_cons_succ]) | (refine wpPerm_off rfl rfl (wanted_no rfl rfl rfl) ?_; try simp only [List.setIfInBounds_toArray, List.set_cons_zero, List.set_cons_succ]) | (refine wpPerm_off rfl rfl (wanted_undef rfl rfl rfl) ?_; try simp only [List.setIfInBounds_toArray, List.set_cons_zero, List.set_cons_succ])))
                refine wpPerm_do rfl (wanted_yes rfl rfl rfl) (fun K hK => ?_)
                go_simp
                refine (Free_ (freeL L sv) sv _ _ (L7z.ext hB5) (by omega) (by omega)).mono ?_
                rintro e w6 ⟨v6, rfl, hL6, hb6⟩
                rw [HFF.out] at hL6
                have hB6 := Below.trans hB5 (Below.mono hb6 hB5.size)
                refine hK.out _ _ (Below.trans hb5 (Below.mono hb6 hb5.size)) ?_
                clear hK K
                refine wpPerm_do rfl (wanted_yes rfl rfl rfl) (fun K hK => ?_)
                go_simp
                refine (same_ (freeL L sv) (freeL L sv) _ _ _ hL6 (L7z.ext hB6) (by omega) (by omega)).mono ?_
                rintro e w7 ⟨rfl, hb7⟩
                rw [decide_eq_true rfl]
                have hB7 := Below.trans hB6 (Below.mono hb7 hB6.size)
                refine hK.out _ _ (Below.trans (Below.trans hb5 (Below.mono hb6 hb5.size)) (Below.mono hb7 (Below.trans hb5 (Below.mono hb6 hb5.size)).size)) ?_
                clear hK K
                repeat ((with_reducible show wpPerm _ _ _ _ ((_, true) :: _) _ _); (first | (refine wpPerm_on (v := ?_) rfl rfl (wanted_free rfl) (fun w' hS => ?_) ?_; rotate_left; (focus (go_simp; (try with_reducible rfl); done)); try simp only [List.setIfInBounds_toArray, List.set_cons_zero, List.set_cons_succ]) | (refine wpPerm_on (v := ?_) rfl rfl (wanted_yes rfl rfl rfl) (fun w' hS => ?_) ?_; rotate_left; (focus (go_simp; (try with_reducible rfl); done)); try simp only [List.setIfInBounds_toArray, List.set_cons_zero, List.set_cons_succ]) | (refine wpPerm_off rfl rfl (wanted_no rfl rfl rfl) ?_; try simp only [List.setIfInBounds_toArray, List.set_cons_zero, List.set_cons_succ]) | (refine wpPerm_off rfl rfl (wanted_undef rfl rfl rfl) ?_; try simp only [List.setIfInBounds_toArray, List.set_cons_zero, List.set_cons_succ])))
                refine wpPerm_done ?_
                go_wp2
                go_ret
                exact ⟨rfl, Below.trans hbn (Below.mono hB7 hbn.size)⟩




      · have hd1 : decide ((k : Int) < (n : Int)) = false := by simp; omega
        have qh := hB.cell 0
        have qh' := hB.cell 1
        go_wp2_with fail
        refine (within_ s 8 _ (by omega) (by omega)).mono ?_
        rintro e w2 ⟨rfl, rfl⟩
        generalize wi s 8 = sv at *
        go_wp2_with fail
        refine (Free_ L sv _ _ hL (by have := hW.hl; omega) (by have := hW.wl; omega)).mono ?_
        rintro e w3 ⟨v, rfl, hL3, hb3⟩
        obtain ⟨A3, n3, c3, A4, n4, c4, rfl, hL3⟩ := hL3.parts
        have hBa := hB.ext hb3
        have hLa := hL.ext hb3
        have hb4 := Below.trans hbw (Below.mono hb3 hbw.size)
        clear qh qh' hB hL hb3 hbw
        go_wp2_with fail
        clear hk
        obtain ⟨Wz, hWz, hbz0, C7, B8, hg8⟩ : ∃ Wz, Wz = (w3.alloc (.cells #[.slice A3 n3 c3, .slice A4 n4 c4] 26)).alloc (.cells #[.slice none 0 0, .slice none 0 0] 26) ∧ Below w3.heap.size w3 Wz ∧ Blk Wz w3.heap.size 26 #[.slice A3 n3 c3, .slice A4 n4 c4] ∧
            Blk Wz (w3.heap.size + 1) 26 #[.slice none 0 0, .slice none 0 0] ∧ g < w3.heap.size := ⟨_, rfl, ((Below.refl _ _).alloc (Nat.le_refl _) _).alloc (by simp) _, (Blk.new _ _ _).alloc _, blk_new_at _ _ _ _ (by simp), hBa.lt⟩
        rw [← hWz]
        clear hWz
        have C5 := hBa.ext hbz0
        have L5 := hLa.ext hbz0
        have L7 := hL3.ext hbz0
        have hbz := Below.trans hb4 (Below.mono hbz0 hb4.size)
        have hw7 : w.heap.size ≤ w3.heap.size := hb4.size
        clear hBa hLa hL3 hbz0 hb4
        obtain ⟨g8, hg8e⟩ : ∃ g8, w3.heap.size + 1 = g8 := ⟨_, rfl⟩
        rw [hg8e] at B8 ⊢
        generalize w3.heap.size = g7 at *
        have hg78 : g7 < g8 := by omega
        clear hg8e
        go_loopw [9] (fun i wr => ∃ (j m : Nat) (out : Value), i = .int .i64 j ∧ j ≤ n1 ∧ m ≤ j ∧ Wz.grownBy wr (some g8) ∧ Blk wr g8 26 #[out, .slice none 0 0] ∧ wr.ownsRow Wz.heap.size 30 3 out m (cellsH (woL (L.hs.take j) sv))) (fun i _ => n1 - (intOf i).toNat)
        case atStart => exact ⟨0, 0, _, rfl, Nat.zero_le _, Nat.le_refl _, ⟨rfl, rfl, rfl, Nat.le_refl _, fun _ _ _ => rfl⟩, B8, World.ownsRow_nil _ _ _ _⟩
        case round =>
          obtain ⟨j, n8, out, rfl, hj, hm, gn, E, own⟩ := hrel
          have hinv := L5.inv
          have hlen := hinv.1
          have hl40 : n1 ≤ 40 := by have := hW.hl; omega
          have C := C5.grown gn (by simp; omega)
          have LL := L5.keep B8 (by intro z; simp) gn
          have HLEN := Lib.hid hlen
          have hinv := LL.inv
          clear hlen
          rcases Nat.lt_or_ge j n1 with hlt | hge
          · have hd : decide ((j : Int) < (n1 : Int)) = true := by simp; omega
            have hjn : (j : Int) < (n1 : Int) := by omega
            obtain ⟨x, hx⟩ : ∃ x, L.hs[j]? = some x := ⟨_, List.getElem?_eq_getElem (by rw [HLEN.out]; exact hlt)⟩
            obtain ⟨hb_, rfl, hbl_⟩ := (hinv.2.1).some_ (by rw [HLEN.out]; omega)
            have hq := (hinv.2.1).at_ hx
            have HXS := Lib.hid (woL_snoc L.hs j x sv hx)
            have HAT : Hid (∀ w', Wz.grownBy w' (some g8) → w'.cell? ⟨hb_, j * 3, none⟩ = some (.int .i64 x.s) ∧ w'.cell? ⟨hb_, j * 3 + 1, none⟩ = some (.string x.t) ∧ w'.cell? ⟨hb_, j * 3 + 2, none⟩ = some (.bool x.x)) := Lib.hid (fun w' h => by
              have h9 := (L5.keep B8 (by intro z; simp) h).inv
              exact (h9.2.1).at_ hx)
            clear hx hinv
            obtain ⟨xs, xt, xx⟩ := x
            have qc := C.cell 0
            obtain ⟨p, hp⟩ : ∃ p, (xs != sv) = p := ⟨_, rfl⟩
            have HP := Lib.hid hp
            cases p with
            | false =>
              go_wp2
              go_roundw
              case rel =>
                refine ⟨j + 1, n8, out, by go_num, by omega, by omega, gn, E, ?_⟩
                rw [HXS.out, if_neg (by rw [HP.out]; decide)]
                exact own
              case measure => simp [intOf]; omega
            | true =>
              go_wp2_with fail
              clear hp hq qc
              obtain ⟨A8, c8, rfl⟩ := own_slice own
              have D := fun w' (h : Wz.grownBy w' (some g8)) => (show w'.cell? ⟨g, 0, none⟩ = some (.slice (some ⟨hb_, 0, none⟩) n1 c1) ∧ w'.cell? ⟨hb_, j * 3, none⟩ = some (.int .i64 xs) ∧ w'.cell? ⟨hb_, j * 3 + 1, none⟩ = some (.string xt) ∧ w'.cell? ⟨hb_, j * 3 + 2, none⟩ = some (.bool xx) from ⟨(C5.grown h (by simp; omega)).cell 0, HAT.out w' h⟩)
              have gnd : Wz.grownBy wr.drew (some g8) := ⟨gn.os, gn.tape, gn.output, gn.size, gn.block⟩
              refine wp_region_tree (S := fun w' => Wz.grownBy w' (some g8)) (.take 0 (.take 2 (.take 3 (.take 4 (.take 5 (.take 6 (.two 1 7 (.one 7 (.one 8 (.take 9 (.one 10 .nil)))) (.one 1 (.one 8 (.take 9 (.one 10 .nil)))))))))))
                (by kernel_rfl) (by kernel_rfl) (by kernel_rfl) (by decide) (by intro c a d v w h; cases d <;> exact h) gnd ?_
              repeat ((with_reducible show wpTree _ _ _ _ (.take _ _) _ _); (first | (refine wpTree_on (v := ?_) rfl rfl (wanted_free rfl) (fun w' hS => ?_) ?_; rotate_left; (focus (go_simp; (try with_reducible rfl); done)); try simp only [List.setIfInBounds_toArray, List.set_cons_zero, List.set_cons_succ]) | (refine wpTree_on (v := ?_) rfl rfl (wanted_yes rfl rfl rfl) (fun w' hS => ?_) ?_; rotate_left; (focus (go_simp; (try with_reducible rfl); done)); try simp only [List.setIfInBounds_toArray, List.set_cons_zero, List.set_cons_succ]) | (refine wpTree_off rfl rfl (wanted_no rfl rfl rfl) ?_; try simp only [List.setIfInBounds_toArray, List.set_cons_zero, List.set_cons_succ]) | (refine wpTree_off rfl rfl (wanted_undef rfl rfl rfl) ?_; try simp only [List.setIfInBounds_toArray, List.set_cons_zero, List.set_cons_succ])))
              clear D
              have gnA0 : Wz.grownBy (wr.alloc (.cells #[.int .i64 xs, .string xt, .bool xx] 30)) (some g8) := gn.andThen (World.grownBy_alloc _ _ none) (fun k hk => by cases hk)
              have gnA : Wz.grownBy (wr.alloc (.cells #[.int .i64 xs, .string xt, .bool xx] 30)).drew (some g8) := ⟨gnA0.os, gnA0.tape, gnA0.output, gnA0.size, gnA0.block⟩
              have BA := Blk.drew (E.alloc (.cells #[.int .i64 xs, .string xt, .bool xx] 30))
              have ownA := own_ext (own.alloc (.cells #[.int .i64 xs, .string xt, .bool xx] 30)) (Below.refl _ _).drew
              have X1 : Blk (wr.alloc (.cells #[.int .i64 xs, .string xt, .bool xx] 30)).drew wr.heap.size 30 #[.int .i64 xs, .string xt, .bool xx] := Blk.drew (Blk.new wr _ _)
              refine wpTree_both rfl (wanted_free rfl) rfl (wanted_free rfl) (fun K hK => ?_) (fun K hK => ?_)
              · have q8 := (Blk.drew E).cell 0
                go_simp
                refine hK.out _ _ gnd ?_
                clear hK K q8
                refine wpTree_do rfl (wanted_free rfl) (fun K hK => ?_); go_simp
                refine hK.out _ _ gnA ?_
                clear hK K
                obtain ⟨i0, hi, hz0, hz1, hz2⟩ := info_parts (P := Try.prog) (e := 30) (z := .agg #[.int .i64 0, .string ⟨#[]⟩, .bool false]) (size := 3) (bytes := 32) (by kernel_rfl)
                refine wpTree_do rfl (wanted_free rfl) (fun K hK => ?_)
                refine wp_append_own _ (.tmp 55) (.tmp 61) 24 rfl Wz.heap.size 30 i0 _ 3 32 Try.underlying24 hi hz0 hz1 hz2 rfl (by decide) _ n8 (cellsH (woL (L.hs.take j) sv)) rfl ownA ⟨wr.heap.size, 0, none⟩ 1 1
                  [.int .i64 xs, .string xt, .bool xx] rfl rfl (three_at X1) (by intro u hu; simp at hu; rcases hu with rfl | rfl | rfl <;> rfl) (by unfold maxLen; omega) (by omega) gnA.size (fun v' w5 h2 h3 h4 => ?_)
                obtain ⟨gv, cv, rfl, hgv, hgv2⟩ := h2.form (by omega)
                clear h4
                have hlo := fun k hk => (ownA.lt k hk).1
                have D8 := BA.grown h3 (own_ne_h ownA BA (by decide))
                have gn5 : Wz.grownBy w5 (some g8) := gnA.andThen h3 (fun k hk => .inl (hlo k hk))
                refine hK.out _ _ gn5 ?_
                clear hK K
                repeat ((with_reducible show wpTree _ _ _ _ (.take _ _) _ _); (first | (refine wpTree_on (v := ?_) rfl rfl (wanted_free rfl) (fun w' hS => ?_) ?_; rotate_left; (focus (go_simp; (try with_reducible rfl); done)); try simp only [List.setIfInBounds_toArray, List.set_cons_zero, List.set_cons_succ]) | (refine wpTree_on (v := ?_) rfl rfl (wanted_yes rfl rfl rfl) (fun w' hS => ?_) ?_; rotate_left; (focus (go_simp; (try with_reducible rfl); done)); try simp only [List.setIfInBounds_toArray, List.set_cons_zero, List.set_cons_succ]) | (refine wpTree_off rfl rfl (wanted_no rfl rfl rfl) ?_; try simp only [List.setIfInBounds_toArray, List.set_cons_zero, List.set_cons_succ]) | (refine wpTree_off rfl rfl (wanted_undef rfl rfl rfl) ?_; try simp only [List.setIfInBounds_toArray, List.set_cons_zero, List.set_cons_succ])))
                have f0 := D8.frozen 0
                have q0 := D8.cell 0
                refine wpTree_do rfl (wanted_free rfl) (fun K hK => ?_); go_simp
                clear f0 q0
                obtain ⟨w6, hw6, E8, hlow, hgr⟩ := Blk.set0' D8 (.slice (some ⟨gv, 0, none⟩) (n8 + 1) cv)
                rw [← hw6]
                clear hw6
                have gn6 := World.grownBy.trans gn5 hgr
                have own6 := own_far h2 D8 hgr
                refine hK.out _ _ gn6 (wpTree_end ?_)
                clear hK K
                go_wp2
                go_roundw
                case rel =>
                  refine ⟨j + 1, n8 + 1, _, by go_num, by omega, by omega, gn6, E8, ?_⟩
                  rw [HXS.out, if_pos HP.out, cellsH_append, cellsH_one]
                  exact own6
                case measure => simp [intOf]; omega

              · go_simp
                refine hK.out _ _ gnA ?_
                clear hK K
                have q8 := BA.cell 0
                refine wpTree_do rfl (wanted_free rfl) (fun K hK => ?_); go_simp
                refine hK.out _ _ gnA ?_
                clear hK K q8
                obtain ⟨i0, hi, hz0, hz1, hz2⟩ := info_parts (P := Try.prog) (e := 30) (z := .agg #[.int .i64 0, .string ⟨#[]⟩, .bool false]) (size := 3) (bytes := 32) (by kernel_rfl)
                refine wpTree_do rfl (wanted_free rfl) (fun K hK => ?_)
                refine wp_append_own _ (.tmp 55) (.tmp 61) 24 rfl Wz.heap.size 30 i0 _ 3 32 Try.underlying24 hi hz0 hz1 hz2 rfl (by decide) _ n8 (cellsH (woL (L.hs.take j) sv)) rfl ownA ⟨wr.heap.size, 0, none⟩ 1 1
                  [.int .i64 xs, .string xt, .bool xx] rfl rfl (three_at X1) (by intro u hu; simp at hu; rcases hu with rfl | rfl | rfl <;> rfl) (by unfold maxLen; omega) (by omega) gnA.size (fun v' w5 h2 h3 h4 => ?_)
                obtain ⟨gv, cv, rfl, hgv, hgv2⟩ := h2.form (by omega)
                clear h4
                have hlo := fun k hk => (ownA.lt k hk).1
                have D8 := BA.grown h3 (own_ne_h ownA BA (by decide))
                have gn5 : Wz.grownBy w5 (some g8) := gnA.andThen h3 (fun k hk => .inl (hlo k hk))
                refine hK.out _ _ gn5 ?_
                clear hK K
                repeat ((with_reducible show wpTree _ _ _ _ (.take _ _) _ _); (first | (refine wpTree_on (v := ?_) rfl rfl (wanted_free rfl) (fun w' hS => ?_) ?_; rotate_left; (focus (go_simp; (try with_reducible rfl); done)); try simp only [List.setIfInBounds_toArray, List.set_cons_zero, List.set_cons_succ]) | (refine wpTree_on (v := ?_) rfl rfl (wanted_yes rfl rfl rfl) (fun w' hS => ?_) ?_; rotate_left; (focus (go_simp; (try with_reducible rfl); done)); try simp only [List.setIfInBounds_toArray, List.set_cons_zero, List.set_cons_succ]) | (refine wpTree_off rfl rfl (wanted_no rfl rfl rfl) ?_; try simp only [List.setIfInBounds_toArray, List.set_cons_zero, List.set_cons_succ]) | (refine wpTree_off rfl rfl (wanted_undef rfl rfl rfl) ?_; try simp only [List.setIfInBounds_toArray, List.set_cons_zero, List.set_cons_succ])))
                have f0 := D8.frozen 0
                have q0 := D8.cell 0
                refine wpTree_do rfl (wanted_free rfl) (fun K hK => ?_); go_simp
                clear f0 q0
                obtain ⟨w6, hw6, E8, hlow, hgr⟩ := Blk.set0' D8 (.slice (some ⟨gv, 0, none⟩) (n8 + 1) cv)
                rw [← hw6]
                clear hw6
                have gn6 := World.grownBy.trans gn5 hgr
                have own6 := own_far h2 D8 hgr
                refine hK.out _ _ gn6 (wpTree_end ?_)
                clear hK K
                go_wp2
                go_roundw
                case rel =>
                  refine ⟨j + 1, n8 + 1, _, by go_num, by omega, by omega, gn6, E8, ?_⟩
                  rw [HXS.out, if_pos HP.out, cellsH_append, cellsH_one]
                  exact own6
                case measure => simp [intOf]; omega

          · have hd : decide ((j : Int) < (n1 : Int)) = false := by simp; omega
            have hjn : j = n1 := by omega
            have htk : L.hs.take j = L.hs := List.take_of_length_le (by rw [HLEN.out, hjn]; exact Nat.le_refl _)
            rw [htk] at own
            clear htk hjn hinv HLEN
            have qc := C.cell 0
            obtain ⟨A8, c8, rfl⟩ := own_slice own
            go_wp2_with fail
            have hdf : decide (j < n1) = false := by simp; omega
            rw [hdf]
            clear hdf
            have HsH := hs_of_own own
            have hmH : (woL L.hs sv).length = n8 := by
              have := own.1
              rw [cellsH_len] at this
              omega
            have HMH := Lib.hid hmH
            have C5n := C
            have L5n := LL
            have C7n := C7.grown gn (by simp; omega)
            have L7n := L7.keep B8 (by intro z; simp) gn
            have hbn : Below w.heap.size w wr := hbz.grown gn hbz.size (fun k hk => by injection hk with hk; omega)
            have E8 := E
            obtain ⟨Wy, hWy⟩ : ∃ Wy, wr = Wy := ⟨_, rfl⟩
            rw [hWy] at C5n L5n C7n L7n hbn E8 HsH ⊢
            clear hmH hd qc C5 C7 L7 hbz own gn C LL B8 E hWy hge hj
            have C5 := C5n
            have L5 := L5n
            have C7 := C7n
            have L7 := L7n
            have B8 := E8
            have hbz := hbn
            clear C5n L5n C7n L7n E8 hbn
            go_loopw [10] (fun i wr => ∃ (j m : Nat) (out : Value), i = .int .i64 j ∧ j ≤ n2 ∧ m ≤ j ∧ Wy.grownBy wr (some g8) ∧ Blk wr g8 26 #[.slice A8 n8 c8, out] ∧ wr.ownsRow Wy.heap.size 30 3 out m (cellsH (woL (L.ws.take j) sv))) (fun i _ => n2 - (intOf i).toNat)
            case atStart => exact ⟨0, 0, _, rfl, Nat.zero_le _, Nat.le_refl _, ⟨rfl, rfl, rfl, Nat.le_refl _, fun _ _ _ => rfl⟩, B8, World.ownsRow_nil _ _ _ _⟩
            case round =>
              obtain ⟨j, m, out, rfl, hj, hm, gn, E, own⟩ := hrel
              have hinv := L5.inv
              have hlen := hinv.2.2.1
              have hl40 : n2 ≤ 40 := by have := hW.wl; omega
              have C := C5.grown gn (by simp; omega)
              have LL := L5.keep B8 (by intro z; simp) gn
              have HLEN := Lib.hid hlen
              have hinv := LL.inv
              clear hlen
              rcases Nat.lt_or_ge j n2 with hlt | hge
              · have hd : decide ((j : Int) < (n2 : Int)) = true := by simp; omega
                have hjn : (j : Int) < (n2 : Int) := by omega
                obtain ⟨x, hx⟩ : ∃ x, L.ws[j]? = some x := ⟨_, List.getElem?_eq_getElem (by rw [HLEN.out]; exact hlt)⟩
                obtain ⟨hb_, rfl, hbl_⟩ := (hinv.2.2.2).some_ (by rw [HLEN.out]; omega)
                have hq := (hinv.2.2.2).at_ hx
                have HXS := Lib.hid (woL_snoc L.ws j x sv hx)
                have HAT : Hid (∀ w', Wy.grownBy w' (some g8) → w'.cell? ⟨hb_, j * 3, none⟩ = some (.int .i64 x.s) ∧ w'.cell? ⟨hb_, j * 3 + 1, none⟩ = some (.string x.t) ∧ w'.cell? ⟨hb_, j * 3 + 2, none⟩ = some (.bool x.x)) := Lib.hid (fun w' h => by
                  have h9 := (L5.keep B8 (by intro z; simp) h).inv
                  exact (h9.2.2.2).at_ hx)
                clear hx hinv
                obtain ⟨xs, xt, xx⟩ := x
                have qc := C.cell 1
                obtain ⟨p, hp⟩ : ∃ p, (xs != sv) = p := ⟨_, rfl⟩
                have HP := Lib.hid hp
                cases p with
                | false =>
                  go_wp2
                  go_roundw
                  case rel =>
                    refine ⟨j + 1, m, out, by go_num, by omega, by omega, gn, E, ?_⟩
                    rw [HXS.out, if_neg (by rw [HP.out]; decide)]
                    exact own
                  case measure => simp [intOf]; omega
                | true =>
                  go_wp2_with fail
                  clear hp hq qc
                  obtain ⟨AO, cO, rfl⟩ := own_slice own
                  have D := fun w' (h : Wy.grownBy w' (some g8)) => (show w'.cell? ⟨g, 1, none⟩ = some (.slice (some ⟨hb_, 0, none⟩) n2 c2) ∧ w'.cell? ⟨hb_, j * 3, none⟩ = some (.int .i64 xs) ∧ w'.cell? ⟨hb_, j * 3 + 1, none⟩ = some (.string xt) ∧ w'.cell? ⟨hb_, j * 3 + 2, none⟩ = some (.bool xx) from ⟨(C5.grown h (by simp; omega)).cell 1, HAT.out w' h⟩)
                  have gnd : Wy.grownBy wr.drew (some g8) := ⟨gn.os, gn.tape, gn.output, gn.size, gn.block⟩
                  refine wp_region_tree (S := fun w' => Wy.grownBy w' (some g8)) (.take 0 (.take 2 (.take 3 (.take 4 (.take 5 (.take 6 (.two 1 7 (.one 7 (.one 8 (.take 9 (.one 10 .nil)))) (.one 1 (.one 8 (.take 9 (.one 10 .nil)))))))))))
                    (by kernel_rfl) (by kernel_rfl) (by kernel_rfl) (by decide) (by intro c a d v w h; cases d <;> exact h) gnd ?_
                  repeat ((with_reducible show wpTree _ _ _ _ (.take _ _) _ _); (first | (refine wpTree_on (v := ?_) rfl rfl (wanted_free rfl) (fun w' hS => ?_) ?_; rotate_left; (focus (go_simp; (try with_reducible rfl); done)); try simp only [List.setIfInBounds_toArray, List.set_cons_zero, List.set_cons_succ]) | (refine wpTree_on (v := ?_) rfl rfl (wanted_yes rfl rfl rfl) (fun w' hS => ?_) ?_; rotate_left; (focus (go_simp; (try with_reducible rfl); done)); try simp only [List.setIfInBounds_toArray, List.set_cons_zero, List.set_cons_succ]) | (refine wpTree_off rfl rfl (wanted_no rfl rfl rfl) ?_; try simp only [List.setIfInBounds_toArray, List.set_cons_zero, List.set_cons_succ]) | (refine wpTree_off rfl rfl (wanted_undef rfl rfl rfl) ?_; try simp only [List.setIfInBounds_toArray, List.set_cons_zero, List.set_cons_succ])))
                  clear D
                  have gnA0 : Wy.grownBy (wr.alloc (.cells #[.int .i64 xs, .string xt, .bool xx] 30)) (some g8) := gn.andThen (World.grownBy_alloc _ _ none) (fun k hk => by cases hk)
                  have gnA : Wy.grownBy (wr.alloc (.cells #[.int .i64 xs, .string xt, .bool xx] 30)).drew (some g8) := ⟨gnA0.os, gnA0.tape, gnA0.output, gnA0.size, gnA0.block⟩
                  have BA := Blk.drew (E.alloc (.cells #[.int .i64 xs, .string xt, .bool xx] 30))
                  have ownA := own_ext (own.alloc (.cells #[.int .i64 xs, .string xt, .bool xx] 30)) (Below.refl _ _).drew
                  have X1 : Blk (wr.alloc (.cells #[.int .i64 xs, .string xt, .bool xx] 30)).drew wr.heap.size 30 #[.int .i64 xs, .string xt, .bool xx] := Blk.drew (Blk.new wr _ _)
                  refine wpTree_both rfl (wanted_free rfl) rfl (wanted_free rfl) (fun K hK => ?_) (fun K hK => ?_)
                  · have q8 := (Blk.drew E).cell 1
                    go_simp
                    refine hK.out _ _ gnd ?_
                    clear hK K q8
                    refine wpTree_do rfl (wanted_free rfl) (fun K hK => ?_); go_simp
                    refine hK.out _ _ gnA ?_
                    clear hK K
                    obtain ⟨i0, hi, hz0, hz1, hz2⟩ := info_parts (P := Try.prog) (e := 30) (z := .agg #[.int .i64 0, .string ⟨#[]⟩, .bool false]) (size := 3) (bytes := 32) (by kernel_rfl)
                    refine wpTree_do rfl (wanted_free rfl) (fun K hK => ?_)
                    refine wp_append_own _ (.tmp 80) (.tmp 86) 24 rfl Wy.heap.size 30 i0 _ 3 32 Try.underlying24 hi hz0 hz1 hz2 rfl (by decide) _ m (cellsH (woL (L.ws.take j) sv)) rfl ownA ⟨wr.heap.size, 0, none⟩ 1 1
                      [.int .i64 xs, .string xt, .bool xx] rfl rfl (three_at X1) (by intro u hu; simp at hu; rcases hu with rfl | rfl | rfl <;> rfl) (by unfold maxLen; omega) (by omega) gnA.size (fun v' w5 h2 h3 h4 => ?_)
                    obtain ⟨gv, cv, rfl, hgv, hgv2⟩ := h2.form (by omega)
                    clear h4
                    have hlo := fun k hk => (ownA.lt k hk).1
                    have D8 := BA.grown h3 (own_ne_h ownA BA (by decide))
                    have gn5 : Wy.grownBy w5 (some g8) := gnA.andThen h3 (fun k hk => .inl (hlo k hk))
                    refine hK.out _ _ gn5 ?_
                    clear hK K
                    repeat ((with_reducible show wpTree _ _ _ _ (.take _ _) _ _); (first | (refine wpTree_on (v := ?_) rfl rfl (wanted_free rfl) (fun w' hS => ?_) ?_; rotate_left; (focus (go_simp; (try with_reducible rfl); done)); try simp only [List.setIfInBounds_toArray, List.set_cons_zero, List.set_cons_succ]) | (refine wpTree_on (v := ?_) rfl rfl (wanted_yes rfl rfl rfl) (fun w' hS => ?_) ?_; rotate_left; (focus (go_simp; (try with_reducible rfl); done)); try simp only [List.setIfInBounds_toArray, List.set_cons_zero, List.set_cons_succ]) | (refine wpTree_off rfl rfl (wanted_no rfl rfl rfl) ?_; try simp only [List.setIfInBounds_toArray, List.set_cons_zero, List.set_cons_succ]) | (refine wpTree_off rfl rfl (wanted_undef rfl rfl rfl) ?_; try simp only [List.setIfInBounds_toArray, List.set_cons_zero, List.set_cons_succ])))
                    have f0 := D8.frozen 1
                    have q0 := D8.cell 1
                    refine wpTree_do rfl (wanted_free rfl) (fun K hK => ?_); go_simp
                    clear f0 q0
                    obtain ⟨w6, hw6, E8, hlow, hgr⟩ := Blk.set1' D8 (.slice (some ⟨gv, 0, none⟩) (m + 1) cv)
                    rw [← hw6]
                    clear hw6
                    have gn6 := World.grownBy.trans gn5 hgr
                    have own6 := own_far h2 D8 hgr
                    refine hK.out _ _ gn6 (wpTree_end ?_)
                    clear hK K
                    go_wp2
                    go_roundw
                    case rel =>
                      refine ⟨j + 1, m + 1, _, by go_num, by omega, by omega, gn6, E8, ?_⟩
                      rw [HXS.out, if_pos HP.out, cellsH_append, cellsH_one]
                      exact own6
                    case measure => simp [intOf]; omega

                  · go_simp
                    refine hK.out _ _ gnA ?_
                    clear hK K
                    have q8 := BA.cell 1
                    refine wpTree_do rfl (wanted_free rfl) (fun K hK => ?_); go_simp
                    refine hK.out _ _ gnA ?_
                    clear hK K q8
                    obtain ⟨i0, hi, hz0, hz1, hz2⟩ := info_parts (P := Try.prog) (e := 30) (z := .agg #[.int .i64 0, .string ⟨#[]⟩, .bool false]) (size := 3) (bytes := 32) (by kernel_rfl)
                    refine wpTree_do rfl (wanted_free rfl) (fun K hK => ?_)
                    refine wp_append_own _ (.tmp 80) (.tmp 86) 24 rfl Wy.heap.size 30 i0 _ 3 32 Try.underlying24 hi hz0 hz1 hz2 rfl (by decide) _ m (cellsH (woL (L.ws.take j) sv)) rfl ownA ⟨wr.heap.size, 0, none⟩ 1 1
                      [.int .i64 xs, .string xt, .bool xx] rfl rfl (three_at X1) (by intro u hu; simp at hu; rcases hu with rfl | rfl | rfl <;> rfl) (by unfold maxLen; omega) (by omega) gnA.size (fun v' w5 h2 h3 h4 => ?_)
                    obtain ⟨gv, cv, rfl, hgv, hgv2⟩ := h2.form (by omega)
                    clear h4
                    have hlo := fun k hk => (ownA.lt k hk).1
                    have D8 := BA.grown h3 (own_ne_h ownA BA (by decide))
                    have gn5 : Wy.grownBy w5 (some g8) := gnA.andThen h3 (fun k hk => .inl (hlo k hk))
                    refine hK.out _ _ gn5 ?_
                    clear hK K
                    repeat ((with_reducible show wpTree _ _ _ _ (.take _ _) _ _); (first | (refine wpTree_on (v := ?_) rfl rfl (wanted_free rfl) (fun w' hS => ?_) ?_; rotate_left; (focus (go_simp; (try with_reducible rfl); done)); try simp only [List.setIfInBounds_toArray, List.set_cons_zero, List.set_cons_succ]) | (refine wpTree_on (v := ?_) rfl rfl (wanted_yes rfl rfl rfl) (fun w' hS => ?_) ?_; rotate_left; (focus (go_simp; (try with_reducible rfl); done)); try simp only [List.setIfInBounds_toArray, List.set_cons_zero, List.set_cons_succ]) | (refine wpTree_off rfl rfl (wanted_no rfl rfl rfl) ?_; try simp only [List.setIfInBounds_toArray, List.set_cons_zero, List.set_cons_succ]) | (refine wpTree_off rfl rfl (wanted_undef rfl rfl rfl) ?_; try simp only [List.setIfInBounds_toArray, List.set_cons_zero, List.set_cons_succ])))
                    have f0 := D8.frozen 1
                    have q0 := D8.cell 1
                    refine wpTree_do rfl (wanted_free rfl) (fun K hK => ?_); go_simp
                    clear f0 q0
                    obtain ⟨w6, hw6, E8, hlow, hgr⟩ := Blk.set1' D8 (.slice (some ⟨gv, 0, none⟩) (m + 1) cv)
                    rw [← hw6]
                    clear hw6
                    have gn6 := World.grownBy.trans gn5 hgr
                    have own6 := own_far h2 D8 hgr
                    refine hK.out _ _ gn6 (wpTree_end ?_)
                    clear hK K
                    go_wp2
                    go_roundw
                    case rel =>
                      refine ⟨j + 1, m + 1, _, by go_num, by omega, by omega, gn6, E8, ?_⟩
                      rw [HXS.out, if_pos HP.out, cellsH_append, cellsH_one]
                      exact own6
                    case measure => simp [intOf]; omega

              · have hd : decide ((j : Int) < (n2 : Int)) = false := by simp; omega
                have hjn : j = n2 := by omega
                have htk : L.ws.take j = L.ws := List.take_of_length_le (by rw [HLEN.out, hjn]; exact Nat.le_refl _)
                rw [htk] at own
                clear htk hjn hinv HLEN
                have qc := C.cell 1
                obtain ⟨AO, cO, rfl⟩ := own_slice own
                have hmW : (woL L.ws sv).length = m := by
                  have := own.1
                  rw [cellsH_len] at this
                  omega
                have C7z := C7.grown gn (by simp; omega)
                have L7z := L7.keep B8 (by intro z; simp) gn
                have hbn : Below w.heap.size w wr := hbz.grown gn hbz.size (fun k hk => by injection hk with hk; omega)
                have HsW := hs_of_own own
                have HsH2 := HsH.keep B8 (by intro z; simp) gn
                have L8 : LkR wr (.agg #[.slice A8 n8 c8, .slice AO m cO]) (freeL L sv) := ⟨_, _, _, _, _, _, rfl, HMH.out, HsH2, hmW, HsW⟩
                have hlF : (freeL L sv).hs.length ≤ 90000 ∧ (freeL L sv).ws.length ≤ 90000 := ⟨Nat.le_trans (woL_len _ _) (by have := hW.hl; omega), Nat.le_trans (woL_len _ _) (by have := hW.wl; omega)⟩
                have hff : freeL (freeL L sv) sv = freeL L sv := by
                  unfold freeL
                  simp only [woL_woL]
                have HFF := Lib.hid hff
                clear hmW HsW HsH2 hff
                go_wp2_with fail
                have D := fun w' (h : Below wr.heap.size wr.drew w') => (show w'.cell? ⟨g7, 0, none⟩ = some (.slice A3 n3 c3) ∧ w'.cell? ⟨g7, 1, none⟩ = some (.slice A4 n4 c4) ∧ w'.cell? ⟨g8, 0, none⟩ = some (.slice A8 n8 c8) ∧ w'.cell? ⟨g8, 1, none⟩ = some (.slice AO m cO) from
                  ⟨(C7z.ext (Below.trans (Below.refl _ _).drew h)).cell 0, (C7z.ext (Below.trans (Below.refl _ _).drew h)).cell 1, (E.ext (Below.trans (Below.refl _ _).drew h)).cell 0, (E.ext (Below.trans (Below.refl _ _).drew h)).cell 1⟩)
                refine wp_region_one [(0, true), (1, true), (2, false), (3, true), (4, true), (5, true), (7, true), (6, false), (8, false), (9, true), (10, true)] (by kernel_rfl) (by kernel_rfl) (by kernel_rfl) (by decide) ?_
                repeat ((with_reducible show wpPerm _ _ _ _ ((_, true) :: _) _ _); (first | (refine wpPerm_on (v := ?_) rfl rfl (wanted_free rfl) (fun w' hS => ?_) ?_; rotate_left; (focus (go_simp; (try with_reducible rfl); done)); try simp only [List.setIfInBounds_toArray, List.set_cons_zero, List.set_cons_succ]) | (refine wpPerm_on (v := ?_) rfl rfl (wanted_yes rfl rfl rfl) (fun w' hS => ?_) ?_; rotate_left; (focus (go_simp; (try with_reducible rfl); done)); try simp only [List.setIfInBounds_toArray, List.set_cons_zero, List.set_cons_succ]) | (refine wpPerm_off rfl rfl (wanted_no rfl rfl rfl) ?_; try simp only [List.setIfInBounds_toArray, List.set_cons_zero, List.set_cons_succ]) | (refine wpPerm_off rfl rfl (wanted_undef rfl rfl rfl) ?_; try simp only [List.setIfInBounds_toArray, List.set_cons_zero, List.set_cons_succ])))
                refine wpPerm_do rfl (wanted_free rfl) (fun K hK => ?_); go_simp
                refine (same_ (freeL L sv) (freeL L sv) _ _ _ (L7z.ext (Below.refl _ _).drew) (L8.ext (Below.refl _ _).drew) (by omega) (by omega)).mono ?_
                rintro e w5 ⟨rfl, hb5⟩
                rw [decide_eq_true rfl]
                refine hK.out _ _ hb5 ?_
                clear hK K
                have hB5 := Below.trans (Below.refl wr.heap.size wr).drew hb5
                repeat ((with_reducible show wpPerm _ _ _ _ ((_, true) :: _) _ _); (first | (refine wpPerm_on (v := ?_) rfl rfl (wanted_free rfl) (fun w' hS => ?_) ?_; rotate_left; (focus (go_simp; (try with_reducible rfl); done)); try simp only [List.setIfInBounds_toArray, List.set_cons_zero, List.set_cons_succ]) | (refine wpPerm_on (v := ?_) rfl rfl (wanted_yes rfl rfl rfl) (fun w' hS => ?_) ?_; rotate_left; (focus (go_simp; (try with_reducible rfl); done)); try simp only [List.setIfInBounds_toArray, List.set_cons_zero, List.set_cons_succ]) | (refine wpPerm_off rfl rfl (wanted_no rfl rfl rfl) ?_; try simp only [List.setIfInBounds_toArray, List.set_cons_zero, List.set_cons_succ]) | (refine wpPerm_off rfl rfl (wanted_undef rfl rfl rfl) ?_; try simp only [List.setIfInBounds_toArray, List.set_cons_zero, List.set_cons_succ])))
                refine wpPerm_do rfl (wanted_yes rfl rfl rfl) (fun K hK => ?_)
                go_simp
                refine (Free_ (freeL L sv) sv _ _ (L7z.ext hB5) (by omega) (by omega)).mono ?_
                rintro e w6 ⟨v6, rfl, hL6, hb6⟩
                rw [HFF.out] at hL6
                have hB6 := Below.trans hB5 (Below.mono hb6 hB5.size)
                refine hK.out _ _ (Below.trans hb5 (Below.mono hb6 hb5.size)) ?_
                clear hK K
                refine wpPerm_do rfl (wanted_yes rfl rfl rfl) (fun K hK => ?_)
                go_simp
                refine (same_ (freeL L sv) (freeL L sv) _ _ _ hL6 (L7z.ext hB6) (by omega) (by omega)).mono ?_
                rintro e w7 ⟨rfl, hb7⟩
                rw [decide_eq_true rfl]
                have hB7 := Below.trans hB6 (Below.mono hb7 hB6.size)
                refine hK.out _ _ (Below.trans (Below.trans hb5 (Below.mono hb6 hb5.size)) (Below.mono hb7 (Below.trans hb5 (Below.mono hb6 hb5.size)).size)) ?_
                clear hK K
                repeat ((with_reducible show wpPerm _ _ _ _ ((_, true) :: _) _ _); (first | (refine wpPerm_on (v := ?_) rfl rfl (wanted_free rfl) (fun w' hS => ?_) ?_; rotate_left; (focus (go_simp; (try with_reducible rfl); done)); try simp only [List.setIfInBounds_toArray, List.set_cons_zero, List.set_cons_succ]) | (refine wpPerm_on (v := ?_) rfl rfl (wanted_yes rfl rfl rfl) (fun w' hS => ?_) ?_; rotate_left; (focus (go_simp; (try with_reducible rfl); done)); try simp only [List.setIfInBounds_toArray, List.set_cons_zero, List.set_cons_succ]) | (refine wpPerm_off rfl rfl (wanted_no rfl rfl rfl) ?_; try simp only [List.setIfInBounds_toArray, List.set_cons_zero, List.set_cons_succ]) | (refine wpPerm_off rfl rfl (wanted_undef rfl rfl rfl) ?_; try simp only [List.setIfInBounds_toArray, List.set_cons_zero, List.set_cons_succ])))
                refine wpPerm_done ?_
                go_wp2
                go_ret
                exact ⟨rfl, Below.trans hbn (Below.mono hB7 hbn.size)⟩




end Go.Proofs.Ytlfonenjgchklaa.lk
