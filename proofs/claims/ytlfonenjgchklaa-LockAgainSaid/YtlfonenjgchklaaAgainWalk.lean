/- LockAgain: the walk. Printed by genagain.py. -/
import Derived.Test.YtlfonenjgchklaaSame
import Derived.Test.YtlfonenjgchklaaAp
import Derived.Test.YtlfonenjgchklaaT
import Derived.Test.YtlfonenjgchklaaAf
import Derived.Laws.StructEq
import Derived.Test.YtlfonenjgchklaaRf2
import Derived.Test.YtlfonenjgchklaaRf3
import Derived.Deep.AppendLies
namespace Go.Proofs.Ytlfonenjgchklaa.lk
open Go.ChangeShapes Go.WideShapes Go.ChangeAt Go.RowKit Go.Proofs.Ytlfonenjgchklaa.lib
set_option linter.unusedVariables false

set_option maxHeartbeats 4000000 in
set_option maxRecDepth 1000000 in
theorem again_walk (A : Option Addr) (n c : Nat) (l : List Ac) (s : Int) (w : World) (hl : l.length = n) (hn : n ≤ maxLen) (hI : Acts w A l) :
    Calls Try.prog 9 #[.slice A n c, .int .i64 s] w fun e W' => e = .returned (.bool true) ∧ Below w.heap.size w W' := by
  have HL := Lib.hid hl
  unfold maxLen at hn
  clear hl
  go_enter Try.func9, Try.ntmps9
  go_wp2_with fail
  refine (known_ _).mono ?_
  rintro e w1 ⟨rfl, hb1⟩
  go_wp2_with fail
  obtain ⟨W, hW_, hbW1, B0⟩ : ∃ W_, W_ = (w1.alloc (.cells #[.slice none 0 0, .slice none 0 0] 26)) ∧ Below w1.heap.size w1 W_ ∧ Blk W_ (w1.heap.size) 26 #[.slice none 0 0, .slice none 0 0] :=
    ⟨_, rfl, ((Below.refl _ _).alloc (Nat.le_refl _) _), (blk_new_at w1 (w1.heap.size) _ _ (by simp))⟩
  rw [← hW_]
  clear hW_
  have hbW := Below.trans hb1 (Below.mono hbW1 hb1.size)
  have hV0 : Va W w1.heap.size ⟨[], []⟩ := ⟨_, _, _, _, _, _, B0, LkR.none W⟩
  have hgw : w.heap.size ≤ w1.heap.size := hb1.size
  clear hbW1 hb1 B0
  generalize w1.heap.size = g at *
  go_loopw [6] (fun i wr => ∃ (k : Nat) (L : Lk), i = .int .i64 k ∧ k ≤ n ∧ k ≤ 40 ∧ Va wr g L ∧ Wf k L ∧ Apart L.hs ∧ Below w.heap.size w wr) (fun i _ => n - (intOf i).toNat)
  case atStart => exact ⟨0, ⟨[], []⟩, rfl, Nat.zero_le _, Nat.zero_le _, hV0, Wf.nil 0, List.Pairwise.nil, hbW⟩
  case round =>
    obtain ⟨k, L, rfl, hk, hk40, hV, hW, hap, hbw⟩ := hrel
    clear hV0 hbW
    obtain ⟨A1, n1, c1, A2, n2, c2, hB, hL⟩ := hV
    by_cases hgo : k < n ∧ k < 40
    · have hd1 : decide ((k : Int) < (n : Int)) = true := by simp; omega
      have hd2 : decide ((k : Int) < 40) = true := by simp; omega
      have hkn : (k : Int) < (n : Int) := by omega
      obtain ⟨x, hx⟩ : ∃ x, l[k]? = some x := ⟨_, List.getElem?_eq_getElem (by rw [HL.out]; exact hgo.1)⟩
      obtain ⟨ab, ao, rfl, hab, hac⟩ := hI (by rw [HL.out]; omega)
      have qa := hac k x hx
      clear hx hac
      go_wp2_with fail
      have D := fun w' (h : Below w.heap.size w w') => (show w'.cell? ⟨ab, ao + k * 4, none⟩ = some (.int .i64 x.k) ∧ w'.cell? ⟨ab, ao + k * 4 + 1, none⟩ = some (.int .i64 x.s) ∧ w'.cell? ⟨ab, ao + k * 4 + 2, none⟩ = some (.int .i64 x.t) ∧ w'.cell? ⟨ab, ao + k * 4 + 3, none⟩ = some (.bool x.x) from
        ⟨(h.cell (by exact hab)).trans qa.1, (h.cell (by exact hab)).trans qa.2.1, (h.cell (by exact hab)).trans qa.2.2.1, (h.cell (by exact hab)).trans qa.2.2.2⟩)
      refine wp_region_tree (S := fun w' => Below w.heap.size w w') (.take 1 (.take 2 (.take 3 (.take 4 (.two 0 5 (.one 5 (.one 6 (.take 7 (.take 8 (.take 9 (.one 10 .nil)))))) (.one 0 (.one 6 (.take 7 (.take 8 (.take 9 (.one 10 .nil))))))))))) (by kernel_rfl) (by kernel_rfl) (by kernel_rfl) (by decide) (by intro c a d v w h; cases d <;> exact h) hbw.drew ?_
      repeat ((with_reducible show wpTree _ _ _ _ (.take _ _) _ _); (first | (refine wpTree_on (v := ?_) rfl rfl (wanted_free rfl) (fun w' hS => ?_) ?_; rotate_left; (focus (go_simp; (try with_reducible rfl); done)); try simp only [List.setIfInBounds_toArray, List.set_cons_zero, List.set_cons_succ]) | (refine wpTree_on (v := ?_) rfl rfl (wanted_yes rfl rfl rfl) (fun w' hS => ?_) ?_; rotate_left; (focus (go_simp; (try with_reducible rfl); done)); try simp only [List.setIfInBounds_toArray, List.set_cons_zero, List.set_cons_succ]) | (refine wpTree_off rfl rfl (wanted_no rfl rfl rfl) ?_; try simp only [List.setIfInBounds_toArray, List.set_cons_zero, List.set_cons_succ]) | (refine wpTree_off rfl rfl (wanted_undef rfl rfl rfl) ?_; try simp only [List.setIfInBounds_toArray, List.set_cons_zero, List.set_cons_succ])))
      clear D qa
      have hbd := hbw.drew
      refine wpTree_both rfl (wanted_free rfl) rfl (wanted_free rfl) (fun K hK => ?_) (fun K hK => ?_)
      · have q0 := (Blk.drew hB).cell 0
        have q1 := (Blk.drew hB).cell 1
        go_simp
        refine hK.out _ _ hbd ?_
        clear hK K q0 q1
        refine wpTree_do rfl (wanted_free rfl) (fun K hK => ?_); go_simp
        refine (hold_ x _).mono ?_
        rintro e w3 ⟨rfl, hh⟩
        have hh := Below.trans (Below.refl wr.heap.size wr).drew hh
        have hb3 := Below.trans hbw (Below.mono hh hbw.size)
        have hB3 := hB.ext hh
        have hL3 := hL.ext hh
        refine hK.out _ _ hb3 ?_
        clear hK K hh hB hL hbd
        refine wpTree_do rfl (wanted_free rfl) (fun K hK => ?_); go_simp
        have hA := Ask_ L x.hd _ _ hL3 (by have := hW.hl; omega) (by have := hW.wl; omega)
        refine hA.mono ?_
        rintro e w4 ⟨v, rfl, hL4, hb4⟩
        obtain ⟨A3, n3, c3, A4, n4, c4, rfl, hL4⟩ := hL4.parts
        have hB4 := hB3.ext hb4
        have hb5 := Below.trans hb3 (Below.mono hb4 hb3.size)
        refine hK.out _ _ hb5 ?_
        clear hK K hA hL3 hB3 hb4 hb3
        repeat ((with_reducible show wpTree _ _ _ _ (.take _ _) _ _); (first | (refine wpTree_on (v := ?_) rfl rfl (wanted_free rfl) (fun w' hS => ?_) ?_; rotate_left; (focus (go_simp; (try with_reducible rfl); done)); try simp only [List.setIfInBounds_toArray, List.set_cons_zero, List.set_cons_succ]) | (refine wpTree_on (v := ?_) rfl rfl (wanted_yes rfl rfl rfl) (fun w' hS => ?_) ?_; rotate_left; (focus (go_simp; (try with_reducible rfl); done)); try simp only [List.setIfInBounds_toArray, List.set_cons_zero, List.set_cons_succ]) | (refine wpTree_off rfl rfl (wanted_no rfl rfl rfl) ?_; try simp only [List.setIfInBounds_toArray, List.set_cons_zero, List.set_cons_succ]) | (refine wpTree_off rfl rfl (wanted_undef rfl rfl rfl) ?_; try simp only [List.setIfInBounds_toArray, List.set_cons_zero, List.set_cons_succ])))
        have f0 := hB4.frozen 0
        have f1 := hB4.frozen 1
        have q0 := hB4.cell 0
        have q1 := hB4.cell 1
        refine wpTree_do rfl (wanted_free rfl) (fun K hK => ?_); go_simp
        clear f0 f1 q0 q1
        obtain ⟨w6, hw6, C6, hL6, hlow, hgr⟩ := Va.set hB4 (by simp) hL4
        rw [← hw6]
        clear hw6
        have hb6 := Below.trans hb5 (hlow _ hgw)
        refine hK.out _ _ hb6 (wpTree_end ?_)
        clear hK K
        go_wp2
        go_roundw
        case rel =>
          exact ⟨k + 1, _, by go_num, by omega, by omega, ⟨_, _, _, _, _, _, C6, hL6⟩, hW.ask x.bs, ask_apart hap, hb6⟩
        case measure => simp [intOf]; omega

      · go_simp
        refine (hold_ x _).mono ?_
        rintro e w3 ⟨rfl, hh⟩
        have hh := Below.trans (Below.refl wr.heap.size wr).drew hh
        have hb3 := Below.trans hbw (Below.mono hh hbw.size)
        have hB3 := hB.ext hh
        have hL3 := hL.ext hh
        refine hK.out _ _ hb3 ?_
        clear hK K hh hB hL hbd
        have q0 := hB3.cell 0
        have q1 := hB3.cell 1
        refine wpTree_do rfl (wanted_free rfl) (fun K hK => ?_); go_simp
        refine hK.out _ _ hb3 ?_
        clear hK K q0 q1
        refine wpTree_do rfl (wanted_free rfl) (fun K hK => ?_); go_simp
        have hA := Ask_ L x.hd _ _ hL3 (by have := hW.hl; omega) (by have := hW.wl; omega)
        refine hA.mono ?_
        rintro e w4 ⟨v, rfl, hL4, hb4⟩
        obtain ⟨A3, n3, c3, A4, n4, c4, rfl, hL4⟩ := hL4.parts
        have hB4 := hB3.ext hb4
        have hb5 := Below.trans hb3 (Below.mono hb4 hb3.size)
        refine hK.out _ _ hb5 ?_
        clear hK K hA hL3 hB3 hb4 hb3
        repeat ((with_reducible show wpTree _ _ _ _ (.take _ _) _ _); (first | (refine wpTree_on (v := ?_) rfl rfl (wanted_free rfl) (fun w' hS => ?_) ?_; rotate_left; (focus (go_simp; (try with_reducible rfl); done)); try simp only [List.setIfInBounds_toArray, List.set_cons_zero, List.set_cons_succ]) | (refine wpTree_on (v := ?_) rfl rfl (wanted_yes rfl rfl rfl) (fun w' hS => ?_) ?_; rotate_left; (focus (go_simp; (try with_reducible rfl); done)); try simp only [List.setIfInBounds_toArray, List.set_cons_zero, List.set_cons_succ]) | (refine wpTree_off rfl rfl (wanted_no rfl rfl rfl) ?_; try simp only [List.setIfInBounds_toArray, List.set_cons_zero, List.set_cons_succ]) | (refine wpTree_off rfl rfl (wanted_undef rfl rfl rfl) ?_; try simp only [List.setIfInBounds_toArray, List.set_cons_zero, List.set_cons_succ])))
        have f0 := hB4.frozen 0
        have f1 := hB4.frozen 1
        have q0 := hB4.cell 0
        have q1 := hB4.cell 1
        refine wpTree_do rfl (wanted_free rfl) (fun K hK => ?_); go_simp
        clear f0 f1 q0 q1
        obtain ⟨w6, hw6, C6, hL6, hlow, hgr⟩ := Va.set hB4 (by simp) hL4
        rw [← hw6]
        clear hw6
        have hb6 := Below.trans hb5 (hlow _ hgw)
        refine hK.out _ _ hb6 (wpTree_end ?_)
        clear hK K
        go_wp2
        go_roundw
        case rel =>
          exact ⟨k + 1, _, by go_num, by omega, by omega, ⟨_, _, _, _, _, _, C6, hL6⟩, hW.ask x.bs, ask_apart hap, hb6⟩
        case measure => simp [intOf]; omega

    · rcases Nat.lt_or_ge k n with hkn | hkn
      · have hd1 : decide ((k : Int) < (n : Int)) = true := by simp; omega
        have hd2 : decide ((k : Int) < 40) = false := by simp; omega
        have qh := hB.cell 0
        have qh' := hB.cell 1
        have hinv := hL.inv
        have hn1 : n1 ≤ 40 := by have := hW.hl; omega
        have HN1 := Lib.hid hinv.1
        by_cases hz : n1 = 0
        · have hz0 : ((n1 : Int) == 0) = true := by simp; omega
          clear hinv
          go_wp2
          go_ret
          exact ⟨rfl, hbw⟩
        have hz0 : ((n1 : Int) == 0) = false := by simp; omega
        obtain ⟨hb_, rfl, hbl_⟩ := hinv.2.1.some_ (by rw [hinv.1]; omega)
        have hwb := wi_bd (a := s) (n := (n1 : Int)) (by omega)
        obtain ⟨K0, hK0, hK1⟩ : ∃ K0 : Nat, wi s (n1 : Int) = (K0 : Int) ∧ K0 < n1 := ⟨(wi s (n1 : Int)).toNat, by omega, by omega⟩
        have HK0 := Lib.hid hK0
        obtain ⟨y, hy⟩ : ∃ y, L.hs[K0]? = some y := ⟨_, List.getElem?_eq_getElem (by rw [hinv.1]; exact hK1)⟩
        have HY := Lib.hid hy
        have hown := has_own hap hy
        have hq := hinv.2.1.at_ hy
        have hyb := hW.hb y (List.mem_of_getElem? hy)
        have hKi : (K0 : Int) < (n1 : Int) := by omega
        obtain ⟨ys, yt, yx⟩ := y
        clear hinv hwb hK0 hy
        go_wp2_with fail
        have D := fun w' (h : Below wr.heap.size wr.drew w') => (show w'.cell? ⟨g, 0, none⟩ = some (.slice (some ⟨hb_, 0, none⟩) n1 c1) ∧ w'.cell? ⟨hb_, K0 * 3, none⟩ = some (.int .i64 ys) ∧ w'.cell? ⟨hb_, K0 * 3 + 1, none⟩ = some (.string yt) ∧ w'.cell? ⟨hb_, K0 * 3 + 2, none⟩ = some (.bool yx) from by
          have hx := (hL.ext (Below.trans (Below.refl _ _).drew h)).inv.2.1.at_ HY.out
          exact ⟨(hB.ext (Below.trans (Below.refl _ _).drew h)).cell 0, hx.1, hx.2.1, hx.2.2⟩)
        refine wp_region_mix1 ⟨9, 7, fun g => .pointer (some ⟨g, 0, none⟩), .cells #[.int .i64 0, .string ⟨#[]⟩, .bool false] 30⟩
          [(0, true), (1, true), (2, true), (3, true), (4, true), (5, true)] [(6, false), (7, true), (8, true)] [(10, false)] (by kernel_rfl) (by kernel_rfl) ?_
        repeat ((with_reducible show wpI _ _ _ _ _ ((_, true) :: _) _ _); (first | (refine wpI_on (v := ?_) rfl rfl (wanted_free rfl) (fun w' hS => ?_) ?_; rotate_left; (focus (go_simp; (try with_reducible rfl); done)); try simp only [List.setIfInBounds_toArray, List.set_cons_zero, List.set_cons_succ]) | (refine wpI_on (v := ?_) rfl rfl (wanted_yes rfl rfl rfl) (fun w' hS => ?_) ?_; rotate_left; (focus (go_simp; (try with_reducible rfl); done)); try simp only [List.setIfInBounds_toArray, List.set_cons_zero, List.set_cons_succ]) | (refine wpI_off rfl rfl (wanted_no rfl rfl rfl) ?_; try simp only [List.setIfInBounds_toArray, List.set_cons_zero, List.set_cons_succ]) | (refine wpI_off rfl rfl (wanted_undef rfl rfl rfl) ?_; try simp only [List.setIfInBounds_toArray, List.set_cons_zero, List.set_cons_succ])))
        refine wpI_done ⟨?_, ?_⟩
        · intro u hu
          simp only [List.mem_cons, List.not_mem_nil, or_false] at hu
          subst hu
          exact ⟨_, rfl, rfl, wanted_free rfl, fun w => by go_simp⟩
        refine wpI_do rfl (wanted_free rfl) (fun wI hI hSI K hK => ?_); go_simp
        refine (within_ s (n1 : Int) _ (by omega) (by omega)).mono ?_
        rintro e w3 ⟨rfl, rfl⟩
        rw [HK0.out]
        refine hK.out _ _ (Below.refl _ _) ?_
        clear hK K hI hSI
        repeat ((with_reducible show wpI _ _ _ _ _ ((_, true) :: _) _ _); (first | (refine wpI_on (v := ?_) rfl rfl (wanted_free rfl) (fun w' hS => ?_) ?_; rotate_left; (focus (go_simp; (try with_reducible rfl); done)); try simp only [List.setIfInBounds_toArray, List.set_cons_zero, List.set_cons_succ]) | (refine wpI_on (v := ?_) rfl rfl (wanted_yes rfl rfl rfl) (fun w' hS => ?_) ?_; rotate_left; (focus (go_simp; (try with_reducible rfl); done)); try simp only [List.setIfInBounds_toArray, List.set_cons_zero, List.set_cons_succ]) | (refine wpI_off rfl rfl (wanted_no rfl rfl rfl) ?_; try simp only [List.setIfInBounds_toArray, List.set_cons_zero, List.set_cons_succ]) | (refine wpI_off rfl rfl (wanted_undef rfl rfl rfl) ?_; try simp only [List.setIfInBounds_toArray, List.set_cons_zero, List.set_cons_succ])))
        refine wpI_done ?_
        intro g1 wf he hb hlo1 hhi1 hat1
        go_frame
        clear D
        have C1 := blk_get hat1
        have f0 := C1.frozen 0
        have f1 := C1.frozen 1
        have f2 := C1.frozen 2
        have q0 := C1.three (Below.refl _ _)
        refine wpPerm_do rfl (wanted_free rfl) (fun K hK => ?_); go_simp
        clear f0 f1 f2 q0
        obtain ⟨w5, hw5, C5, hlow5, hfar5, hsz5⟩ := C1.set3 (.int .i64 ys) (.string yt) (.bool yx)
        rw [← hw5]
        clear hw5
        have hb5 := Below.trans hb (hlow5 _ hlo1)
        refine hK.out _ _ hb5 (wpPerm_done ?_)
        clear hK K
        have hT := Below.trans (Below.refl wr.heap.size wr).drew hb5
        have hB5 := hB.ext hT
        have hL5 := hL.ext hT
        have hbw5 := Below.trans hbw (Below.mono hT hbw.size)
        have hgl := hB.lt
        have HOLD : Hid (∀ b, A2 = some ⟨b, 0, none⟩ → b < wr.heap.size) := Lib.hid (fun b e => by
          rcases hL.inv.2.2.2 with ⟨h0, _⟩ | ⟨b', e', hl, _⟩
          · rw [e] at h0; cases h0
          · rw [e] at e'
            injection e' with e'
            injection e' with e'
            omega)
        clear hB hL hT hbw hb hb5 he hlow5 hfar5 hsz5 C1 hat1 qh qh' hq
        have q0 := hB5.cell 0
        have q1 := hB5.cell 1
        have q2 := C5.three (Below.refl _ _)
        go_wp2_with fail
        have hA := AskHas_ L ⟨ys, yt, yx⟩ _ _ hL5 (by have := hW.hl; omega) (by have := hW.wl; omega) hown.1
        refine hA.mono ?_
        rintro e w6 ⟨v, rfl, hL6, hb6, hFr⟩
        obtain ⟨A3, n3, c3, A4, n4, c4, rfl, hL6⟩ := hL6.parts
        have hn3 : n3 = n1 := by have h1 := hL6.inv.1; have h2 := HN1.out; simp only at h1; omega
        subst hn3
        have hB6 := hB5.ext hb6
        have hL56 := hL5.ext hb6
        have C6 := C5.ext hb6
        have hbw6 := Below.trans hbw5 (Below.mono hb6 hbw5.size)
        have hFr := hFr _ _ _ _ _ _ rfl
        have hg15 := C5.lt
        clear q0 q1 q2 hA hB5 C5 hb6 hbw5
        have hg61 := C6.lt
        have hg16 : g ≠ g1 := by omega
        have S6 : Blk (w6.setCell ⟨g1, 2, none⟩ (.bool false)) g1 30 #[.int .i64 ys, .string yt, .bool false] := by simpa using C6.set_ 2 (.bool false)
        have gr6 : w6.grownBy (w6.setCell ⟨g1, 2, none⟩ (.bool false)) (some g1) := ⟨rfl, rfl, rfl, by simp [World.setCell], fun i _ hne => Below.heap_setCell _ _ _ _ (fun e => hne (by rw [e]))⟩
        have hgw1 : w.heap.size ≤ g1 := by omega
        have hLb : ∀ A A' n c n' c' (M : Lk), LkR w6 (.agg #[.slice A n c, .slice A' n' c']) M → (∀ b, A = some ⟨b, 0, none⟩ → b ≠ g1) → (∀ b, A' = some ⟨b, 0, none⟩ → b ≠ g1) → LkR (w6.setCell ⟨g1, 2, none⟩ (.bool false)) (.agg #[.slice A n c, .slice A' n' c']) M := fun A A' n c n' c' M h h1 h2 => by
          obtain ⟨i1, i2, i3, i4⟩ := h.inv
          exact ⟨_, _, _, _, _, _, rfl, i1, i2.grown gr6 (fun b e hr => h1 b e (by injection hr)), i3, i4.grown gr6 (fun b e hr => h2 b e (by injection hr))⟩
        have hLs := hLb _ _ _ _ _ _ _ hL6 (fun b e => by have := hFr.1 b e; omega) (fun b e => by have := hFr.2 b e; omega)
        have hLa0 : LkR (w6.setCell ⟨g1, 2, none⟩ (.bool false)) (.agg #[.slice (some ⟨hb_, 0, none⟩) n3 c1, .slice A2 n2 c2]) L := hLb _ _ _ _ _ _ _ hL56 (fun b e => by
          injection e with e
          injection e with e
          omega) (fun b e => by
          have hold := HOLD.out b e
          omega)
        have hBs := hB6.grown gr6 (by simpa using hg16)
        have f2 := fun o => (C6.alloc o).frozen 2
        have q2 := fun o => (S6.alloc o).three (Below.refl _ _)
        have hsz6 : (w6.setCell ⟨g1, 2, none⟩ (.bool false)).heap.size = w6.heap.size := by simp [World.setCell]
        have q2c := fun o => (C6.alloc o).cell 2
        have V0 := blk_new_at (w6.setCell ⟨g1, 2, none⟩ (.bool false)) w6.heap.size 26 #[.slice A3 n3 c3, .slice A4 n4 c4] hsz6
        have p0 := V0.cell 0
        have p1 := V0.cell 1
        go_wp2_with fail
        clear f2 q2 q2c V0 p0 p1
        generalize hws : w6.setCell ⟨g1, 2, none⟩ (.bool false) = ws at *
        obtain ⟨W7, hW7, hb7, V7⟩ : ∃ W7, W7 = ws.alloc (.cells #[.slice A3 n3 c3, .slice A4 n4 c4] 26) ∧ Below ws.heap.size ws W7 ∧ Blk W7 w6.heap.size 26 #[.slice A3 n3 c3, .slice A4 n4 c4] := ⟨_, rfl, (Below.refl _ _).alloc (Nat.le_refl _) _, blk_new_at _ _ _ _ hsz6⟩
        rw [← hW7]
        have hbs : Below w.heap.size w ws := hbw6.grown gr6 hbw6.size (fun k hk => by injection hk with hk; omega)
        have hbw7 := Below.trans hbs (Below.mono hb7 hbs.size)
        have hB7 := hBs.ext hb7
        have S7 := S6.ext hb7
        have hLb7 := hLs.ext hb7
        have hLa7 := hLa0.ext hb7
        have hgb : g1 < w6.heap.size := hg61
        clear hW7 hws hsz6 hbs hBs S6 hLs hLa0 hb7 hL6 hL56 hB6 C6 gr6 hLb hFr hbw6 hg61
        generalize w6.heap.size = g8 at *
        obtain ⟨Lb, hLbe⟩ : ∃ Lb, (⟨L.hs, woL L.ws ys⟩ : Lk) = Lb := ⟨_, rfl⟩
        have hbl : Lb.hs.length ≤ 40 ∧ Lb.ws.length ≤ 40 := by rw [← hLbe]; exact ⟨by have := hW.hl; simp only; omega, Nat.le_trans (woL_len _ _) (by have := hW.wl; omega)⟩
        have hask : askL Lb ⟨ys, yt, false⟩ = Lb ∧ freeB Lb ⟨ys, yt, false⟩ = true := by
          rw [← hLbe]
          have h1 := ask_has hown.2
          refine ⟨h1.1.trans ?_, h1.2⟩
          simp only [woL_woL]
        have hfree : freeL Lb ys = freeL L ys := by
          rw [← hLbe]
          unfold freeL
          simp only [woL_woL]
        have hhs : Lb.hs = L.hs := by rw [← hLbe]
        have HHS := Lib.hid hhs
        have HFREE := Lib.hid hfree
        have HASK := Lib.hid hask
        have hLb7 : LkR W7 (.agg #[.slice A3 n3 c3, .slice A4 n4 c4]) Lb := by rw [← hLbe]; exact hLb7
        clear hLbe hask hfree hhs
        have hA := Ask_ Lb ⟨ys, yt, false⟩ _ _ hLb7 (by omega) (by omega)
        rw [HASK.out.1, HASK.out.2] at hA
        refine hA.mono ?_
        rintro e w8 ⟨v, rfl, hL8, hb8⟩
        obtain ⟨A5, n5, c5, A6, n6, c6, rfl, hL8⟩ := hL8.parts
        have hB8 := hB7.ext hb8
        have S8 := S7.ext hb8
        have V8 := V7.ext hb8
        have hLb8 := hLb7.ext hb8
        have hLa8 := hLa7.ext hb8
        have hbw8 := Below.trans hbw7 (Below.mono hb8 hbw7.size)
        clear hA hB7 S7 V7 hLb7 hLa7 hb8 hbw7
        have q8 := fun o => (V8.alloc o).cell 0
        have q8' := fun o => (V8.alloc o).cell 1
        go_wp2_with fail
        clear q8 q8'
        obtain ⟨W9, hW_, hb9, T9⟩ : ∃ W_, W_ = (w8.alloc (.cells #[.slice A5 n5 c5, .slice A6 n6 c6] 26)) ∧ Below w8.heap.size w8 W_ ∧ Blk W_ (w8.heap.size) 26 #[.slice A5 n5 c5, .slice A6 n6 c6] :=
          ⟨_, rfl, ((Below.refl _ _).alloc (Nat.le_refl _) _), (blk_new_at w8 (w8.heap.size) _ _ (by simp))⟩
        rw [← hW_]
        clear hW_
        refine (same_ Lb Lb _ _ _ (hLb8.ext hb9) (hL8.ext hb9) (by omega) (by omega)).mono ?_
        rintro e w10 ⟨rfl, hb10⟩
        rw [decide_eq_true rfl]
        have hT := Below.trans hb9 (Below.mono hb10 hb9.size)
        have hBx := hB8.ext hT
        have Sx := S8.ext hT
        have Vx := V8.ext hT
        have hLbx := hLb8.ext hT
        have hLax := hLa8.ext hT
        have hbx := Below.trans hbw8 (Below.mono hT hbw8.size)
        clear hB8 S8 V8 hLb8 hLa8 hT hbw8 hb9 hb10 T9 hL8
        have q0 := hBx.cell 0
        have q8 := Vx.cell 0
        go_wp2_with fail
        clear q0 q8
        go_loopw [12] (fun i wr => ∃ (j : Nat), i = .int .i64 j ∧ j ≤ n3 ∧ Below w10.heap.size w10 wr) (fun i _ => n3 - (intOf i).toNat)
        case atStart => exact ⟨0, rfl, Nat.zero_le _, Below.refl _ _⟩
        case round =>
          obtain ⟨j, rfl, hj, hbj⟩ := hrel
          have hBj := hBx.ext hbj
          have Sj := Sx.ext hbj
          have Vj := Vx.ext hbj
          have hLbj := hLbx.ext hbj
          have hLaj := hLax.ext hbj
          have hbwj := Below.trans hbx (Below.mono hbj hbx.size)
          have q0 := hBj.cell 0
          rcases Nat.lt_or_ge j n3 with hlt | hge
          · have hd : decide ((j : Int) < (n3 : Int)) = true := by simp; omega
            have hjn : (j : Int) < (n3 : Int) := by omega
            obtain ⟨z, hz⟩ : ∃ z, L.hs[j]? = some z := ⟨_, List.getElem?_eq_getElem (by rw [HN1.out]; exact hlt)⟩
            obtain ⟨b3, rfl, hb3l⟩ := hLbj.inv.2.1.some_ (by rw [HHS.out, HN1.out]; omega)
            have HZ := Lib.hid hz
            clear hz
            obtain ⟨zs, zt, zx⟩ := z
            go_wp2_with fail
            have D := fun w' (h : Below wr.heap.size wr.drew w') => (show (w'.cell? ⟨g, 0, none⟩ = some (.slice (some ⟨hb_, 0, none⟩) n3 c1) ∧ w'.cell? ⟨g8, 0, none⟩ = some (.slice (some ⟨b3, 0, none⟩) n3 c3)) ∧ (w'.cell? ⟨hb_, j * 3, none⟩ = some (.int .i64 zs) ∧ w'.cell? ⟨hb_, j * 3 + 1, none⟩ = some (.string zt) ∧ w'.cell? ⟨hb_, j * 3 + 2, none⟩ = some (.bool zx)) ∧ (w'.cell? ⟨b3, j * 3, none⟩ = some (.int .i64 zs) ∧ w'.cell? ⟨b3, j * 3 + 1, none⟩ = some (.string zt) ∧ w'.cell? ⟨b3, j * 3 + 2, none⟩ = some (.bool zx)) from by
              have hh := Below.trans (Below.refl wr.heap.size wr).drew h
              exact ⟨⟨(hBj.ext hh).cell 0, (Vj.ext hh).cell 0⟩, (hLaj.ext hh).inv.2.1.at_ HZ.out, (hLbj.ext hh).inv.2.1.at_ (by rw [HHS.out]; exact HZ.out)⟩)
            have u30 := Try.underlying30
            have u3 := Try.underlying3
            have u9 := Try.underlying9
            have u4 := Try.underlying4
            have hp := stood30
            have hmg := guard30
            refine wp_region_one [(0, true), (1, true), (2, true), (3, true), (4, true), (5, true), (6, true), (7, true), (8, true), (9, true), (10, true)] (by kernel_rfl) (by kernel_rfl) (by kernel_rfl) (by decide) ?_
            repeat ((with_reducible show wpPerm _ _ _ _ ((_, true) :: _) _ _); (first | (refine wpPerm_on (v := ?_) rfl rfl (wanted_free rfl) (fun w' hS => ?_) ?_; rotate_left; (focus (go_simp; (try with_reducible rfl); done)); try simp only [List.setIfInBounds_toArray, List.set_cons_zero, List.set_cons_succ]) | (refine wpPerm_on (v := ?_) rfl rfl (wanted_yes rfl rfl rfl) (fun w' hS => ?_) ?_; rotate_left; (focus (go_simp; (try with_reducible rfl); done)); try simp only [List.setIfInBounds_toArray, List.set_cons_zero, List.set_cons_succ]) | (refine wpPerm_off rfl rfl (wanted_no rfl rfl rfl) ?_; try simp only [List.setIfInBounds_toArray, List.set_cons_zero, List.set_cons_succ]) | (refine wpPerm_off rfl rfl (wanted_undef rfl rfl rfl) ?_; try simp only [List.setIfInBounds_toArray, List.set_cons_zero, List.set_cons_succ])))
            refine wpPerm_done ?_
            clear D u30 u3 u9 u4 hp hmg
            have hbd := hbj.drew
            go_wp2
            exact ⟨⟨j + 1, by go_num, by omega, hbd⟩, by simp [intOf]; omega⟩
          · have hd : decide ((j : Int) < (n3 : Int)) = false := by simp; omega
            go_wp2_with fail
            have D := fun w' (h : Below wr.heap.size wr.drew w') => (show (w'.cell? ⟨g, 0, none⟩ = some (.slice (some ⟨hb_, 0, none⟩) n3 c1) ∧ w'.cell? ⟨g, 1, none⟩ = some (.slice A2 n2 c2)) ∧ (w'.cell? ⟨g8, 0, none⟩ = some (.slice A3 n3 c3) ∧ w'.cell? ⟨g8, 1, none⟩ = some (.slice A4 n4 c4)) ∧ w'.cell? ⟨g1, 0, none⟩ = some (.int .i64 ys) from by
              have hh := Below.trans (Below.refl wr.heap.size wr).drew h
              exact ⟨⟨(hBj.ext hh).cell 0, (hBj.ext hh).cell 1⟩, ⟨(Vj.ext hh).cell 0, (Vj.ext hh).cell 1⟩, (Sj.ext hh).cell 0⟩)
            refine wp_region_one [(0, true), (1, true), (2, true), (5, true), (7, true), (8, true), (3, false), (4, false), (6, false), (9, false), (10, false), (11, true)] (by kernel_rfl) (by kernel_rfl) (by kernel_rfl) (by decide) ?_
            repeat ((with_reducible show wpPerm _ _ _ _ ((_, true) :: _) _ _); (first | (refine wpPerm_on (v := ?_) rfl rfl (wanted_free rfl) (fun w' hS => ?_) ?_; rotate_left; (focus (go_simp; (try with_reducible rfl); done)); try simp only [List.setIfInBounds_toArray, List.set_cons_zero, List.set_cons_succ]) | (refine wpPerm_on (v := ?_) rfl rfl (wanted_yes rfl rfl rfl) (fun w' hS => ?_) ?_; rotate_left; (focus (go_simp; (try with_reducible rfl); done)); try simp only [List.setIfInBounds_toArray, List.set_cons_zero, List.set_cons_succ]) | (refine wpPerm_off rfl rfl (wanted_no rfl rfl rfl) ?_; try simp only [List.setIfInBounds_toArray, List.set_cons_zero, List.set_cons_succ]) | (refine wpPerm_off rfl rfl (wanted_undef rfl rfl rfl) ?_; try simp only [List.setIfInBounds_toArray, List.set_cons_zero, List.set_cons_succ])))
            clear D q0
            have hb0 := (Below.refl wr.heap.size wr).drew
            have hl40 : L.hs.length ≤ 40 ∧ L.ws.length ≤ 40 := ⟨by have := hW.hl; omega, by have := hW.wl; omega⟩
            have hlF : (freeL L ys).hs.length ≤ 40 ∧ (freeL L ys).ws.length ≤ 40 := ⟨Nat.le_trans (woL_len _ _) hl40.1, Nat.le_trans (woL_len _ _) hl40.2⟩
            refine wpPerm_do rfl (wanted_free rfl) (fun K hK => ?_); go_simp
            refine (Free_ Lb ys _ _ (hLbj.ext hb0) (by omega) (by omega)).mono ?_
            rintro e x1 ⟨v1, rfl, hM1, hx1⟩
            rw [HFREE.out] at hM1
            refine hK.out _ _ hx1 ?_
            clear hK K
            refine wpPerm_do rfl (wanted_free rfl) (fun K hK => ?_); go_simp
            refine (toRef_ (freeL L ys) _ _ hM1 (by omega) (by omega)).mono ?_
            rintro e x2 ⟨v2, rfl, hM2, hx2⟩
            have hy2 := Below.trans hx1 (Below.mono hx2 hx1.size)
            refine hK.out _ _ hy2 ?_
            clear hK K
            refine wpPerm_do rfl (wanted_free rfl) (fun K hK => ?_); go_simp
            refine (toRef_ L _ _ ((hLaj.ext hb0).ext hy2) (by omega) (by omega)).mono ?_
            rintro e x3 ⟨v3, rfl, hM3, hx3⟩
            have hy3 := Below.trans hy2 (Below.mono hx3 hy2.size)
            refine hK.out _ _ hy3 ?_
            clear hK K
            refine wpPerm_do rfl (wanted_free rfl) (fun K hK => ?_); go_simp
            refine (rFree_ L ys _ _ hM3 (by omega) (by omega)).mono ?_
            rintro e x4 ⟨v4, rfl, hM4, hx4⟩
            have hy4 := Below.trans hy3 (Below.mono hx4 hy3.size)
            refine hK.out _ _ hy4 ?_
            clear hK K
            refine wpPerm_do rfl (wanted_free rfl) (fun K hK => ?_); go_simp
            refine (rSame_ (freeL L ys) (freeL L ys) _ _ _ ((hM2.ext hx3).ext hx4) hM4 (by omega) (by omega)).mono ?_
            rintro e x5 ⟨rfl, hx5⟩
            rw [decide_eq_true rfl]
            have hy5 := Below.trans hy4 (Below.mono hx5 hy4.size)
            refine hK.out _ _ hy5 ?_
            clear hK K
            repeat ((with_reducible show wpPerm _ _ _ _ ((_, true) :: _) _ _); (first | (refine wpPerm_on (v := ?_) rfl rfl (wanted_free rfl) (fun w' hS => ?_) ?_; rotate_left; (focus (go_simp; (try with_reducible rfl); done)); try simp only [List.setIfInBounds_toArray, List.set_cons_zero, List.set_cons_succ]) | (refine wpPerm_on (v := ?_) rfl rfl (wanted_yes rfl rfl rfl) (fun w' hS => ?_) ?_; rotate_left; (focus (go_simp; (try with_reducible rfl); done)); try simp only [List.setIfInBounds_toArray, List.set_cons_zero, List.set_cons_succ]) | (refine wpPerm_off rfl rfl (wanted_no rfl rfl rfl) ?_; try simp only [List.setIfInBounds_toArray, List.set_cons_zero, List.set_cons_succ]) | (refine wpPerm_off rfl rfl (wanted_undef rfl rfl rfl) ?_; try simp only [List.setIfInBounds_toArray, List.set_cons_zero, List.set_cons_succ])))
            refine wpPerm_done ?_
            go_wp2
            go_ret
            exact ⟨rfl, Below.trans hbwj.drew (Below.mono hy5 hbwj.size)⟩

      · have hd1 : decide ((k : Int) < (n : Int)) = false := by simp; omega
        have qh := hB.cell 0
        have qh' := hB.cell 1
        have hinv := hL.inv
        have hn1 : n1 ≤ 40 := by have := hW.hl; omega
        have HN1 := Lib.hid hinv.1
        by_cases hz : n1 = 0
        · have hz0 : ((n1 : Int) == 0) = true := by simp; omega
          clear hinv
          go_wp2
          go_ret
          exact ⟨rfl, hbw⟩
        have hz0 : ((n1 : Int) == 0) = false := by simp; omega
        obtain ⟨hb_, rfl, hbl_⟩ := hinv.2.1.some_ (by rw [hinv.1]; omega)
        have hwb := wi_bd (a := s) (n := (n1 : Int)) (by omega)
        obtain ⟨K0, hK0, hK1⟩ : ∃ K0 : Nat, wi s (n1 : Int) = (K0 : Int) ∧ K0 < n1 := ⟨(wi s (n1 : Int)).toNat, by omega, by omega⟩
        have HK0 := Lib.hid hK0
        obtain ⟨y, hy⟩ : ∃ y, L.hs[K0]? = some y := ⟨_, List.getElem?_eq_getElem (by rw [hinv.1]; exact hK1)⟩
        have HY := Lib.hid hy
        have hown := has_own hap hy
        have hq := hinv.2.1.at_ hy
        have hyb := hW.hb y (List.mem_of_getElem? hy)
        have hKi : (K0 : Int) < (n1 : Int) := by omega
        obtain ⟨ys, yt, yx⟩ := y
        clear hinv hwb hK0 hy
        go_wp2_with fail
        have D := fun w' (h : Below wr.heap.size wr.drew w') => (show w'.cell? ⟨g, 0, none⟩ = some (.slice (some ⟨hb_, 0, none⟩) n1 c1) ∧ w'.cell? ⟨hb_, K0 * 3, none⟩ = some (.int .i64 ys) ∧ w'.cell? ⟨hb_, K0 * 3 + 1, none⟩ = some (.string yt) ∧ w'.cell? ⟨hb_, K0 * 3 + 2, none⟩ = some (.bool yx) from by
          have hx := (hL.ext (Below.trans (Below.refl _ _).drew h)).inv.2.1.at_ HY.out
          exact ⟨(hB.ext (Below.trans (Below.refl _ _).drew h)).cell 0, hx.1, hx.2.1, hx.2.2⟩)
        refine wp_region_mix1 ⟨9, 7, fun g => .pointer (some ⟨g, 0, none⟩), .cells #[.int .i64 0, .string ⟨#[]⟩, .bool false] 30⟩
          [(0, true), (1, true), (2, true), (3, true), (4, true), (5, true)] [(6, false), (7, true), (8, true)] [(10, false)] (by kernel_rfl) (by kernel_rfl) ?_
        repeat ((with_reducible show wpI _ _ _ _ _ ((_, true) :: _) _ _); (first | (refine wpI_on (v := ?_) rfl rfl (wanted_free rfl) (fun w' hS => ?_) ?_; rotate_left; (focus (go_simp; (try with_reducible rfl); done)); try simp only [List.setIfInBounds_toArray, List.set_cons_zero, List.set_cons_succ]) | (refine wpI_on (v := ?_) rfl rfl (wanted_yes rfl rfl rfl) (fun w' hS => ?_) ?_; rotate_left; (focus (go_simp; (try with_reducible rfl); done)); try simp only [List.setIfInBounds_toArray, List.set_cons_zero, List.set_cons_succ]) | (refine wpI_off rfl rfl (wanted_no rfl rfl rfl) ?_; try simp only [List.setIfInBounds_toArray, List.set_cons_zero, List.set_cons_succ]) | (refine wpI_off rfl rfl (wanted_undef rfl rfl rfl) ?_; try simp only [List.setIfInBounds_toArray, List.set_cons_zero, List.set_cons_succ])))
        refine wpI_done ⟨?_, ?_⟩
        · intro u hu
          simp only [List.mem_cons, List.not_mem_nil, or_false] at hu
          subst hu
          exact ⟨_, rfl, rfl, wanted_free rfl, fun w => by go_simp⟩
        refine wpI_do rfl (wanted_free rfl) (fun wI hI hSI K hK => ?_); go_simp
        refine (within_ s (n1 : Int) _ (by omega) (by omega)).mono ?_
        rintro e w3 ⟨rfl, rfl⟩
        rw [HK0.out]
        refine hK.out _ _ (Below.refl _ _) ?_
        clear hK K hI hSI
        repeat ((with_reducible show wpI _ _ _ _ _ ((_, true) :: _) _ _); (first | (refine wpI_on (v := ?_) rfl rfl (wanted_free rfl) (fun w' hS => ?_) ?_; rotate_left; (focus (go_simp; (try with_reducible rfl); done)); try simp only [List.setIfInBounds_toArray, List.set_cons_zero, List.set_cons_succ]) | (refine wpI_on (v := ?_) rfl rfl (wanted_yes rfl rfl rfl) (fun w' hS => ?_) ?_; rotate_left; (focus (go_simp; (try with_reducible rfl); done)); try simp only [List.setIfInBounds_toArray, List.set_cons_zero, List.set_cons_succ]) | (refine wpI_off rfl rfl (wanted_no rfl rfl rfl) ?_; try simp only [List.setIfInBounds_toArray, List.set_cons_zero, List.set_cons_succ]) | (refine wpI_off rfl rfl (wanted_undef rfl rfl rfl) ?_; try simp only [List.setIfInBounds_toArray, List.set_cons_zero, List.set_cons_succ])))
        refine wpI_done ?_
        intro g1 wf he hb hlo1 hhi1 hat1
        go_frame
        clear D
        have C1 := blk_get hat1
        have f0 := C1.frozen 0
        have f1 := C1.frozen 1
        have f2 := C1.frozen 2
        have q0 := C1.three (Below.refl _ _)
        refine wpPerm_do rfl (wanted_free rfl) (fun K hK => ?_); go_simp
        clear f0 f1 f2 q0
        obtain ⟨w5, hw5, C5, hlow5, hfar5, hsz5⟩ := C1.set3 (.int .i64 ys) (.string yt) (.bool yx)
        rw [← hw5]
        clear hw5
        have hb5 := Below.trans hb (hlow5 _ hlo1)
        refine hK.out _ _ hb5 (wpPerm_done ?_)
        clear hK K
        have hT := Below.trans (Below.refl wr.heap.size wr).drew hb5
        have hB5 := hB.ext hT
        have hL5 := hL.ext hT
        have hbw5 := Below.trans hbw (Below.mono hT hbw.size)
        have hgl := hB.lt
        have HOLD : Hid (∀ b, A2 = some ⟨b, 0, none⟩ → b < wr.heap.size) := Lib.hid (fun b e => by
          rcases hL.inv.2.2.2 with ⟨h0, _⟩ | ⟨b', e', hl, _⟩
          · rw [e] at h0; cases h0
          · rw [e] at e'
            injection e' with e'
            injection e' with e'
            omega)
        clear hB hL hT hbw hb hb5 he hlow5 hfar5 hsz5 C1 hat1 qh qh' hq
        have q0 := hB5.cell 0
        have q1 := hB5.cell 1
        have q2 := C5.three (Below.refl _ _)
        go_wp2_with fail
        have hA := AskHas_ L ⟨ys, yt, yx⟩ _ _ hL5 (by have := hW.hl; omega) (by have := hW.wl; omega) hown.1
        refine hA.mono ?_
        rintro e w6 ⟨v, rfl, hL6, hb6, hFr⟩
        obtain ⟨A3, n3, c3, A4, n4, c4, rfl, hL6⟩ := hL6.parts
        have hn3 : n3 = n1 := by have h1 := hL6.inv.1; have h2 := HN1.out; simp only at h1; omega
        subst hn3
        have hB6 := hB5.ext hb6
        have hL56 := hL5.ext hb6
        have C6 := C5.ext hb6
        have hbw6 := Below.trans hbw5 (Below.mono hb6 hbw5.size)
        have hFr := hFr _ _ _ _ _ _ rfl
        have hg15 := C5.lt
        clear q0 q1 q2 hA hB5 C5 hb6 hbw5
        have hg61 := C6.lt
        have hg16 : g ≠ g1 := by omega
        have S6 : Blk (w6.setCell ⟨g1, 2, none⟩ (.bool false)) g1 30 #[.int .i64 ys, .string yt, .bool false] := by simpa using C6.set_ 2 (.bool false)
        have gr6 : w6.grownBy (w6.setCell ⟨g1, 2, none⟩ (.bool false)) (some g1) := ⟨rfl, rfl, rfl, by simp [World.setCell], fun i _ hne => Below.heap_setCell _ _ _ _ (fun e => hne (by rw [e]))⟩
        have hgw1 : w.heap.size ≤ g1 := by omega
        have hLb : ∀ A A' n c n' c' (M : Lk), LkR w6 (.agg #[.slice A n c, .slice A' n' c']) M → (∀ b, A = some ⟨b, 0, none⟩ → b ≠ g1) → (∀ b, A' = some ⟨b, 0, none⟩ → b ≠ g1) → LkR (w6.setCell ⟨g1, 2, none⟩ (.bool false)) (.agg #[.slice A n c, .slice A' n' c']) M := fun A A' n c n' c' M h h1 h2 => by
          obtain ⟨i1, i2, i3, i4⟩ := h.inv
          exact ⟨_, _, _, _, _, _, rfl, i1, i2.grown gr6 (fun b e hr => h1 b e (by injection hr)), i3, i4.grown gr6 (fun b e hr => h2 b e (by injection hr))⟩
        have hLs := hLb _ _ _ _ _ _ _ hL6 (fun b e => by have := hFr.1 b e; omega) (fun b e => by have := hFr.2 b e; omega)
        have hLa0 : LkR (w6.setCell ⟨g1, 2, none⟩ (.bool false)) (.agg #[.slice (some ⟨hb_, 0, none⟩) n3 c1, .slice A2 n2 c2]) L := hLb _ _ _ _ _ _ _ hL56 (fun b e => by
          injection e with e
          injection e with e
          omega) (fun b e => by
          have hold := HOLD.out b e
          omega)
        have hBs := hB6.grown gr6 (by simpa using hg16)
        have f2 := fun o => (C6.alloc o).frozen 2
        have q2 := fun o => (S6.alloc o).three (Below.refl _ _)
        have hsz6 : (w6.setCell ⟨g1, 2, none⟩ (.bool false)).heap.size = w6.heap.size := by simp [World.setCell]
        have q2c := fun o => (C6.alloc o).cell 2
        have V0 := blk_new_at (w6.setCell ⟨g1, 2, none⟩ (.bool false)) w6.heap.size 26 #[.slice A3 n3 c3, .slice A4 n4 c4] hsz6
        have p0 := V0.cell 0
        have p1 := V0.cell 1
        go_wp2_with fail
        clear f2 q2 q2c V0 p0 p1
        generalize hws : w6.setCell ⟨g1, 2, none⟩ (.bool false) = ws at *
        obtain ⟨W7, hW7, hb7, V7⟩ : ∃ W7, W7 = ws.alloc (.cells #[.slice A3 n3 c3, .slice A4 n4 c4] 26) ∧ Below ws.heap.size ws W7 ∧ Blk W7 w6.heap.size 26 #[.slice A3 n3 c3, .slice A4 n4 c4] := ⟨_, rfl, (Below.refl _ _).alloc (Nat.le_refl _) _, blk_new_at _ _ _ _ hsz6⟩
        rw [← hW7]
        have hbs : Below w.heap.size w ws := hbw6.grown gr6 hbw6.size (fun k hk => by injection hk with hk; omega)
        have hbw7 := Below.trans hbs (Below.mono hb7 hbs.size)
        have hB7 := hBs.ext hb7
        have S7 := S6.ext hb7
        have hLb7 := hLs.ext hb7
        have hLa7 := hLa0.ext hb7
        have hgb : g1 < w6.heap.size := hg61
        clear hW7 hws hsz6 hbs hBs S6 hLs hLa0 hb7 hL6 hL56 hB6 C6 gr6 hLb hFr hbw6 hg61
        generalize w6.heap.size = g8 at *
        obtain ⟨Lb, hLbe⟩ : ∃ Lb, (⟨L.hs, woL L.ws ys⟩ : Lk) = Lb := ⟨_, rfl⟩
        have hbl : Lb.hs.length ≤ 40 ∧ Lb.ws.length ≤ 40 := by rw [← hLbe]; exact ⟨by have := hW.hl; simp only; omega, Nat.le_trans (woL_len _ _) (by have := hW.wl; omega)⟩
        have hask : askL Lb ⟨ys, yt, false⟩ = Lb ∧ freeB Lb ⟨ys, yt, false⟩ = true := by
          rw [← hLbe]
          have h1 := ask_has hown.2
          refine ⟨h1.1.trans ?_, h1.2⟩
          simp only [woL_woL]
        have hfree : freeL Lb ys = freeL L ys := by
          rw [← hLbe]
          unfold freeL
          simp only [woL_woL]
        have hhs : Lb.hs = L.hs := by rw [← hLbe]
        have HHS := Lib.hid hhs
        have HFREE := Lib.hid hfree
        have HASK := Lib.hid hask
        have hLb7 : LkR W7 (.agg #[.slice A3 n3 c3, .slice A4 n4 c4]) Lb := by rw [← hLbe]; exact hLb7
        clear hLbe hask hfree hhs
        have hA := Ask_ Lb ⟨ys, yt, false⟩ _ _ hLb7 (by omega) (by omega)
        rw [HASK.out.1, HASK.out.2] at hA
        refine hA.mono ?_
        rintro e w8 ⟨v, rfl, hL8, hb8⟩
        obtain ⟨A5, n5, c5, A6, n6, c6, rfl, hL8⟩ := hL8.parts
        have hB8 := hB7.ext hb8
        have S8 := S7.ext hb8
        have V8 := V7.ext hb8
        have hLb8 := hLb7.ext hb8
        have hLa8 := hLa7.ext hb8
        have hbw8 := Below.trans hbw7 (Below.mono hb8 hbw7.size)
        clear hA hB7 S7 V7 hLb7 hLa7 hb8 hbw7
        have q8 := fun o => (V8.alloc o).cell 0
        have q8' := fun o => (V8.alloc o).cell 1
        go_wp2_with fail
        clear q8 q8'
        obtain ⟨W9, hW_, hb9, T9⟩ : ∃ W_, W_ = (w8.alloc (.cells #[.slice A5 n5 c5, .slice A6 n6 c6] 26)) ∧ Below w8.heap.size w8 W_ ∧ Blk W_ (w8.heap.size) 26 #[.slice A5 n5 c5, .slice A6 n6 c6] :=
          ⟨_, rfl, ((Below.refl _ _).alloc (Nat.le_refl _) _), (blk_new_at w8 (w8.heap.size) _ _ (by simp))⟩
        rw [← hW_]
        clear hW_
        refine (same_ Lb Lb _ _ _ (hLb8.ext hb9) (hL8.ext hb9) (by omega) (by omega)).mono ?_
        rintro e w10 ⟨rfl, hb10⟩
        rw [decide_eq_true rfl]
        have hT := Below.trans hb9 (Below.mono hb10 hb9.size)
        have hBx := hB8.ext hT
        have Sx := S8.ext hT
        have Vx := V8.ext hT
        have hLbx := hLb8.ext hT
        have hLax := hLa8.ext hT
        have hbx := Below.trans hbw8 (Below.mono hT hbw8.size)
        clear hB8 S8 V8 hLb8 hLa8 hT hbw8 hb9 hb10 T9 hL8
        have q0 := hBx.cell 0
        have q8 := Vx.cell 0
        go_wp2_with fail
        clear q0 q8
        go_loopw [12] (fun i wr => ∃ (j : Nat), i = .int .i64 j ∧ j ≤ n3 ∧ Below w10.heap.size w10 wr) (fun i _ => n3 - (intOf i).toNat)
        case atStart => exact ⟨0, rfl, Nat.zero_le _, Below.refl _ _⟩
        case round =>
          obtain ⟨j, rfl, hj, hbj⟩ := hrel
          have hBj := hBx.ext hbj
          have Sj := Sx.ext hbj
          have Vj := Vx.ext hbj
          have hLbj := hLbx.ext hbj
          have hLaj := hLax.ext hbj
          have hbwj := Below.trans hbx (Below.mono hbj hbx.size)
          have q0 := hBj.cell 0
          rcases Nat.lt_or_ge j n3 with hlt | hge
          · have hd : decide ((j : Int) < (n3 : Int)) = true := by simp; omega
            have hjn : (j : Int) < (n3 : Int) := by omega
            obtain ⟨z, hz⟩ : ∃ z, L.hs[j]? = some z := ⟨_, List.getElem?_eq_getElem (by rw [HN1.out]; exact hlt)⟩
            obtain ⟨b3, rfl, hb3l⟩ := hLbj.inv.2.1.some_ (by rw [HHS.out, HN1.out]; omega)
            have HZ := Lib.hid hz
            clear hz
            obtain ⟨zs, zt, zx⟩ := z
            go_wp2_with fail
            have D := fun w' (h : Below wr.heap.size wr.drew w') => (show (w'.cell? ⟨g, 0, none⟩ = some (.slice (some ⟨hb_, 0, none⟩) n3 c1) ∧ w'.cell? ⟨g8, 0, none⟩ = some (.slice (some ⟨b3, 0, none⟩) n3 c3)) ∧ (w'.cell? ⟨hb_, j * 3, none⟩ = some (.int .i64 zs) ∧ w'.cell? ⟨hb_, j * 3 + 1, none⟩ = some (.string zt) ∧ w'.cell? ⟨hb_, j * 3 + 2, none⟩ = some (.bool zx)) ∧ (w'.cell? ⟨b3, j * 3, none⟩ = some (.int .i64 zs) ∧ w'.cell? ⟨b3, j * 3 + 1, none⟩ = some (.string zt) ∧ w'.cell? ⟨b3, j * 3 + 2, none⟩ = some (.bool zx)) from by
              have hh := Below.trans (Below.refl wr.heap.size wr).drew h
              exact ⟨⟨(hBj.ext hh).cell 0, (Vj.ext hh).cell 0⟩, (hLaj.ext hh).inv.2.1.at_ HZ.out, (hLbj.ext hh).inv.2.1.at_ (by rw [HHS.out]; exact HZ.out)⟩)
            have u30 := Try.underlying30
            have u3 := Try.underlying3
            have u9 := Try.underlying9
            have u4 := Try.underlying4
            have hp := stood30
            have hmg := guard30
            refine wp_region_one [(0, true), (1, true), (2, true), (3, true), (4, true), (5, true), (6, true), (7, true), (8, true), (9, true), (10, true)] (by kernel_rfl) (by kernel_rfl) (by kernel_rfl) (by decide) ?_
            repeat ((with_reducible show wpPerm _ _ _ _ ((_, true) :: _) _ _); (first | (refine wpPerm_on (v := ?_) rfl rfl (wanted_free rfl) (fun w' hS => ?_) ?_; rotate_left; (focus (go_simp; (try with_reducible rfl); done)); try simp only [List.setIfInBounds_toArray, List.set_cons_zero, List.set_cons_succ]) | (refine wpPerm_on (v := ?_) rfl rfl (wanted_yes rfl rfl rfl) (fun w' hS => ?_) ?_; rotate_left; (focus (go_simp; (try with_reducible rfl); done)); try simp only [List.setIfInBounds_toArray, List.set_cons_zero, List.set_cons_succ]) | (refine wpPerm_off rfl rfl (wanted_no rfl rfl rfl) ?_; try simp only [List.setIfInBounds_toArray, List.set_cons_zero, List.set_cons_succ]) | (refine wpPerm_off rfl rfl (wanted_undef rfl rfl rfl) ?_; try simp only [List.setIfInBounds_toArray, List.set_cons_zero, List.set_cons_succ])))
            refine wpPerm_done ?_
            clear D u30 u3 u9 u4 hp hmg
            have hbd := hbj.drew
            go_wp2
            exact ⟨⟨j + 1, by go_num, by omega, hbd⟩, by simp [intOf]; omega⟩
          · have hd : decide ((j : Int) < (n3 : Int)) = false := by simp; omega
            go_wp2_with fail
            have D := fun w' (h : Below wr.heap.size wr.drew w') => (show (w'.cell? ⟨g, 0, none⟩ = some (.slice (some ⟨hb_, 0, none⟩) n3 c1) ∧ w'.cell? ⟨g, 1, none⟩ = some (.slice A2 n2 c2)) ∧ (w'.cell? ⟨g8, 0, none⟩ = some (.slice A3 n3 c3) ∧ w'.cell? ⟨g8, 1, none⟩ = some (.slice A4 n4 c4)) ∧ w'.cell? ⟨g1, 0, none⟩ = some (.int .i64 ys) from by
              have hh := Below.trans (Below.refl wr.heap.size wr).drew h
              exact ⟨⟨(hBj.ext hh).cell 0, (hBj.ext hh).cell 1⟩, ⟨(Vj.ext hh).cell 0, (Vj.ext hh).cell 1⟩, (Sj.ext hh).cell 0⟩)
            refine wp_region_one [(0, true), (1, true), (2, true), (5, true), (7, true), (8, true), (3, false), (4, false), (6, false), (9, false), (10, false), (11, true)] (by kernel_rfl) (by kernel_rfl) (by kernel_rfl) (by decide) ?_
            repeat ((with_reducible show wpPerm _ _ _ _ ((_, true) :: _) _ _); (first | (refine wpPerm_on (v := ?_) rfl rfl (wanted_free rfl) (fun w' hS => ?_) ?_; rotate_left; (focus (go_simp; (try with_reducible rfl); done)); try simp only [List.setIfInBounds_toArray, List.set_cons_zero, List.set_cons_succ]) | (refine wpPerm_on (v := ?_) rfl rfl (wanted_yes rfl rfl rfl) (fun w' hS => ?_) ?_; rotate_left; (focus (go_simp; (try with_reducible rfl); done)); try simp only [List.setIfInBounds_toArray, List.set_cons_zero, List.set_cons_succ]) | (refine wpPerm_off rfl rfl (wanted_no rfl rfl rfl) ?_; try simp only [List.setIfInBounds_toArray, List.set_cons_zero, List.set_cons_succ]) | (refine wpPerm_off rfl rfl (wanted_undef rfl rfl rfl) ?_; try simp only [List.setIfInBounds_toArray, List.set_cons_zero, List.set_cons_succ])))
            clear D q0
            have hb0 := (Below.refl wr.heap.size wr).drew
            have hl40 : L.hs.length ≤ 40 ∧ L.ws.length ≤ 40 := ⟨by have := hW.hl; omega, by have := hW.wl; omega⟩
            have hlF : (freeL L ys).hs.length ≤ 40 ∧ (freeL L ys).ws.length ≤ 40 := ⟨Nat.le_trans (woL_len _ _) hl40.1, Nat.le_trans (woL_len _ _) hl40.2⟩
            refine wpPerm_do rfl (wanted_free rfl) (fun K hK => ?_); go_simp
            refine (Free_ Lb ys _ _ (hLbj.ext hb0) (by omega) (by omega)).mono ?_
            rintro e x1 ⟨v1, rfl, hM1, hx1⟩
            rw [HFREE.out] at hM1
            refine hK.out _ _ hx1 ?_
            clear hK K
            refine wpPerm_do rfl (wanted_free rfl) (fun K hK => ?_); go_simp
            refine (toRef_ (freeL L ys) _ _ hM1 (by omega) (by omega)).mono ?_
            rintro e x2 ⟨v2, rfl, hM2, hx2⟩
            have hy2 := Below.trans hx1 (Below.mono hx2 hx1.size)
            refine hK.out _ _ hy2 ?_
            clear hK K
            refine wpPerm_do rfl (wanted_free rfl) (fun K hK => ?_); go_simp
            refine (toRef_ L _ _ ((hLaj.ext hb0).ext hy2) (by omega) (by omega)).mono ?_
            rintro e x3 ⟨v3, rfl, hM3, hx3⟩
            have hy3 := Below.trans hy2 (Below.mono hx3 hy2.size)
            refine hK.out _ _ hy3 ?_
            clear hK K
            refine wpPerm_do rfl (wanted_free rfl) (fun K hK => ?_); go_simp
            refine (rFree_ L ys _ _ hM3 (by omega) (by omega)).mono ?_
            rintro e x4 ⟨v4, rfl, hM4, hx4⟩
            have hy4 := Below.trans hy3 (Below.mono hx4 hy3.size)
            refine hK.out _ _ hy4 ?_
            clear hK K
            refine wpPerm_do rfl (wanted_free rfl) (fun K hK => ?_); go_simp
            refine (rSame_ (freeL L ys) (freeL L ys) _ _ _ ((hM2.ext hx3).ext hx4) hM4 (by omega) (by omega)).mono ?_
            rintro e x5 ⟨rfl, hx5⟩
            rw [decide_eq_true rfl]
            have hy5 := Below.trans hy4 (Below.mono hx5 hy4.size)
            refine hK.out _ _ hy5 ?_
            clear hK K
            repeat ((with_reducible show wpPerm _ _ _ _ ((_, true) :: _) _ _); (first | (refine wpPerm_on (v := ?_) rfl rfl (wanted_free rfl) (fun w' hS => ?_) ?_; rotate_left; (focus (go_simp; (try with_reducible rfl); done)); try simp only [List.setIfInBounds_toArray, List.set_cons_zero, List.set_cons_succ]) | (refine wpPerm_on (v := ?_) rfl rfl (wanted_yes rfl rfl rfl) (fun w' hS => ?_) ?_; rotate_left; (focus (go_simp; (try with_reducible rfl); done)); try simp only [List.setIfInBounds_toArray, List.set_cons_zero, List.set_cons_succ]) | (refine wpPerm_off rfl rfl (wanted_no rfl rfl rfl) ?_; try simp only [List.setIfInBounds_toArray, List.set_cons_zero, List.set_cons_succ]) | (refine wpPerm_off rfl rfl (wanted_undef rfl rfl rfl) ?_; try simp only [List.setIfInBounds_toArray, List.set_cons_zero, List.set_cons_succ])))
            refine wpPerm_done ?_
            go_wp2
            go_ret
            exact ⟨rfl, Below.trans hbwj.drew (Below.mono hy5 hbwj.size)⟩

end Go.Proofs.Ytlfonenjgchklaa.lk
