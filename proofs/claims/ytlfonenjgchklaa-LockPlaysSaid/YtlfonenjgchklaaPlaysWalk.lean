/- LockPlays: the walk. Printed by genplays.py. -/
import Derived.Test.YtlfonenjgchklaaRg4
import Derived.Test.YtlfonenjgchklaaRf3
import Derived.Test.YtlfonenjgchklaaS
import Derived.Test.YtlfonenjgchklaaT
import Derived.Test.YtlfonenjgchklaaPl
import Derived.Deep.CutRange
namespace Go.Proofs.Ytlfonenjgchklaa.lk
open Go.ChangeShapes Go.WideShapes Go.ChangeAt Go.RowKit Go.Proofs.Ytlfonenjgchklaa.lib
set_option linter.unusedVariables false

/-- the variable in block g, of type t, holds the locks L -/
def VaT (t : TypeId) (w : World) (g : Nat) (L : Lk) : Prop := ∃ A n c A' n' c', Blk w g t #[.slice A n c, .slice A' n' c'] ∧ LkR w (.agg #[.slice A n c, .slice A' n' c']) L
theorem VaT.ext {t : TypeId} {w w' : World} {g : Nat} {L : Lk} (h : VaT t w g L) (hb : Below w.heap.size w w') : VaT t w' g L := by
  obtain ⟨A, n, c, A', n', c', h1, h2⟩ := h
  exact ⟨A, n, c, A', n', c', h1.ext hb, h2.ext hb⟩
theorem VaT.lt {t : TypeId} {w : World} {g : Nat} {L : Lk} (h : VaT t w g L) : g < w.heap.size := by
  obtain ⟨A, n, c, A', n', c', h1, h2⟩ := h
  exact h1.lt
/-- another variable of locks is set -/
theorem VaT.keep {t t' : TypeId} {w w' : World} {g g' : Nat} {L : Lk} {x y : Value} (h : VaT t w g L) (hB : Blk w g' t' #[x, y]) (h0 : ∀ z, x ≠ .int .i64 z) (hne : g ≠ g') (hg : w.grownBy w' (some g')) : VaT t w' g L := by
  obtain ⟨A, n, c, A', n', c', h1, h2⟩ := h
  exact ⟨A, n, c, A', n', c', h1.grown hg (by simpa using hne), h2.keep hB (fun z h => h0 z (by simpa using h)) hg⟩
/-- it is set to others -/
theorem setT {t : TypeId} {w : World} {g : Nat} {x y : Value} {A A' : Option Addr} {n c n' c' : Nat} {L : Lk} (hB : Blk w g t #[x, y]) (h0 : ∀ z, x ≠ .int .i64 z) (hL : LkR w (.agg #[.slice A n c, .slice A' n' c']) L) :
    ∃ w', w' = (w.setCell ⟨g, 0, none⟩ (.slice A n c)).setCell ⟨g, 1, none⟩ (.slice A' n' c') ∧ VaT t w' g L ∧ (∀ B, B ≤ g → Below B w w') ∧ w.grownBy w' (some g) := by
  obtain ⟨w', e, h1, h2, h3⟩ := Blk.set2 hB (.slice A n c) (.slice A' n' c')
  exact ⟨w', e, ⟨_, _, _, _, _, _, h1, hL.keep hB (fun z h => h0 z (by simpa using h)) h3⟩, h2, h3⟩
/-- what holds behind one act -/
def CutP (w : World) (g gw gb k : Nat) (L : Lk) (wx : World) : Prop :=
  ∃ L', VaT 26 wx g L' ∧ VaT 40 wx (g + 1) L' ∧ Wf (k + 1) L' ∧ Apart L'.hs ∧ VaT 40 wx gw L ∧ VaT 26 wx gb L ∧ Below w.heap.size w wx

set_option maxHeartbeats 8000000 in
set_option maxRecDepth 1000000 in
theorem plays_walk (A : Option Addr) (n c : Nat) (l : List Ac) (w : World) (hl : l.length = n) (hn : n ≤ maxLen) (hI : Acts w A l) :
    Calls Try.prog 4 #[.slice A n c] w fun e W' => e = .returned (.bool true) ∧ Below w.heap.size w W' := by
  have HL := Lib.hid hl
  unfold maxLen at hn
  clear hl
  go_enter Try.func4, Try.ntmps4
  go_wp2_with fail
  refine (known_ _).mono ?_
  rintro e w1 ⟨rfl, hb1⟩
  go_wp2_with fail
  obtain ⟨W, hW_, hbW1, B0, B1⟩ : ∃ W_, W_ = ((w1.alloc (.cells #[.slice none 0 0, .slice none 0 0] 26)).alloc (.cells #[.slice none 0 0, .slice none 0 0] 40)) ∧ Below w1.heap.size w1 W_ ∧ Blk W_ (w1.heap.size) 26 #[.slice none 0 0, .slice none 0 0] ∧ Blk W_ (w1.heap.size + 1) 40 #[.slice none 0 0, .slice none 0 0] :=
    ⟨_, rfl, (((Below.refl _ _).alloc (Nat.le_refl _) _).alloc (by simp; try omega) _), ((blk_new_at w1 (w1.heap.size) _ _ (by simp)).alloc _), (blk_new_at (w1.alloc (.cells #[.slice none 0 0, .slice none 0 0] 26)) (w1.heap.size + 1) _ _ (by simp))⟩
  rw [← hW_]
  clear hW_
  have hbW := Below.trans hb1 (Below.mono hbW1 hb1.size)
  have hV0 : VaT 26 W w1.heap.size ⟨[], []⟩ := ⟨_, _, _, _, _, _, B0, LkR.none W⟩
  have hX0 : VaT 40 W (w1.heap.size + 1) ⟨[], []⟩ := ⟨_, _, _, _, _, _, B1, LkR.none W⟩
  have hgw : w.heap.size ≤ w1.heap.size := hb1.size
  clear hbW1 hb1 B0 B1
  generalize w1.heap.size = g at *
  go_loopw [5] (fun i wr => ∃ (k : Nat) (L : Lk), i = .int .i64 k ∧ k ≤ n ∧ k ≤ 60 ∧ VaT 26 wr g L ∧ VaT 40 wr (g + 1) L ∧ Wf k L ∧ Apart L.hs ∧ Below w.heap.size w wr) (fun i _ => n - (intOf i).toNat)
  case atStart => exact ⟨0, ⟨[], []⟩, rfl, Nat.zero_le _, Nat.zero_le _, hV0, hX0, Wf.nil 0, List.Pairwise.nil, hbW⟩
  case round =>
    obtain ⟨k, L, rfl, hk, hk60, hV, hX, hW, hap, hbw⟩ := hrel
    clear hV0 hX0 hbW
    by_cases hgo : k < n ∧ k < 60
    case neg =>
      rcases Nat.lt_or_ge k n with hlt | hge
      · have hd1 : decide ((k : Int) < (n : Int)) = true := by simp; omega
        have hd2 : decide ((k : Int) < 60) = false := by simp; omega
        go_wp2
        go_ret
        exact ⟨rfl, hbw⟩
      · have hd1 : decide ((k : Int) < (n : Int)) = false := by simp; omega
        go_wp2
        go_ret
        exact ⟨rfl, hbw⟩
    have hd1 : decide ((k : Int) < (n : Int)) = true := by simp; omega
    have hd2 : decide ((k : Int) < 60) = true := by simp; omega
    have hkn : (k : Int) < (n : Int) := by omega
    obtain ⟨x, hx⟩ : ∃ x, l[k]? = some x := ⟨_, List.getElem?_eq_getElem (by rw [HL.out]; exact hgo.1)⟩
    obtain ⟨ab, ao, rfl, hab, hac⟩ := hI (by rw [HL.out]; omega)
    have hqa := hac k x hx
    have HQA : Hid (∀ w', Below w.heap.size w w' → w'.cell? ⟨ab, ao + k * 4, none⟩ = some (.int .i64 x.k) ∧ w'.cell? ⟨ab, ao + k * 4 + 1, none⟩ = some (.int .i64 x.s) ∧ w'.cell? ⟨ab, ao + k * 4 + 2, none⟩ = some (.int .i64 x.t) ∧ w'.cell? ⟨ab, ao + k * 4 + 3, none⟩ = some (.bool x.x)) := Lib.hid (fun w' h =>
      ⟨(h.cell (by exact hab)).trans hqa.1, (h.cell (by exact hab)).trans hqa.2.1, (h.cell (by exact hab)).trans hqa.2.2.1, (h.cell (by exact hab)).trans hqa.2.2.2⟩)
    clear hx hac hqa
    have qa := HQA.out _ hbw
    go_wp2_with fail
    refine (hold_ x _).mono ?_
    rintro e w3 ⟨rfl, hb3⟩
    have hxb := x.bs
    obtain ⟨hx, hhx⟩ : ∃ h, x.hd = h := ⟨_, rfl⟩
    rw [hhx] at hxb ⊢
    obtain ⟨xs, xt, xx⟩ := hx
    simp only [Hd.arr]
    have hV3 := hV.ext hb3
    have hX3 := hX.ext hb3
    have hbw3 := Below.trans hbw (Below.mono hb3 hbw.size)
    clear hhx hV hX hbw hb3 qa
    obtain ⟨A1, n1, c1, A2, n2, c2, hB, hL⟩ := hV3
    have qv0 := fun o => (hB.alloc o).cell 0
    have qv1 := fun o => (hB.alloc o).cell 1
    have hg3 := hX3.lt
    go_wp2_with fail
    clear qv0 qv1
    obtain ⟨W4, hW_, hbY, E0⟩ : ∃ W_, W_ = (w3.alloc (.cells #[.int .i64 xs, .string xt, .bool xx] 30)) ∧ Below w3.heap.size w3 W_ ∧ Blk W_ (w3.heap.size) 30 #[.int .i64 xs, .string xt, .bool xx] :=
      ⟨_, rfl, ((Below.refl _ _).alloc (Nat.le_refl _) _), (blk_new_at w3 (w3.heap.size) _ _ (by simp))⟩
    rw [← hW_]
    clear hW_
    have hlh := hW.hl
    have hlw := hW.wl
    have hB := hB.ext hbY
    have hL := hL.ext hbY
    have hX4 := hX3.ext hbY
    have hbw4 := Below.trans hbw3 (Below.mono hbY hbw3.size)
    clear hbY hX3 hbw3
    refine (toRef_ L _ _ hL (by omega) (by omega)).mono ?_
    rintro e w5 ⟨v5, rfl, hL5, hb5⟩
    obtain ⟨A5, n5, c5, A6, n6, c6, rfl, hL5⟩ := hL5.parts
    have E0 := E0.ext hb5
    have hB := hB.ext hb5
    have hL := hL.ext hb5
    have hX5 := hX4.ext hb5
    have hbw5 := Below.trans hbw4 (Below.mono hb5 hbw4.size)
    have hz5 := hX5.lt
    have hz5' := E0.lt
    clear hb5 hX4 hbw4
    have qv0 := fun o => (hB.alloc o).cell 0
    have qv1 := fun o => (hB.alloc o).cell 1
    go_upto_region 10 with fail
    clear qv0 qv1
    obtain ⟨W6, hW_, hb6, F1, F2⟩ : ∃ W_, W_ = ((w5.alloc (.cells #[.slice A5 n5 c5, .slice A6 n6 c6] 40)).alloc (.cells #[.slice A1 n1 c1, .slice A2 n2 c2] 26)) ∧ Below w5.heap.size w5 W_ ∧ Blk W_ (w5.heap.size) 40 #[.slice A5 n5 c5, .slice A6 n6 c6] ∧ Blk W_ (w5.heap.size + 1) 26 #[.slice A1 n1 c1, .slice A2 n2 c2] :=
      ⟨_, rfl, (((Below.refl _ _).alloc (Nat.le_refl _) _).alloc (by simp; try omega) _), ((blk_new_at w5 (w5.heap.size) _ _ (by simp)).alloc _), (blk_new_at (w5.alloc (.cells #[.slice A5 n5 c5, .slice A6 n6 c6] 40)) (w5.heap.size + 1) _ _ (by simp))⟩
    rw [← hW_]
    clear hW_
    have hW1 : VaT 40 W6 w5.heap.size L := ⟨_, _, _, _, _, _, F1, hL5.ext hb6⟩
    have hW2 : VaT 26 W6 (w5.heap.size + 1) L := ⟨_, _, _, _, _, _, F2, hL.ext hb6⟩
    have E0 := E0.ext hb6
    have hB := hB.ext hb6
    have hL := hL.ext hb6
    have hX6 := hX5.ext hb6
    have hbw6 := Below.trans hbw5 (Below.mono hb6 hbw5.size)
    have hz6 := hb6.size
    generalize w5.heap.size = gw at *
    generalize w3.heap.size = gh at *
    clear hX5 hL5 hbw5 hb6 F1 F2
    have qa := HQA.out _ hbw6
    go_wp2_with fail
    clear qa
    refine (within_ x.k 6 _ (by omega) (by omega)).mono ?_
    rintro e w7 ⟨rfl, rfl⟩
    obtain ⟨kd, hkd⟩ : ∃ kd, wi x.k 6 = kd := ⟨_, rfl⟩
    rw [hkd]
    clear hkd
    obtain ⟨p5, hp5⟩ : ∃ p5, (kd == 5) = p5 := ⟨_, rfl⟩
    go_upto_if 46 with fail
    have hF := hW.free (s := xs)
    have hapF : Apart (freeL L xs).hs := woL_apart hap
    have hWf := hF.mono (Nat.le_succ k)
    have hWa := hW.ask (h := ⟨xs, xt, xx⟩) hxb
    have hapA : Apart (askL L ⟨xs, xt, xx⟩).hs := ask_apart hap
    go_cut [9, 10, 11, 12] from 22 to 113 (fun _ _ _ _ wx => CutP w g gw (gw + 1) k L wx)
    case first =>
      obtain ⟨B1, m1, d1, B2, m2, d2, hX, hM⟩ := hX6
      have qe := E0.three (Below.refl _ _)
      have q0 := hB.cell 0
      have q1 := hB.cell 1
      have p0 := hX.cell 0
      have p1 := hX.cell 1
      cases p5 with
      | true =>
        go_wp2_with fail
        have HB := Blk.drew hB
        have HX := Blk.drew hX
        have hW1 := hW1.ext (Below.refl _ _).drew
        have hW2 := hW2.ext (Below.refl _ _).drew
        have hL := hL.ext (Below.refl _ _).drew
        have hM := hM.ext (Below.refl _ _).drew
        have hb := hbw6.drew
        have D := fun w' (h : Blk w' gh 30 #[.int .i64 xs, .string xt, .bool xx] ∧ Below w.heap.size w w') => (h.1.three (Below.refl _ _))
        refine wp_region_tree (S := fun w' => Blk w' gh 30 #[.int .i64 xs, .string xt, .bool xx] ∧ Below w.heap.size w w') (.take 1 (.take 2 (.take 5 (.take 6 (.two 0 4 (.two 3 4 (.one 4 (.one 7 (.one 8 (.one 9 .nil)))) (.one 3 (.one 7 (.one 8 (.one 9 .nil))))) (.one 0 (.one 3 (.one 7 (.one 8 (.one 9 .nil))))))))))
          (by kernel_rfl) (by kernel_rfl) (by kernel_rfl) (by decide) (by intro c a d v w h; cases d <;> exact h) ⟨Blk.drew E0, hb⟩ ?_
        repeat ((with_reducible show wpTree _ _ _ _ (.take _ _) _ _); (first | (refine wpTree_on (v := ?_) rfl rfl (wanted_free rfl) (fun w' hS => ?_) ?_; rotate_left; (focus (go_simp; (try with_reducible rfl); done)); try simp only [List.setIfInBounds_toArray, List.set_cons_zero, List.set_cons_succ]) | (refine wpTree_on (v := ?_) rfl rfl (wanted_yes rfl rfl rfl) (fun w' hS => ?_) ?_; rotate_left; (focus (go_simp; (try with_reducible rfl); done)); try simp only [List.setIfInBounds_toArray, List.set_cons_zero, List.set_cons_succ]) | (refine wpTree_off rfl rfl (wanted_no rfl rfl rfl) ?_; try simp only [List.setIfInBounds_toArray, List.set_cons_zero, List.set_cons_succ]) | (refine wpTree_off rfl rfl (wanted_undef rfl rfl rfl) ?_; try simp only [List.setIfInBounds_toArray, List.set_cons_zero, List.set_cons_succ])))
        have E0 := Blk.drew E0
        clear D qe q0 q1 p0 p1 hB hX hbw6
        generalize W6.drew = W7 at *
        refine wpTree_both rfl (wanted_free rfl) rfl (wanted_free rfl) (fun K hK => ?_) (fun K hK => ?_)
        · have z0 := HB.cell 0
          have z1 := HB.cell 1
          go_simp
          refine hK.out _ _ ⟨E0, hb⟩ ?_
          clear hK K z0 z1
          refine wpTree_both rfl (wanted_free rfl) rfl (wanted_free rfl) (fun K hK => ?_) (fun K hK => ?_)
          · go_simp
            refine (Free_ L xs _ _ hL (by omega) (by omega)).mono ?_
            rintro e wy ⟨vy, rfl, hLn, hby⟩
            obtain ⟨A3, n3, c3, A4, n4, c4, rfl, hLn⟩ := hLn.parts
            have hM := hM.ext hby
            have HB := HB.ext hby
            have HX := HX.ext hby
            have E0 := E0.ext hby
            have hW1 := hW1.ext hby
            have hW2 := hW2.ext hby
            have hb := Below.trans hb (Below.mono hby hb.size)
            refine hK.out _ _ ⟨E0, hb⟩ ?_
            clear hK K hby hL
            refine wpTree_do rfl (wanted_free rfl) (fun K hK => ?_)
            have z0 := HX.cell 0
            have z1 := HX.cell 1
            go_simp
            refine hK.out _ _ ⟨E0, hb⟩ ?_
            clear hK K z0 z1
            refine wpTree_do rfl (wanted_free rfl) (fun K hK => ?_)
            go_simp
            refine (rFree_ L xs _ _ hM (by omega) (by omega)).mono ?_
            rintro e wy ⟨vy, rfl, hMn, hby⟩
            obtain ⟨B3, m3, d3, B4, m4, d4, rfl, hMn⟩ := hMn.parts
            have hLn := hLn.ext hby
            have HB := HB.ext hby
            have HX := HX.ext hby
            have E0 := E0.ext hby
            have hW1 := hW1.ext hby
            have hW2 := hW2.ext hby
            have hb := Below.trans hb (Below.mono hby hb.size)
            refine hK.out _ _ ⟨E0, hb⟩ ?_
            clear hK K hby hM
            refine wpTree_do rfl (wanted_free rfl) (fun K hK => ?_)
            have f0 := HB.frozen 0
            have f1 := HB.frozen 1
            have q0 := HB.cell 0
            have q1 := HB.cell 1
            go_simp
            clear f0 f1 q0 q1
            obtain ⟨w8, hw8, VA, hlow, hgr⟩ := setT HB (by simp) hLn
            rw [← hw8]
            clear hw8
            have hb := Below.trans hb (hlow _ hgw)
            have hMn := hMn.keep HB (by intro z; simp) hgr
            have hW1 := hW1.keep HB (by simp) (by omega) hgr
            have hW2 := hW2.keep HB (by simp) (by omega) hgr
            have HX := HX.grown hgr (by simp)
            have E0 := E0.grown hgr (by simp; omega)
            refine hK.out _ _ ⟨E0, hb⟩ ?_
            clear hK K hlow hgr HB hLn
            refine wpTree_do rfl (wanted_free rfl) (fun K hK => ?_)
            have f0 := HX.frozen 0
            have f1 := HX.frozen 1
            have q0 := HX.cell 0
            have q1 := HX.cell 1
            go_simp
            clear f0 f1 q0 q1
            obtain ⟨w9, hw9, VX, hlow, hgr⟩ := setT HX (by simp) hMn
            rw [← hw9]
            clear hw9
            have hb := Below.trans hb (hlow _ (by omega))
            have VA := VA.keep HX (by simp) (by omega) hgr
            have hW1 := hW1.keep HX (by simp) (by omega) hgr
            have hW2 := hW2.keep HX (by simp) (by omega) hgr
            have E0 := E0.grown hgr (by simp; omega)
            refine hK.out _ _ ⟨E0, hb⟩ (wpTree_end ?_)
            clear hK K hlow hgr HX hMn
            go_wp2_with fail
            go_meet
            exact ⟨_, VA, VX, hWf, hapF, hW1, hW2, hb⟩
          · have z0 := HX.cell 0
            have z1 := HX.cell 1
            go_simp
            refine hK.out _ _ ⟨E0, hb⟩ ?_
            clear hK K z0 z1
            refine wpTree_do rfl (wanted_free rfl) (fun K hK => ?_)
            go_simp
            refine (Free_ L xs _ _ hL (by omega) (by omega)).mono ?_
            rintro e wy ⟨vy, rfl, hLn, hby⟩
            obtain ⟨A3, n3, c3, A4, n4, c4, rfl, hLn⟩ := hLn.parts
            have hM := hM.ext hby
            have HB := HB.ext hby
            have HX := HX.ext hby
            have E0 := E0.ext hby
            have hW1 := hW1.ext hby
            have hW2 := hW2.ext hby
            have hb := Below.trans hb (Below.mono hby hb.size)
            refine hK.out _ _ ⟨E0, hb⟩ ?_
            clear hK K hby hL
            refine wpTree_do rfl (wanted_free rfl) (fun K hK => ?_)
            go_simp
            refine (rFree_ L xs _ _ hM (by omega) (by omega)).mono ?_
            rintro e wy ⟨vy, rfl, hMn, hby⟩
            obtain ⟨B3, m3, d3, B4, m4, d4, rfl, hMn⟩ := hMn.parts
            have hLn := hLn.ext hby
            have HB := HB.ext hby
            have HX := HX.ext hby
            have E0 := E0.ext hby
            have hW1 := hW1.ext hby
            have hW2 := hW2.ext hby
            have hb := Below.trans hb (Below.mono hby hb.size)
            refine hK.out _ _ ⟨E0, hb⟩ ?_
            clear hK K hby hM
            refine wpTree_do rfl (wanted_free rfl) (fun K hK => ?_)
            have f0 := HB.frozen 0
            have f1 := HB.frozen 1
            have q0 := HB.cell 0
            have q1 := HB.cell 1
            go_simp
            clear f0 f1 q0 q1
            obtain ⟨w8, hw8, VA, hlow, hgr⟩ := setT HB (by simp) hLn
            rw [← hw8]
            clear hw8
            have hb := Below.trans hb (hlow _ hgw)
            have hMn := hMn.keep HB (by intro z; simp) hgr
            have hW1 := hW1.keep HB (by simp) (by omega) hgr
            have hW2 := hW2.keep HB (by simp) (by omega) hgr
            have HX := HX.grown hgr (by simp)
            have E0 := E0.grown hgr (by simp; omega)
            refine hK.out _ _ ⟨E0, hb⟩ ?_
            clear hK K hlow hgr HB hLn
            refine wpTree_do rfl (wanted_free rfl) (fun K hK => ?_)
            have f0 := HX.frozen 0
            have f1 := HX.frozen 1
            have q0 := HX.cell 0
            have q1 := HX.cell 1
            go_simp
            clear f0 f1 q0 q1
            obtain ⟨w9, hw9, VX, hlow, hgr⟩ := setT HX (by simp) hMn
            rw [← hw9]
            clear hw9
            have hb := Below.trans hb (hlow _ (by omega))
            have VA := VA.keep HX (by simp) (by omega) hgr
            have hW1 := hW1.keep HX (by simp) (by omega) hgr
            have hW2 := hW2.keep HX (by simp) (by omega) hgr
            have E0 := E0.grown hgr (by simp; omega)
            refine hK.out _ _ ⟨E0, hb⟩ (wpTree_end ?_)
            clear hK K hlow hgr HX hMn
            go_wp2_with fail
            go_meet
            exact ⟨_, VA, VX, hWf, hapF, hW1, hW2, hb⟩
        · have z0 := HX.cell 0
          have z1 := HX.cell 1
          go_simp
          refine hK.out _ _ ⟨E0, hb⟩ ?_
          clear hK K z0 z1
          refine wpTree_do rfl (wanted_free rfl) (fun K hK => ?_)
          have z0 := HB.cell 0
          have z1 := HB.cell 1
          go_simp
          refine hK.out _ _ ⟨E0, hb⟩ ?_
          clear hK K z0 z1
          refine wpTree_do rfl (wanted_free rfl) (fun K hK => ?_)
          go_simp
          refine (Free_ L xs _ _ hL (by omega) (by omega)).mono ?_
          rintro e wy ⟨vy, rfl, hLn, hby⟩
          obtain ⟨A3, n3, c3, A4, n4, c4, rfl, hLn⟩ := hLn.parts
          have hM := hM.ext hby
          have HB := HB.ext hby
          have HX := HX.ext hby
          have E0 := E0.ext hby
          have hW1 := hW1.ext hby
          have hW2 := hW2.ext hby
          have hb := Below.trans hb (Below.mono hby hb.size)
          refine hK.out _ _ ⟨E0, hb⟩ ?_
          clear hK K hby hL
          refine wpTree_do rfl (wanted_free rfl) (fun K hK => ?_)
          go_simp
          refine (rFree_ L xs _ _ hM (by omega) (by omega)).mono ?_
          rintro e wy ⟨vy, rfl, hMn, hby⟩
          obtain ⟨B3, m3, d3, B4, m4, d4, rfl, hMn⟩ := hMn.parts
          have hLn := hLn.ext hby
          have HB := HB.ext hby
          have HX := HX.ext hby
          have E0 := E0.ext hby
          have hW1 := hW1.ext hby
          have hW2 := hW2.ext hby
          have hb := Below.trans hb (Below.mono hby hb.size)
          refine hK.out _ _ ⟨E0, hb⟩ ?_
          clear hK K hby hM
          refine wpTree_do rfl (wanted_free rfl) (fun K hK => ?_)
          have f0 := HB.frozen 0
          have f1 := HB.frozen 1
          have q0 := HB.cell 0
          have q1 := HB.cell 1
          go_simp
          clear f0 f1 q0 q1
          obtain ⟨w8, hw8, VA, hlow, hgr⟩ := setT HB (by simp) hLn
          rw [← hw8]
          clear hw8
          have hb := Below.trans hb (hlow _ hgw)
          have hMn := hMn.keep HB (by intro z; simp) hgr
          have hW1 := hW1.keep HB (by simp) (by omega) hgr
          have hW2 := hW2.keep HB (by simp) (by omega) hgr
          have HX := HX.grown hgr (by simp)
          have E0 := E0.grown hgr (by simp; omega)
          refine hK.out _ _ ⟨E0, hb⟩ ?_
          clear hK K hlow hgr HB hLn
          refine wpTree_do rfl (wanted_free rfl) (fun K hK => ?_)
          have f0 := HX.frozen 0
          have f1 := HX.frozen 1
          have q0 := HX.cell 0
          have q1 := HX.cell 1
          go_simp
          clear f0 f1 q0 q1
          obtain ⟨w9, hw9, VX, hlow, hgr⟩ := setT HX (by simp) hMn
          rw [← hw9]
          clear hw9
          have hb := Below.trans hb (hlow _ (by omega))
          have VA := VA.keep HX (by simp) (by omega) hgr
          have hW1 := hW1.keep HX (by simp) (by omega) hgr
          have hW2 := hW2.keep HX (by simp) (by omega) hgr
          have E0 := E0.grown hgr (by simp; omega)
          refine hK.out _ _ ⟨E0, hb⟩ (wpTree_end ?_)
          clear hK K hlow hgr HX hMn
          go_wp2_with fail
          go_meet
          exact ⟨_, VA, VX, hWf, hapF, hW1, hW2, hb⟩
      | false =>
        go_wp2_with fail
        refine (Ask_ L ⟨xs, xt, xx⟩ _ _ hL (by omega) (by omega)).mono ?_
        rintro e w8 ⟨v, rfl, hL8, hb8⟩
        obtain ⟨A3, n3, c3, A4, n4, c4, rfl, hL8⟩ := hL8.parts
        obtain ⟨fb, hfb⟩ : ∃ fb, freeB L ⟨xs, xt, xx⟩ = fb := ⟨_, rfl⟩
        rw [hfb]
        have HFB := Lib.hid hfb
        have HB := hB.ext hb8
        have HX := hX.ext hb8
        have E0 := E0.ext hb8
        have hW1 := hW1.ext hb8
        have hW2 := hW2.ext hb8
        have hM := hM.ext hb8
        have hb := Below.trans hbw6 (Below.mono hb8 hbw6.size)
        have hz8 := hb8.size
        clear hfb hb8 hL hB hX hbw6 qe q0 q1 p0 p1
        have p0 := fun o => (HX.alloc o).cell 0
        have p1 := fun o => (HX.alloc o).cell 1
        have qe := fun o => (E0.alloc o).three (Below.refl _ _)
        go_wp2_with fail
        clear p0 p1 qe
        obtain ⟨W9, hW_, hb9, G1⟩ : ∃ W_, W_ = (w8.alloc (.cells #[.slice A3 n3 c3, .slice A4 n4 c4] 26)) ∧ Below w8.heap.size w8 W_ ∧ Blk W_ (w8.heap.size) 26 #[.slice A3 n3 c3, .slice A4 n4 c4] :=
          ⟨_, rfl, ((Below.refl _ _).alloc (Nat.le_refl _) _), (blk_new_at w8 (w8.heap.size) _ _ (by simp))⟩
        rw [← hW_]
        clear hW_
        have g9n : w8.heap.size ≠ g ∧ w8.heap.size ≠ g + 1 := by have := HX.lt; have := HB.lt; omega
        refine (rAsk_ L ⟨xs, xt, xx⟩ _ _ (hM.ext hb9) (by omega) (by omega) hap).mono ?_
        rintro e wa ⟨v, rfl, hMa, hba⟩
        obtain ⟨B3, m3, d3, B4, m4, d4, rfl, hMa⟩ := hMa.parts
        rw [HFB.out]
        have hbb := Below.trans hb9 (Below.mono hba hb9.size)
        have G1 := G1.ext hba
        have HB := HB.ext hbb
        have HX := HX.ext hbb
        have hW1 := hW1.ext hbb
        have hW2 := hW2.ext hbb
        have hLa := hL8.ext hbb
        have hb := Below.trans hb (Below.mono hbb hb.size)
        clear hb9 hba hbb hM hL8
        have hne : (fb != fb) = false := by simp
        go_wp2_with fail
        clear hne
        obtain ⟨Wb, hW_, hbb, G2⟩ : ∃ W_, W_ = (wa.alloc (.cells #[.slice B3 m3 d3, .slice B4 m4 d4] 40)) ∧ Below wa.heap.size wa W_ ∧ Blk W_ (wa.heap.size) 40 #[.slice B3 m3 d3, .slice B4 m4 d4] :=
          ⟨_, rfl, ((Below.refl _ _).alloc (Nat.le_refl _) _), (blk_new_at wa (wa.heap.size) _ _ (by simp))⟩
        rw [← hW_]
        clear hW_
        have gbn : wa.heap.size ≠ g ∧ wa.heap.size ≠ g + 1 := by have := HX.lt; have := HB.lt; omega
        have G1 := G1.ext hbb
        have HB := HB.ext hbb
        have HX := HX.ext hbb
        have hW1 := hW1.ext hbb
        have hW2 := hW2.ext hbb
        have hLa := hLa.ext hbb
        have hMa := hMa.ext hbb
        have hb := Below.trans hb (Below.mono hbb hb.size)
        generalize w8.heap.size = g9 at *
        generalize wa.heap.size = gb at *
        have D := fun w' (h : (Blk w' g9 26 #[.slice A3 n3 c3, .slice A4 n4 c4] ∧ Blk w' gb 40 #[.slice B3 m3 d3, .slice B4 m4 d4]) ∧ Below w.heap.size w w') => (show (w'.cell? ⟨g9, 0, none⟩ = some (.slice A3 n3 c3) ∧ w'.cell? ⟨g9, 1, none⟩ = some (.slice A4 n4 c4)) ∧ w'.cell? ⟨gb, 0, none⟩ = some (.slice B3 m3 d3) ∧ w'.cell? ⟨gb, 1, none⟩ = some (.slice B4 m4 d4) from ⟨⟨h.1.1.cell 0, h.1.1.cell 1⟩, h.1.2.cell 0, h.1.2.cell 1⟩)
        refine wp_region_oneS (S := fun w' => (Blk w' g9 26 #[.slice A3 n3 c3, .slice A4 n4 c4] ∧ Blk w' gb 40 #[.slice B3 m3 d3, .slice B4 m4 d4]) ∧ Below w.heap.size w w') [(0, true), (1, true), (2, false), (3, false)] (by kernel_rfl) (by kernel_rfl) (by kernel_rfl) (by decide) ⟨⟨Blk.drew G1, Blk.drew G2⟩, hb.drew⟩ ?_
        repeat ((with_reducible show wpPerm _ _ _ _ ((_, true) :: _) _ _); (first | (refine wpPerm_on (v := ?_) rfl rfl (wanted_free rfl) (fun w' hS => ?_) ?_; rotate_left; (focus (go_simp; (try with_reducible rfl); done)); try simp only [List.setIfInBounds_toArray, List.set_cons_zero, List.set_cons_succ]) | (refine wpPerm_on (v := ?_) rfl rfl (wanted_yes rfl rfl rfl) (fun w' hS => ?_) ?_; rotate_left; (focus (go_simp; (try with_reducible rfl); done)); try simp only [List.setIfInBounds_toArray, List.set_cons_zero, List.set_cons_succ]) | (refine wpPerm_off rfl rfl (wanted_no rfl rfl rfl) ?_; try simp only [List.setIfInBounds_toArray, List.set_cons_zero, List.set_cons_succ]) | (refine wpPerm_off rfl rfl (wanted_undef rfl rfl rfl) ?_; try simp only [List.setIfInBounds_toArray, List.set_cons_zero, List.set_cons_succ])))
        clear D
        have HB := Blk.drew HB
        have HX := Blk.drew HX
        have G1 := Blk.drew G1
        have G2 := Blk.drew G2
        have hW1 := hW1.ext (Below.refl _ _).drew
        have hW2 := hW2.ext (Below.refl _ _).drew
        have hLa := hLa.ext (Below.refl _ _).drew
        have hMa := hMa.ext (Below.refl _ _).drew
        have hb := hb.drew
        clear hbb
        generalize Wb.drew = Wc at *
        have f0 := HB.frozen 0
        have f1 := HB.frozen 1
        have q0 := HB.cell 0
        have q1 := HB.cell 1
        refine wpPerm_do rfl (wanted_free rfl) (fun K hK => ?_); go_simp
        clear f0 f1 q0 q1
        obtain ⟨wd, hwd, VA, hlow, hgr⟩ := setT HB (by simp) hLa
        rw [← hwd]
        clear hwd
        have hb := Below.trans hb (hlow _ hgw)
        have hMa := hMa.keep HB (by intro z; simp) hgr
        have hW1 := hW1.keep HB (by simp) (by omega) hgr
        have hW2 := hW2.keep HB (by simp) (by omega) hgr
        have HX := HX.grown hgr (by simp)
        have G1 := G1.grown hgr (by simp; omega)
        have G2 := G2.grown hgr (by simp; omega)
        refine hK.out _ _ ⟨⟨G1, G2⟩, hb⟩ ?_
        clear hK K hlow hgr HB hLa
        have f0 := HX.frozen 0
        have f1 := HX.frozen 1
        have q0 := HX.cell 0
        have q1 := HX.cell 1
        refine wpPerm_do rfl (wanted_free rfl) (fun K hK => ?_); go_simp
        clear f0 f1 q0 q1
        obtain ⟨we, hwe, VX, hlow, hgr⟩ := setT HX (by simp) hMa
        rw [← hwe]
        clear hwe
        have hb := Below.trans hb (hlow _ (by omega))
        have VA := VA.keep HX (by simp) (by omega) hgr
        have hW1 := hW1.keep HX (by simp) (by omega) hgr
        have hW2 := hW2.keep HX (by simp) (by omega) hgr
        have G1 := G1.grown hgr (by simp; omega)
        have G2 := G2.grown hgr (by simp; omega)
        refine hK.out _ _ ⟨⟨G1, G2⟩, hb⟩ (wpPerm_done ?_)
        clear hK K hlow hgr HX hMa
        go_wp2_with fail
        go_meet
        exact ⟨_, VA, VX, hWa, hapA, hW1, hW2, hb⟩
    case rest =>
      obtain ⟨L', hV', hX', hW', hap', hw1, hw2, hbx⟩ := hcut
      clear hX6 hW1 hW2 hB hL E0 hF hapF hWf hWa hapA hbw6 hz5 hz5' hg3 hz6 hp5
      obtain ⟨A1, n1, c1, A2, n2, c2, hB, hL⟩ := hV'
      obtain ⟨B1, m1, d1, B2, m2, d2, hX, hM⟩ := hX'
      obtain ⟨A3, n3, c3, A4, n4, c4, hC, hP⟩ := hw1
      obtain ⟨A5, n5, c5, A6, n6, c6, hD, hQ⟩ := hw2
      rename World => wc
      have hl' := hW'.hl
      have hwl' := hW'.wl
      go_wp2_with fail
      have D := fun w' (h : Below wc.heap.size wc.drew w') => (show ((w'.cell? ⟨g, 0, none⟩ = some (.slice A1 n1 c1) ∧ w'.cell? ⟨g, 1, none⟩ = some (.slice A2 n2 c2)) ∧ (w'.cell? ⟨g + 1, 0, none⟩ = some (.slice B1 m1 d1) ∧ w'.cell? ⟨g + 1, 1, none⟩ = some (.slice B2 m2 d2))) ∧ (w'.cell? ⟨gw, 0, none⟩ = some (.slice A3 n3 c3) ∧ w'.cell? ⟨gw, 1, none⟩ = some (.slice A4 n4 c4)) ∧ w'.cell? ⟨gw + 1, 0, none⟩ = some (.slice A5 n5 c5) ∧ w'.cell? ⟨gw + 1, 1, none⟩ = some (.slice A6 n6 c6) from
        have e := Below.trans (Below.refl _ _).drew h
        ⟨⟨⟨(hB.ext e).cell 0, (hB.ext e).cell 1⟩, (hX.ext e).cell 0, (hX.ext e).cell 1⟩, ⟨(hC.ext e).cell 0, (hC.ext e).cell 1⟩, (hD.ext e).cell 0, (hD.ext e).cell 1⟩)
      refine wp_region_one [(0, true), (2, true), (1, false), (3, false), (4, true), (5, true), (6, true), (8, true), (7, false), (9, false), (10, true), (11, true)] (by kernel_rfl) (by kernel_rfl) (by kernel_rfl) (by decide) ?_
      repeat ((with_reducible show wpPerm _ _ _ _ ((_, true) :: _) _ _); (first | (refine wpPerm_on (v := ?_) rfl rfl (wanted_free rfl) (fun w' hS => ?_) ?_; rotate_left; (focus (go_simp; (try with_reducible rfl); done)); try simp only [List.setIfInBounds_toArray, List.set_cons_zero, List.set_cons_succ]) | (refine wpPerm_on (v := ?_) rfl rfl (wanted_yes rfl rfl rfl) (fun w' hS => ?_) ?_; rotate_left; (focus (go_simp; (try with_reducible rfl); done)); try simp only [List.setIfInBounds_toArray, List.set_cons_zero, List.set_cons_succ]) | (refine wpPerm_off rfl rfl (wanted_no rfl rfl rfl) ?_; try simp only [List.setIfInBounds_toArray, List.set_cons_zero, List.set_cons_succ]) | (refine wpPerm_off rfl rfl (wanted_undef rfl rfl rfl) ?_; try simp only [List.setIfInBounds_toArray, List.set_cons_zero, List.set_cons_succ])))
      refine wpPerm_do rfl (wanted_free rfl) (fun K hK => ?_); go_simp
      refine (toRef_ L' _ _ (hL.ext (Below.refl _ _).drew) (by omega) (by omega)).mono ?_
      rintro e x2 ⟨v2, rfl, hN2, hx2⟩
      have hy2 := Below.trans (Below.refl wc.heap.size wc).drew hx2
      refine hK.out _ _ hx2 ?_
      clear hK K
      refine wpPerm_do rfl (wanted_free rfl) (fun K hK => ?_); go_simp
      refine (rSame_ L' L' _ _ _ hN2 (hM.ext hy2) (by omega) (by omega)).mono ?_
      rintro e x3 ⟨rfl, hx3⟩
      rw [decide_eq_true rfl]
      have hz3 := Below.trans hx2 (Below.mono hx3 hx2.size)
      have hy3 := Below.trans hy2 (Below.mono hx3 hy2.size)
      refine hK.out _ _ hz3 ?_
      clear hK K hN2 hx2 hx3 hy2
      repeat ((with_reducible show wpPerm _ _ _ _ ((_, true) :: _) _ _); (first | (refine wpPerm_on (v := ?_) rfl rfl (wanted_free rfl) (fun w' hS => ?_) ?_; rotate_left; (focus (go_simp; (try with_reducible rfl); done)); try simp only [List.setIfInBounds_toArray, List.set_cons_zero, List.set_cons_succ]) | (refine wpPerm_on (v := ?_) rfl rfl (wanted_yes rfl rfl rfl) (fun w' hS => ?_) ?_; rotate_left; (focus (go_simp; (try with_reducible rfl); done)); try simp only [List.setIfInBounds_toArray, List.set_cons_zero, List.set_cons_succ]) | (refine wpPerm_off rfl rfl (wanted_no rfl rfl rfl) ?_; try simp only [List.setIfInBounds_toArray, List.set_cons_zero, List.set_cons_succ]) | (refine wpPerm_off rfl rfl (wanted_undef rfl rfl rfl) ?_; try simp only [List.setIfInBounds_toArray, List.set_cons_zero, List.set_cons_succ])))
      refine wpPerm_do rfl (wanted_yes rfl rfl rfl) (fun K hK => ?_); go_simp
      refine (toRef_ L _ _ (hQ.ext hy3) (by omega) (by omega)).mono ?_
      rintro e x4 ⟨v4, rfl, hN4, hx4⟩
      have hz4 := Below.trans hz3 (Below.mono hx4 hz3.size)
      have hy4 := Below.trans hy3 (Below.mono hx4 hy3.size)
      refine hK.out _ _ hz4 ?_
      clear hK K hz3 hx4 hy3
      refine wpPerm_do rfl (wanted_yes rfl rfl rfl) (fun K hK => ?_); go_simp
      refine (rSame_ L L _ _ _ hN4 (hP.ext hy4) (by omega) (by omega)).mono ?_
      rintro e x5 ⟨rfl, hx5⟩
      rw [decide_eq_true rfl]
      have hz5 := Below.trans hz4 (Below.mono hx5 hz4.size)
      have hy5 := Below.trans hy4 (Below.mono hx5 hy4.size)
      refine hK.out _ _ hz5 ?_
      clear hK K hN4 hx5 hz4 hy4
      clear D
      repeat ((with_reducible show wpPerm _ _ _ _ ((_, true) :: _) _ _); (first | (refine wpPerm_on (v := ?_) rfl rfl (wanted_free rfl) (fun w' hS => ?_) ?_; rotate_left; (focus (go_simp; (try with_reducible rfl); done)); try simp only [List.setIfInBounds_toArray, List.set_cons_zero, List.set_cons_succ]) | (refine wpPerm_on (v := ?_) rfl rfl (wanted_yes rfl rfl rfl) (fun w' hS => ?_) ?_; rotate_left; (focus (go_simp; (try with_reducible rfl); done)); try simp only [List.setIfInBounds_toArray, List.set_cons_zero, List.set_cons_succ]) | (refine wpPerm_off rfl rfl (wanted_no rfl rfl rfl) ?_; try simp only [List.setIfInBounds_toArray, List.set_cons_zero, List.set_cons_succ]) | (refine wpPerm_off rfl rfl (wanted_undef rfl rfl rfl) ?_; try simp only [List.setIfInBounds_toArray, List.set_cons_zero, List.set_cons_succ])))
      refine wpPerm_done ?_
      have hB := hB.ext hy5
      have hL := hL.ext hy5
      have hX := hX.ext hy5
      have hM := hM.ext hy5
      have hb := Below.trans hbx (Below.mono hy5 hbx.size)
      clear hC hP hD hQ hz5 hy5 hbx
      generalize x5 = x6 at *
      go_wp2_with fail
      have hV0 : VaT 26 x6 g L' := ⟨_, _, _, _, _, _, hB, hL⟩
      have hX0 : VaT 40 x6 (g + 1) L' := ⟨_, _, _, _, _, _, hX, hM⟩
      have hb0 := hb
      clear hB hL hX hM hb
      go_loopw [13] (fun i wr => ∃ (s : Nat), i = .int .i64 s ∧ s ≤ 8 ∧ VaT 26 wr g L' ∧ VaT 40 wr (g + 1) L' ∧ Below w.heap.size w wr) (fun i _ => 8 - (intOf i).toNat)
      case atStart => exact ⟨0, rfl, Nat.zero_le _, hV0, hX0, hb0⟩
      case round =>
        obtain ⟨s, rfl, hs, hV, hX, hbw⟩ := hrel
        clear hV0 hX0 hb0
        rcases Nat.lt_or_ge s 8 with hlt | hge
        · have hd : decide ((s : Int) < 8) = true := by simp; omega
          obtain ⟨A1, n1, c1, A2, n2, c2, hB, hL⟩ := hV
          have q0 := hB.cell 0
          have q1 := hB.cell 1
          go_wp2_with fail
          clear q0 q1
          refine (Victim_ L' (s : Int) _ _ hL (by omega) (by omega) (fun o ho => bs_bd (hW'.hb o ho)) (fun o ho => bs_bd (hW'.wb o ho)) (by unfold bd; omega)).mono ?_
          rintro e w3 ⟨v, is, rfl, hv, hb3⟩
          have hV3 : VaT 26 w3 g L' := ⟨_, _, _, _, _, _, hB.ext hb3, hL.ext hb3⟩
          obtain ⟨B1, m1, d1, B2, m2, d2, hC, hP⟩ := hX.ext hb3
          have hbw3 := Below.trans hbw (Below.mono hb3 hbw.size)
          have q0 := hC.cell 0
          have q1 := hC.cell 1
          clear hB hL hX hbw hb3
          go_wp2_with fail
          clear q0 q1
          refine (rVictim_ L' (s : Int) _ _ hP (by omega) (by omega)).mono ?_
          rintro e w4 ⟨v', is', rfl, hv', hb4⟩
          obtain ⟨rfl, rfl⟩ := hv.one hv'
          have hV4 := hV3.ext hb4
          have hX4 : VaT 40 w4 (g + 1) L' := ⟨_, _, _, _, _, _, hC.ext hb4, hP.ext hb4⟩
          have hbw4 := Below.trans hbw3 (Below.mono hb4 hbw3.size)
          clear hv hv' hV3 hC hP hbw3 hb4
          have hvv : (v != v) = false := by simp
          have hii : (is != is) = false := by simp
          go_wp2
          go_roundw
          case rel => exact ⟨s + 1, by go_num, by omega, hV4, hX4, hbw4⟩
          case measure => simp [intOf]; omega
        · have hd : decide ((s : Int) < 8) = false := by simp; omega
          have hs8 : s = 8 := by omega
          go_wp2
          exact ⟨⟨k + 1, L', by go_num, by omega, by omega, hV, hX, hW', hap', hbw⟩, by simp [intOf]; omega⟩
end Go.Proofs.Ytlfonenjgchklaa.lk
