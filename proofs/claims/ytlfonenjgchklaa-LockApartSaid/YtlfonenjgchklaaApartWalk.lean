/- LockApart: the walk. Printed by genapart.py. -/
import Derived.Test.YtlfonenjgchklaaAp
import Derived.Test.YtlfonenjgchklaaS
import Derived.Laws.StructEq
namespace Go.Proofs.Ytlfonenjgchklaa.lk
open Go.ChangeShapes Go.WideShapes Go.ChangeAt Go.RowKit Go.Proofs.Ytlfonenjgchklaa.lib
set_option linter.unusedVariables false

theorem Va.below {w w' : World} {g B : Nat} {L : Lk} (h : Va w g L) (hb : Below B w w') (hB : w.heap.size ≤ B) : Va w' g L := h.ext (Below.mono hb hB)
set_option maxHeartbeats 4000000 in
set_option maxRecDepth 1000000 in
theorem apart_walk (A : Option Addr) (n c : Nat) (l : List Ac) (w : World) (hl : l.length = n) (hn : n ≤ maxLen) (hI : Acts w A l) :
    Calls Try.prog 5 #[.slice A n c] w fun e W' => e = .returned (.bool true) ∧ Below w.heap.size w W' := by
  have HL := Lib.hid hl
  unfold maxLen at hn
  clear hl
  go_enter Try.func5, Try.ntmps5
  go_wp2_with fail
  refine (known_ _).mono ?_
  rintro e w1 ⟨rfl, hb1⟩
  go_wp2_with fail
  obtain ⟨W, hW_, hbW1, B0⟩ : ∃ W_, W_ = (w1.alloc (.cells #[.slice none 0 0, .slice none 0 0] 26)) ∧ Below w1.heap.size w1 W_ ∧ Blk W_ (w1.heap.size) 26 #[.slice none 0 0, .slice none 0 0] :=
    ⟨_, rfl, ((Below.refl _ _).alloc (Nat.le_refl _) _), (blk_new_at w1 (w1.heap.size) _ _ (by simp))⟩
  rw [← hW_]
  clear hW_
  have hbW := Below.trans hb1 (Below.mono hbW1 hb1.size)
  have hV0 : Va W w1.heap.size ⟨[], []⟩ := ⟨_, _, _, _, _, _, B0, LkR.none W⟩
  have hgw : w.heap.size ≤ w1.heap.size := hb1.size
  clear hbW1 hb1 B0
  generalize w1.heap.size = g at *
  go_loopw [4] (fun i wr => ∃ (k : Nat) (L : Lk), i = .int .i64 k ∧ k ≤ n ∧ k ≤ 60 ∧ Va wr g L ∧ Wf k L ∧ Apart L.hs ∧ Once L.ws ∧ Below w.heap.size w wr) (fun i _ => n - (intOf i).toNat)
  case atStart => exact ⟨0, ⟨[], []⟩, rfl, Nat.zero_le _, Nat.zero_le _, hV0, Wf.nil 0, List.Pairwise.nil, List.Pairwise.nil, hbW⟩
  case round =>
    obtain ⟨k, L, rfl, hk, hk60, hV, hW, hap, hon, hbw⟩ := hrel
    clear hV0 hbW
    by_cases hgo : k < n ∧ k < 60
    · have hd1 : decide ((k : Int) < (n : Int)) = true := by simp; omega
      have hd2 : decide ((k : Int) < 60) = true := by simp; omega
      have hkn : (k : Int) < (n : Int) := by omega
      obtain ⟨x, hx⟩ : ∃ x, l[k]? = some x := ⟨_, List.getElem?_eq_getElem (by rw [HL.out]; exact hgo.1)⟩
      obtain ⟨ab, ao, rfl, hab, hac⟩ := hI (by rw [HL.out]; omega)
      have hqa := hac k x hx
      have HQA : Hid (∀ w', Below w.heap.size w w' → w'.cell? ⟨ab, ao + k * 4, none⟩ = some (.int .i64 x.k) ∧ w'.cell? ⟨ab, ao + k * 4 + 1, none⟩ = some (.int .i64 x.s) ∧ w'.cell? ⟨ab, ao + k * 4 + 2, none⟩ = some (.int .i64 x.t) ∧ w'.cell? ⟨ab, ao + k * 4 + 3, none⟩ = some (.bool x.x)) := Lib.hid (fun w' h =>
        ⟨(h.cell (by exact hab)).trans hqa.1, (h.cell (by exact hab)).trans hqa.2.1, (h.cell (by exact hab)).trans hqa.2.2.1, (h.cell (by exact hab)).trans hqa.2.2.2⟩)
      clear hx hac hqa
      have qa := HQA.out _ hbw
      go_wp2_with fail
      refine (hold_ x _).mono ?_
      rintro e w3 ⟨rfl, hb3⟩
      have hxb := x.bs
      obtain ⟨hx, hhx⟩ : ∃ h, x.hd = h := ⟨_, rfl⟩
      rw [hhx] at hxb ⊢
      obtain ⟨xs, xt, xx⟩ := hx
      simp only [Hd.arr]
      have hV3 := hV.ext hb3
      have hbw3 := Below.trans hbw (Below.mono hb3 hbw.size)
      clear hhx hV hbw hb3 qa
      have qa := fun o => HQA.out (w3.alloc o) (hbw3.alloc hbw3.size o)
      go_wp2_with fail
      clear qa
      obtain ⟨W4, hW_, hbY, E0⟩ : ∃ W_, W_ = (w3.alloc (.cells #[.int .i64 xs, .string xt, .bool xx] 30)) ∧ Below w3.heap.size w3 W_ ∧ Blk W_ (w3.heap.size) 30 #[.int .i64 xs, .string xt, .bool xx] :=
        ⟨_, rfl, ((Below.refl _ _).alloc (Nat.le_refl _) _), (blk_new_at w3 (w3.heap.size) _ _ (by simp))⟩
      rw [← hW_]
      clear hW_
      have hV4 := hV3.ext hbY
      have hbw4 := Below.trans hbw3 (Below.mono hbY hbw3.size)
      have hg4 := hV3.lt
      generalize w3.heap.size = gh at *
      clear hbY hV3 hbw3
      refine (within_ x.k 6 _ (by omega) (by omega)).mono ?_
      rintro e w5 ⟨rfl, rfl⟩
      obtain ⟨kd, hkd⟩ : ∃ kd, wi x.k 6 = kd := ⟨_, rfl⟩
      rw [hkd]
      clear hkd
      obtain ⟨A1, n1, c1, A2, n2, c2, hB, hL⟩ := hV4
      have q0 := hB.cell 0
      have q1 := hB.cell 1
      have qe := E0.three (Below.refl _ _)
      cases hk5 : (kd == 5) with
      | true =>
        go_wp2_with fail
        refine (Free_ L xs _ _ hL (by have := hW.hl; omega) (by have := hW.wl; omega)).mono ?_
        rintro e w6 ⟨v, rfl, hL6, hb6⟩
        obtain ⟨A3, n3, c3, A4, n4, c4, rfl, hL6⟩ := hL6.parts
        have hB6 := hB.ext hb6
        have hbw6 := Below.trans hbw4 (Below.mono hb6 hbw4.size)
        clear q0 q1 qe hB hL hb6 hbw4
        have f0 := hB6.frozen 0
        have f1 := hB6.frozen 1
        have q0 := hB6.cell 0
        have q1 := hB6.cell 1
        go_wp2_with fail
        clear f0 f1 q0 q1
        obtain ⟨w7, hw7, C7, hL7, hlow, hgr⟩ := Va.set hB6 (by simp) hL6
        rw [← hw7]
        clear hw7
        have hbz := Below.trans hbw6 (hlow _ hgw)
        have hW7 := (hW.free (s := xs)).mono (Nat.le_succ _)
        have hap7 : Apart (freeL L xs).hs := woL_apart hap
        have hon7 : Once (freeL L xs).ws := woL_once hon
        have hVz : Va w7 g (freeL L xs) := ⟨_, _, _, _, _, _, C7, hL7⟩
        clear hlow hgr C7 hL7 hbw6 hB6 hL6 hW hap hon
        generalize freeL L xs = LL at *
        go_loopw [9] (fun i wr => ∃ (p : Nat), i = .int .i64 p ∧ p ≤ LL.hs.length ∧ Va wr g LL ∧ Below w.heap.size w wr) (fun i _ => LL.hs.length - (intOf i).toNat)
        case atStart => exact ⟨0, rfl, Nat.zero_le _, hVz, hbz⟩
        case round =>
          obtain ⟨p, rfl, hp, hV, hby⟩ := hrel
          clear hVz hbz
          obtain ⟨A1, n1, c1, A2, n2, c2, hB, hL⟩ := hV
          have hn1 : n1 ≤ 61 := by have := hL.inv.1; have := hW7.hl; omega
          have HI1 := Lib.hid hL.inv.1
          have q0 := hB.cell 0
          have q1 := hB.cell 1
          rcases Nat.lt_or_ge p n1 with hpl | hpg
          · have hd : decide ((p : Int) < (n1 : Int)) = true := by simp; omega
            go_wp2_with fail
            have hVx : Va wr g LL := ⟨A1, n1, c1, A2, n2, c2, hB, hL⟩
            clear hB hL q0 q1 hd
            go_loopw [10] (fun i wr => ∃ (q : Nat), i = .int .i64 q ∧ q ≤ p ∧ Va wr g LL ∧ Below w.heap.size w wr) (fun i _ => p - (intOf i).toNat)
            case atStart => exact ⟨0, rfl, Nat.zero_le _, hVx, hby⟩
            case round =>
              obtain ⟨q, rfl, hq, hV, hbw⟩ := hrel
              clear hVx hby
              rcases Nat.lt_or_ge q p with hql | hqg
              · have hd : decide ((q : Int) < (p : Int)) = true := by simp; omega
                obtain ⟨B1, m1, d1, B2, m2, d2, hB, hL⟩ := hV
                have hinv := hL.inv
                have hpm : p < m1 := by have := HI1.out; omega
                have hpi : (p : Int) < (m1 : Int) := by omega
                have hqi : (q : Int) < (m1 : Int) := by omega
                obtain ⟨a, ha⟩ : ∃ a, LL.hs[p]? = some a := ⟨_, List.getElem?_eq_getElem (by rw [hinv.1]; exact hpm)⟩
                obtain ⟨b, hb⟩ : ∃ b, LL.hs[q]? = some b := ⟨_, List.getElem?_eq_getElem (by rw [hinv.1]; omega)⟩
                obtain ⟨hb_, rfl, hbl_⟩ := hinv.2.1.some_ (by rw [hinv.1]; omega)
                have hcf := hap7.at_ ha hb (by omega)
                have HA := Lib.hid ha
                have HB := Lib.hid hb
                clear ha hb hinv
                obtain ⟨as_, at_, ax⟩ := a
                obtain ⟨bs_, bt, bx⟩ := b
                go_wp2_with fail
                have D := fun w' (h : Below wr.heap.size wr.drew w') => (show w'.cell? ⟨g, 0, none⟩ = some (.slice (some ⟨hb_, 0, none⟩) m1 d1) ∧ w'.cell? ⟨hb_, p * 3, none⟩ = some (.int .i64 as_) ∧ w'.cell? ⟨hb_, p * 3 + 1, none⟩ = some (.string at_) ∧ w'.cell? ⟨hb_, p * 3 + 2, none⟩ = some (.bool ax) ∧ w'.cell? ⟨hb_, q * 3, none⟩ = some (.int .i64 bs_) ∧ w'.cell? ⟨hb_, q * 3 + 1, none⟩ = some (.string bt) ∧ w'.cell? ⟨hb_, q * 3 + 2, none⟩ = some (.bool bx) from by
                  have hx := (hL.ext (Below.trans (Below.refl _ _).drew h)).inv.2.1
                  have h1 := hx.at_ HA.out
                  have h2 := hx.at_ HB.out
                  exact ⟨(hB.ext (Below.trans (Below.refl _ _).drew h)).cell 0, h1.1, h1.2.1, h1.2.2, h2.1, h2.2.1, h2.2.2⟩)
                refine wp_region_mix2 ⟨10, 11, fun g => .pointer (some ⟨g, 0, none⟩), .cells #[.int .i64 0, .string ⟨#[]⟩, .bool false] 30⟩ ⟨11, 12, fun g => .pointer (some ⟨g, 0, none⟩), .cells #[.int .i64 0, .string ⟨#[]⟩, .bool false] 30⟩
                  [(0, true), (1, true), (2, true), (3, true), (4, true), (5, true), (6, true), (7, true), (8, true), (9, true)] [] [(12, false), (13, false)] (by kernel_rfl) (by kernel_rfl) ?_
                repeat ((with_reducible show wpI _ _ _ _ _ ((_, true) :: _) _ _); (first | (refine wpI_on (v := ?_) rfl rfl (wanted_free rfl) (fun w' hS => ?_) ?_; rotate_left; (focus (go_simp; (try with_reducible rfl); done)); try simp only [List.setIfInBounds_toArray, List.set_cons_zero, List.set_cons_succ]) | (refine wpI_on (v := ?_) rfl rfl (wanted_yes rfl rfl rfl) (fun w' hS => ?_) ?_; rotate_left; (focus (go_simp; (try with_reducible rfl); done)); try simp only [List.setIfInBounds_toArray, List.set_cons_zero, List.set_cons_succ]) | (refine wpI_off rfl rfl (wanted_no rfl rfl rfl) ?_; try simp only [List.setIfInBounds_toArray, List.set_cons_zero, List.set_cons_succ]) | (refine wpI_off rfl rfl (wanted_undef rfl rfl rfl) ?_; try simp only [List.setIfInBounds_toArray, List.set_cons_zero, List.set_cons_succ])))
                refine wpI_done ⟨?_, ?_⟩
                · intro u hu
                  simp only [List.mem_cons, List.not_mem_nil, or_false] at hu
                  rcases hu with rfl | rfl <;> exact ⟨_, rfl, rfl, wanted_free rfl, fun w => by go_simp⟩
                clear D
                refine wpI_done ?_
                intro g1 g2 wf he hb hlo1 hhi1 hat1 hlo2 hhi2 hat2 hne
                go_frame
                have C1 := blk_get hat1
                have C2 := blk_get hat2
                have f0 := C1.frozen 0
                have f1 := C1.frozen 1
                have f2 := C1.frozen 2
                have q0 := C1.three (Below.refl _ _)
                refine wpPerm_do rfl (wanted_free rfl) (fun K hK => ?_); go_simp
                clear f0 f1 f2 q0
                obtain ⟨w5, hw5, C5, hlow5, hfar5, hsz5⟩ := C1.set3 (.int .i64 as_) (.string at_) (.bool ax)
                rw [← hw5]
                clear hw5
                have C2' := hfar5 _ _ _ (Ne.symm hne) C2
                have hb5 := Below.trans hb (hlow5 _ hlo1)
                refine hK.out _ _ hb5 ?_
                clear hK K C2
                have f0 := C2'.frozen 0
                have f1 := C2'.frozen 1
                have f2 := C2'.frozen 2
                have q0 := C2'.three (Below.refl _ _)
                refine wpPerm_do rfl (wanted_free rfl) (fun K hK => ?_); go_simp
                clear f0 f1 f2 q0
                obtain ⟨w6, hw6, C6, hlow6, hfar6, hsz6⟩ := C2'.set3 (.int .i64 bs_) (.string bt) (.bool bx)
                rw [← hw6]
                clear hw6
                have C7 := hfar6 _ _ _ hne C5
                have hb6 := Below.trans hb5 (hlow6 _ hlo2)
                refine hK.out _ _ hb6 (wpPerm_done ?_)
                clear hK K
                have hT := Below.trans (Below.refl wr.heap.size wr).drew hb6
                have hVn : Va w6 g LL := ⟨_, _, _, _, _, _, hB.ext hT, hL.ext hT⟩
                have hbn := Below.trans hbw (Below.mono hT hbw.size)
                have r1 := C7.three (Below.refl _ _)
                have r2 := C6.three (Below.refl _ _)
                clear hB hL hT hbw hb hb5 hb6 C1 C2' C5 C6 C7 hlow5 hfar5 hlow6 hfar6
                unfold cf at hcf
                simp only at hcf
                rw [← tl_beq] at hcf
                cases ht : (at_.toList == bt.toList) with
                | false =>
                  clear hcf
                  go_wp2
                  exact ⟨⟨q + 1, by go_num, by omega, hVn, hbn⟩, by simp [intOf]; omega⟩
                | true =>
                  rw [ht] at hcf
                  simp only [Bool.true_and, Bool.or_eq_false_iff] at hcf
                  obtain ⟨hs0, hx0, hy0⟩ := hcf
                  subst hx0 hy0
                  go_wp2
                  exact ⟨⟨q + 1, by go_num, by omega, hVn, hbn⟩, by simp [intOf]; omega⟩
              · have hd : decide ((q : Int) < (p : Int)) = false := by simp; omega
                go_wp2
                exact ⟨⟨p + 1, by go_num, by have := HI1.out; omega, hV, hbw⟩, by have := HI1.out; simp [intOf]; omega⟩
          · have hd : decide ((p : Int) < (n1 : Int)) = false := by simp; omega
            go_wp2_with fail
            have hdf : decide (p < n1) = false := by simp; omega
            rw [hdf]
            have hVx : Va wr g LL := ⟨A1, n1, c1, A2, n2, c2, hB, hL⟩
            clear hB hL q0 q1 hd hdf hpg hp hn1 HI1
            go_loopw [13] (fun i wr => ∃ (p : Nat), i = .int .i64 p ∧ p ≤ LL.ws.length ∧ Va wr g LL ∧ Below w.heap.size w wr) (fun i _ => LL.ws.length - (intOf i).toNat)
            case atStart => exact ⟨0, rfl, Nat.zero_le _, hVx, hby⟩
            case round =>
              obtain ⟨p, rfl, hp, hV, hbw⟩ := hrel
              clear hVx hby
              obtain ⟨A1, n1, c1, A2, n2, c2, hB, hL⟩ := hV
              have hn2 : n2 ≤ 61 := by have := hL.inv.2.2.1; have := hW7.wl; omega
              have HI2 := Lib.hid hL.inv.2.2.1
              have q0 := hB.cell 0
              have q1 := hB.cell 1
              rcases Nat.lt_or_ge p n2 with hpl | hpg
              · have hd : decide ((p : Int) < (n2 : Int)) = true := by simp; omega
                go_wp2_with fail
                have hVx : Va wr g LL := ⟨A1, n1, c1, A2, n2, c2, hB, hL⟩
                have hby := hbw
                clear hB hL q0 q1 hd hbw
                go_loopw [14] (fun i wr => ∃ (q : Nat), i = .int .i64 q ∧ q ≤ p ∧ Va wr g LL ∧ Below w.heap.size w wr) (fun i _ => p - (intOf i).toNat)
                case atStart => exact ⟨0, rfl, Nat.zero_le _, hVx, hby⟩
                case round =>
                  obtain ⟨q, rfl, hq, hV, hbw⟩ := hrel
                  clear hVx hby
                  rcases Nat.lt_or_ge q p with hql | hqg
                  · have hd : decide ((q : Int) < (p : Int)) = true := by simp; omega
                    obtain ⟨B1, m1, d1, B2, m2, d2, hB, hL⟩ := hV
                    have hinv := hL.inv
                    have hpm : p < m2 := by have := HI2.out; omega
                    have hpi : (p : Int) < (m2 : Int) := by omega
                    have hqi : (q : Int) < (m2 : Int) := by omega
                    obtain ⟨a, ha⟩ : ∃ a, LL.ws[p]? = some a := ⟨_, List.getElem?_eq_getElem (by rw [hinv.2.2.1]; exact hpm)⟩
                    obtain ⟨b, hb⟩ : ∃ b, LL.ws[q]? = some b := ⟨_, List.getElem?_eq_getElem (by rw [hinv.2.2.1]; omega)⟩
                    obtain ⟨hb_, rfl, hbl_⟩ := hinv.2.2.2.some_ (by rw [hinv.2.2.1]; omega)
                    have hne := hon7.at_ ha hb (by omega)
                    have HA := Lib.hid ha
                    have HB := Lib.hid hb
                    clear ha hb hinv
                    obtain ⟨as_, at_, ax⟩ := a
                    obtain ⟨bs_, bt, bx⟩ := b
                    have hne2 : (as_ == bs_) = false := by simpa using hne
                    clear hne
                    go_wp2_with fail
                    have D := fun w' (h : Below wr.heap.size wr.drew w') => (show w'.cell? ⟨g, 1, none⟩ = some (.slice (some ⟨hb_, 0, none⟩) m2 d2) ∧ w'.cell? ⟨hb_, p * 3, none⟩ = some (.int .i64 as_) ∧ w'.cell? ⟨hb_, q * 3, none⟩ = some (.int .i64 bs_) from by
                      have hx := (hL.ext (Below.trans (Below.refl _ _).drew h)).inv.2.2.2
                      have h1 := hx.at_ HA.out
                      have h2 := hx.at_ HB.out
                      exact ⟨(hB.ext (Below.trans (Below.refl _ _).drew h)).cell 1, h1.1, h2.1⟩)
                    refine wp_region_one [(0, true), (1, true), (2, true), (3, true), (4, true), (5, true), (6, true), (7, true), (8, true), (9, true), (10, true), (11, true), (12, true)] (by kernel_rfl) (by kernel_rfl) (by kernel_rfl) (by decide) ?_
                    repeat ((with_reducible show wpPerm _ _ _ _ ((_, true) :: _) _ _); (first | (refine wpPerm_on (v := ?_) rfl rfl (wanted_free rfl) (fun w' hS => ?_) ?_; rotate_left; (focus (go_simp; (try with_reducible rfl); done)); try simp only [List.setIfInBounds_toArray, List.set_cons_zero, List.set_cons_succ]) | (refine wpPerm_on (v := ?_) rfl rfl (wanted_yes rfl rfl rfl) (fun w' hS => ?_) ?_; rotate_left; (focus (go_simp; (try with_reducible rfl); done)); try simp only [List.setIfInBounds_toArray, List.set_cons_zero, List.set_cons_succ]) | (refine wpPerm_off rfl rfl (wanted_no rfl rfl rfl) ?_; try simp only [List.setIfInBounds_toArray, List.set_cons_zero, List.set_cons_succ]) | (refine wpPerm_off rfl rfl (wanted_undef rfl rfl rfl) ?_; try simp only [List.setIfInBounds_toArray, List.set_cons_zero, List.set_cons_succ])))
                    refine wpPerm_done ?_
                    clear D
                    go_wp2
                    exact ⟨⟨q + 1, by go_num, by omega, ⟨_, _, _, _, _, _, Blk.drew hB, hL.ext (Below.refl _ _).drew⟩, hbw.drew⟩, by simp [intOf]; omega⟩
                  · have hd : decide ((q : Int) < (p : Int)) = false := by simp; omega
                    go_wp2
                    exact ⟨⟨p + 1, by go_num, by have := HI2.out; omega, hV, hbw⟩, by have := HI2.out; simp [intOf]; omega⟩
              · have hd : decide ((p : Int) < (n2 : Int)) = false := by simp; omega
                go_wp2
                exact ⟨⟨k + 1, LL, by go_num, by omega, by omega, ⟨A1, n1, c1, A2, n2, c2, hB, hL⟩, hW7, hap7, hon7, hbw⟩, by simp [intOf]; omega⟩
      | false =>
        go_wp2_with fail
        refine (Ask_ L ⟨xs, xt, xx⟩ _ _ hL (by have := hW.hl; omega) (by have := hW.wl; omega)).mono ?_
        rintro e w6 ⟨v, rfl, hL6, hb6⟩
        obtain ⟨A3, n3, c3, A4, n4, c4, rfl, hL6⟩ := hL6.parts
        have hB6 := hB.ext hb6
        have E6 := E0.ext hb6
        have hbw6 := Below.trans hbw4 (Below.mono hb6 hbw4.size)
        clear q0 q1 qe hB hL hb6 hbw4
        have f0 := fun o => (hB6.alloc o).frozen 0
        have f1 := fun o => (hB6.alloc o).frozen 1
        have q0 := fun o => (hB6.alloc o).cell 0
        have q1 := fun o => (hB6.alloc o).cell 1
        go_wp2_with fail
        clear f0 f1 q0 q1
        obtain ⟨w7, hw7, C7, hL7, hlow, hgr⟩ := Va.set (hB6.alloc (.cells #[.slice A3 n3 c3, .slice A4 n4 c4] 26)) (by simp) (hL6.ext ((Below.refl _ _).alloc (Nat.le_refl _) _))
        rw [← hw7]
        clear hw7
        have hbz0 := Below.trans (hbw6.alloc hbw6.size _) (hlow _ hgw)
        have E7 := (E6.alloc (.cells #[.slice A3 n3 c3, .slice A4 n4 c4] 26)).grown hgr (by simp; omega)
        have hW7 := hW.ask (h := ⟨xs, xt, xx⟩) hxb
        have hap7 := ask_apart (h := ⟨xs, xt, xx⟩) hap
        have hon7 := ask_once (h := ⟨xs, xt, xx⟩) hon
        have hne7 : freeB L ⟨xs, xt, xx⟩ = true → ∀ o ∈ (askL L ⟨xs, xt, xx⟩).ws, o.s ≠ xs := fun hf => ask_ws_ne hf
        have hVy : Va w7 g (askL L ⟨xs, xt, xx⟩) := ⟨_, _, _, _, _, _, C7, hL7⟩
        clear hlow hgr C7 hL7 hbw6 hB6 hL6 hW hap hon E6 E0
        generalize askL L ⟨xs, xt, xx⟩ = LL at *
        generalize freeB L ⟨xs, xt, xx⟩ = fb at *
        -- who has what it asked for waits no more
        go_loopw [8] (fun i wr => ∃ (j : Nat), i = .int .i64 j ∧ j ≤ LL.ws.length ∧ Va wr g LL ∧ Blk wr gh 30 #[.int .i64 xs, .string xt, .bool xx] ∧ Below w.heap.size w wr) (fun i _ => LL.ws.length - (intOf i).toNat)
        case atStart => exact ⟨0, rfl, Nat.zero_le _, hVy, E7, hbz0⟩
        case round =>
          obtain ⟨j, rfl, hj, hV, E, hbz⟩ := hrel
          clear hVy E7 hbz0
          obtain ⟨A1, n1, c1, A2, n2, c2, hB, hL⟩ := hV
          have hinv := hL.inv
          have q0 := hB.cell 0
          have q1 := hB.cell 1
          have hn2 : n2 ≤ 61 := by have := hinv.2.2.1; have := hW7.wl; omega
          rcases Nat.lt_or_ge j n2 with hlt | hge
          · have hd : decide ((j : Int) < (n2 : Int)) = true := by simp; omega
            have hjn : (j : Int) < (n2 : Int) := by omega
            obtain ⟨y, hy⟩ : ∃ y, LL.ws[j]? = some y := ⟨_, List.getElem?_eq_getElem (by rw [hinv.2.2.1]; exact hlt)⟩
            obtain ⟨hb_, rfl, hbl_⟩ := hinv.2.2.2.some_ (by rw [hinv.2.2.1]; omega)
            have hq := hinv.2.2.2.at_ hy
            have hys : fb = true → y.s ≠ xs := fun hf => hne7 hf y (List.mem_of_getElem? hy)
            have HYS := Lib.hid hys
            have HINV := Lib.hid hinv.2.2.1
            clear hinv hy hys
            have hQ : ∀ w', Below wr.heap.size wr.drew w' → w'.cell? ⟨hb_, j * 3, none⟩ = some (.int .i64 y.s) := fun w' h => ((Below.trans (Below.refl _ _).drew h).cell (by exact hbl_)).trans hq.1
            clear hq
            cases fb with
            | true =>
              have hne : (y.s == xs) = false := by have := HYS.out rfl; simpa using this
              go_wp2_with fail
              have D := fun w' (h : Below wr.heap.size wr.drew w') => (show w'.cell? ⟨g, 1, none⟩ = some (.slice (some ⟨hb_, 0, none⟩) n2 c2) ∧ w'.cell? ⟨gh, 0, none⟩ = some (.int .i64 xs) ∧ w'.cell? ⟨hb_, j * 3, none⟩ = some (.int .i64 y.s) from
                ⟨(hB.ext (Below.trans (Below.refl _ _).drew h)).cell 1, (E.ext (Below.trans (Below.refl _ _).drew h)).cell 0, hQ w' h⟩)
              refine wp_region_one [(0, true), (1, true), (2, true), (3, true), (4, true), (5, true), (6, true), (7, true), (8, true), (9, true), (10, true), (11, true)] (by kernel_rfl) (by kernel_rfl) (by kernel_rfl) (by decide) ?_
              repeat ((with_reducible show wpPerm _ _ _ _ ((_, true) :: _) _ _); (first | (refine wpPerm_on (v := ?_) rfl rfl (wanted_free rfl) (fun w' hS => ?_) ?_; rotate_left; (focus (go_simp; (try with_reducible rfl); done)); try simp only [List.setIfInBounds_toArray, List.set_cons_zero, List.set_cons_succ]) | (refine wpPerm_on (v := ?_) rfl rfl (wanted_yes rfl rfl rfl) (fun w' hS => ?_) ?_; rotate_left; (focus (go_simp; (try with_reducible rfl); done)); try simp only [List.setIfInBounds_toArray, List.set_cons_zero, List.set_cons_succ]) | (refine wpPerm_off rfl rfl (wanted_no rfl rfl rfl) ?_; try simp only [List.setIfInBounds_toArray, List.set_cons_zero, List.set_cons_succ]) | (refine wpPerm_off rfl rfl (wanted_undef rfl rfl rfl) ?_; try simp only [List.setIfInBounds_toArray, List.set_cons_zero, List.set_cons_succ])))
              refine wpPerm_done ?_
              clear D
              go_wp2
              exact ⟨⟨j + 1, by go_num, by rw [HINV.out]; omega, ⟨A1, n1, c1, _, n2, c2, Blk.drew hB, hL.ext (Below.refl _ _).drew⟩, Blk.drew E, hbz.drew⟩, by have := HINV.out; simp [intOf]; omega⟩
            | false =>
              go_wp2_with fail
              have D := fun w' (h : Below wr.heap.size wr.drew w') => hQ w' h
              refine wp_region_one [(0, true), (1, true), (2, true), (3, true), (4, true), (5, true), (6, true), (7, true), (8, true), (9, true), (10, true), (11, true)] (by kernel_rfl) (by kernel_rfl) (by kernel_rfl) (by decide) ?_
              repeat ((with_reducible show wpPerm _ _ _ _ ((_, true) :: _) _ _); (first | (refine wpPerm_on (v := ?_) rfl rfl (wanted_free rfl) (fun w' hS => ?_) ?_; rotate_left; (focus (go_simp; (try with_reducible rfl); done)); try simp only [List.setIfInBounds_toArray, List.set_cons_zero, List.set_cons_succ]) | (refine wpPerm_on (v := ?_) rfl rfl (wanted_yes rfl rfl rfl) (fun w' hS => ?_) ?_; rotate_left; (focus (go_simp; (try with_reducible rfl); done)); try simp only [List.setIfInBounds_toArray, List.set_cons_zero, List.set_cons_succ]) | (refine wpPerm_off rfl rfl (wanted_no rfl rfl rfl) ?_; try simp only [List.setIfInBounds_toArray, List.set_cons_zero, List.set_cons_succ]) | (refine wpPerm_off rfl rfl (wanted_undef rfl rfl rfl) ?_; try simp only [List.setIfInBounds_toArray, List.set_cons_zero, List.set_cons_succ])))
              refine wpPerm_done ?_
              clear D
              go_wp2
              exact ⟨⟨j + 1, by go_num, by rw [HINV.out]; omega, ⟨A1, n1, c1, _, n2, c2, Blk.drew hB, hL.ext (Below.refl _ _).drew⟩, Blk.drew E, hbz.drew⟩, by have := HINV.out; simp [intOf]; omega⟩
          · have hd : decide ((j : Int) < (n2 : Int)) = false := by simp; omega
            go_wp2_with fail
            have hdf : decide (j < n2) = false := by simp; omega
            rw [hdf]
            have hVz : Va wr g LL := ⟨A1, n1, c1, A2, n2, c2, hB, hL⟩
            clear hB hL hinv q0 q1 E hdf hd hge hj
            go_loopw [9] (fun i wr => ∃ (p : Nat), i = .int .i64 p ∧ p ≤ LL.hs.length ∧ Va wr g LL ∧ Below w.heap.size w wr) (fun i _ => LL.hs.length - (intOf i).toNat)
            case atStart => exact ⟨0, rfl, Nat.zero_le _, hVz, hbz⟩
            case round =>
              obtain ⟨p, rfl, hp, hV, hby⟩ := hrel
              clear hVz hbz
              obtain ⟨A1, n1, c1, A2, n2, c2, hB, hL⟩ := hV
              have hn1 : n1 ≤ 61 := by have := hL.inv.1; have := hW7.hl; omega
              have HI1 := Lib.hid hL.inv.1
              have q0 := hB.cell 0
              have q1 := hB.cell 1
              rcases Nat.lt_or_ge p n1 with hpl | hpg
              · have hd : decide ((p : Int) < (n1 : Int)) = true := by simp; omega
                go_wp2_with fail
                have hVx : Va wr g LL := ⟨A1, n1, c1, A2, n2, c2, hB, hL⟩
                clear hB hL q0 q1 hd
                go_loopw [10] (fun i wr => ∃ (q : Nat), i = .int .i64 q ∧ q ≤ p ∧ Va wr g LL ∧ Below w.heap.size w wr) (fun i _ => p - (intOf i).toNat)
                case atStart => exact ⟨0, rfl, Nat.zero_le _, hVx, hby⟩
                case round =>
                  obtain ⟨q, rfl, hq, hV, hbw⟩ := hrel
                  clear hVx hby
                  rcases Nat.lt_or_ge q p with hql | hqg
                  · have hd : decide ((q : Int) < (p : Int)) = true := by simp; omega
                    obtain ⟨B1, m1, d1, B2, m2, d2, hB, hL⟩ := hV
                    have hinv := hL.inv
                    have hpm : p < m1 := by have := HI1.out; omega
                    have hpi : (p : Int) < (m1 : Int) := by omega
                    have hqi : (q : Int) < (m1 : Int) := by omega
                    obtain ⟨a, ha⟩ : ∃ a, LL.hs[p]? = some a := ⟨_, List.getElem?_eq_getElem (by rw [hinv.1]; exact hpm)⟩
                    obtain ⟨b, hb⟩ : ∃ b, LL.hs[q]? = some b := ⟨_, List.getElem?_eq_getElem (by rw [hinv.1]; omega)⟩
                    obtain ⟨hb_, rfl, hbl_⟩ := hinv.2.1.some_ (by rw [hinv.1]; omega)
                    have hcf := hap7.at_ ha hb (by omega)
                    have HA := Lib.hid ha
                    have HB := Lib.hid hb
                    clear ha hb hinv
                    obtain ⟨as_, at_, ax⟩ := a
                    obtain ⟨bs_, bt, bx⟩ := b
                    go_wp2_with fail
                    have D := fun w' (h : Below wr.heap.size wr.drew w') => (show w'.cell? ⟨g, 0, none⟩ = some (.slice (some ⟨hb_, 0, none⟩) m1 d1) ∧ w'.cell? ⟨hb_, p * 3, none⟩ = some (.int .i64 as_) ∧ w'.cell? ⟨hb_, p * 3 + 1, none⟩ = some (.string at_) ∧ w'.cell? ⟨hb_, p * 3 + 2, none⟩ = some (.bool ax) ∧ w'.cell? ⟨hb_, q * 3, none⟩ = some (.int .i64 bs_) ∧ w'.cell? ⟨hb_, q * 3 + 1, none⟩ = some (.string bt) ∧ w'.cell? ⟨hb_, q * 3 + 2, none⟩ = some (.bool bx) from by
                      have hx := (hL.ext (Below.trans (Below.refl _ _).drew h)).inv.2.1
                      have h1 := hx.at_ HA.out
                      have h2 := hx.at_ HB.out
                      exact ⟨(hB.ext (Below.trans (Below.refl _ _).drew h)).cell 0, h1.1, h1.2.1, h1.2.2, h2.1, h2.2.1, h2.2.2⟩)
                    refine wp_region_mix2 ⟨10, 11, fun g => .pointer (some ⟨g, 0, none⟩), .cells #[.int .i64 0, .string ⟨#[]⟩, .bool false] 30⟩ ⟨11, 12, fun g => .pointer (some ⟨g, 0, none⟩), .cells #[.int .i64 0, .string ⟨#[]⟩, .bool false] 30⟩
                      [(0, true), (1, true), (2, true), (3, true), (4, true), (5, true), (6, true), (7, true), (8, true), (9, true)] [] [(12, false), (13, false)] (by kernel_rfl) (by kernel_rfl) ?_
                    repeat ((with_reducible show wpI _ _ _ _ _ ((_, true) :: _) _ _); (first | (refine wpI_on (v := ?_) rfl rfl (wanted_free rfl) (fun w' hS => ?_) ?_; rotate_left; (focus (go_simp; (try with_reducible rfl); done)); try simp only [List.setIfInBounds_toArray, List.set_cons_zero, List.set_cons_succ]) | (refine wpI_on (v := ?_) rfl rfl (wanted_yes rfl rfl rfl) (fun w' hS => ?_) ?_; rotate_left; (focus (go_simp; (try with_reducible rfl); done)); try simp only [List.setIfInBounds_toArray, List.set_cons_zero, List.set_cons_succ]) | (refine wpI_off rfl rfl (wanted_no rfl rfl rfl) ?_; try simp only [List.setIfInBounds_toArray, List.set_cons_zero, List.set_cons_succ]) | (refine wpI_off rfl rfl (wanted_undef rfl rfl rfl) ?_; try simp only [List.setIfInBounds_toArray, List.set_cons_zero, List.set_cons_succ])))
                    refine wpI_done ⟨?_, ?_⟩
                    · intro u hu
                      simp only [List.mem_cons, List.not_mem_nil, or_false] at hu
                      rcases hu with rfl | rfl <;> exact ⟨_, rfl, rfl, wanted_free rfl, fun w => by go_simp⟩
                    clear D
                    refine wpI_done ?_
                    intro g1 g2 wf he hb hlo1 hhi1 hat1 hlo2 hhi2 hat2 hne
                    go_frame
                    have C1 := blk_get hat1
                    have C2 := blk_get hat2
                    have f0 := C1.frozen 0
                    have f1 := C1.frozen 1
                    have f2 := C1.frozen 2
                    have q0 := C1.three (Below.refl _ _)
                    refine wpPerm_do rfl (wanted_free rfl) (fun K hK => ?_); go_simp
                    clear f0 f1 f2 q0
                    obtain ⟨w5, hw5, C5, hlow5, hfar5, hsz5⟩ := C1.set3 (.int .i64 as_) (.string at_) (.bool ax)
                    rw [← hw5]
                    clear hw5
                    have C2' := hfar5 _ _ _ (Ne.symm hne) C2
                    have hb5 := Below.trans hb (hlow5 _ hlo1)
                    refine hK.out _ _ hb5 ?_
                    clear hK K C2
                    have f0 := C2'.frozen 0
                    have f1 := C2'.frozen 1
                    have f2 := C2'.frozen 2
                    have q0 := C2'.three (Below.refl _ _)
                    refine wpPerm_do rfl (wanted_free rfl) (fun K hK => ?_); go_simp
                    clear f0 f1 f2 q0
                    obtain ⟨w6, hw6, C6, hlow6, hfar6, hsz6⟩ := C2'.set3 (.int .i64 bs_) (.string bt) (.bool bx)
                    rw [← hw6]
                    clear hw6
                    have C7 := hfar6 _ _ _ hne C5
                    have hb6 := Below.trans hb5 (hlow6 _ hlo2)
                    refine hK.out _ _ hb6 (wpPerm_done ?_)
                    clear hK K
                    have hT := Below.trans (Below.refl wr.heap.size wr).drew hb6
                    have hVn : Va w6 g LL := ⟨_, _, _, _, _, _, hB.ext hT, hL.ext hT⟩
                    have hbn := Below.trans hbw (Below.mono hT hbw.size)
                    have r1 := C7.three (Below.refl _ _)
                    have r2 := C6.three (Below.refl _ _)
                    clear hB hL hT hbw hb hb5 hb6 C1 C2' C5 C6 C7 hlow5 hfar5 hlow6 hfar6
                    unfold cf at hcf
                    simp only at hcf
                    rw [← tl_beq] at hcf
                    cases ht : (at_.toList == bt.toList) with
                    | false =>
                      clear hcf
                      go_wp2
                      exact ⟨⟨q + 1, by go_num, by omega, hVn, hbn⟩, by simp [intOf]; omega⟩
                    | true =>
                      rw [ht] at hcf
                      simp only [Bool.true_and, Bool.or_eq_false_iff] at hcf
                      obtain ⟨hs0, hx0, hy0⟩ := hcf
                      subst hx0 hy0
                      go_wp2
                      exact ⟨⟨q + 1, by go_num, by omega, hVn, hbn⟩, by simp [intOf]; omega⟩
                  · have hd : decide ((q : Int) < (p : Int)) = false := by simp; omega
                    go_wp2
                    exact ⟨⟨p + 1, by go_num, by have := HI1.out; omega, hV, hbw⟩, by have := HI1.out; simp [intOf]; omega⟩
              · have hd : decide ((p : Int) < (n1 : Int)) = false := by simp; omega
                go_wp2_with fail
                have hdf : decide (p < n1) = false := by simp; omega
                rw [hdf]
                have hVx : Va wr g LL := ⟨A1, n1, c1, A2, n2, c2, hB, hL⟩
                clear hB hL q0 q1 hd hdf hpg hp hn1 HI1
                go_loopw [13] (fun i wr => ∃ (p : Nat), i = .int .i64 p ∧ p ≤ LL.ws.length ∧ Va wr g LL ∧ Below w.heap.size w wr) (fun i _ => LL.ws.length - (intOf i).toNat)
                case atStart => exact ⟨0, rfl, Nat.zero_le _, hVx, hby⟩
                case round =>
                  obtain ⟨p, rfl, hp, hV, hbw⟩ := hrel
                  clear hVx hby
                  obtain ⟨A1, n1, c1, A2, n2, c2, hB, hL⟩ := hV
                  have hn2 : n2 ≤ 61 := by have := hL.inv.2.2.1; have := hW7.wl; omega
                  have HI2 := Lib.hid hL.inv.2.2.1
                  have q0 := hB.cell 0
                  have q1 := hB.cell 1
                  rcases Nat.lt_or_ge p n2 with hpl | hpg
                  · have hd : decide ((p : Int) < (n2 : Int)) = true := by simp; omega
                    go_wp2_with fail
                    have hVx : Va wr g LL := ⟨A1, n1, c1, A2, n2, c2, hB, hL⟩
                    have hby := hbw
                    clear hB hL q0 q1 hd hbw
                    go_loopw [14] (fun i wr => ∃ (q : Nat), i = .int .i64 q ∧ q ≤ p ∧ Va wr g LL ∧ Below w.heap.size w wr) (fun i _ => p - (intOf i).toNat)
                    case atStart => exact ⟨0, rfl, Nat.zero_le _, hVx, hby⟩
                    case round =>
                      obtain ⟨q, rfl, hq, hV, hbw⟩ := hrel
                      clear hVx hby
                      rcases Nat.lt_or_ge q p with hql | hqg
                      · have hd : decide ((q : Int) < (p : Int)) = true := by simp; omega
                        obtain ⟨B1, m1, d1, B2, m2, d2, hB, hL⟩ := hV
                        have hinv := hL.inv
                        have hpm : p < m2 := by have := HI2.out; omega
                        have hpi : (p : Int) < (m2 : Int) := by omega
                        have hqi : (q : Int) < (m2 : Int) := by omega
                        obtain ⟨a, ha⟩ : ∃ a, LL.ws[p]? = some a := ⟨_, List.getElem?_eq_getElem (by rw [hinv.2.2.1]; exact hpm)⟩
                        obtain ⟨b, hb⟩ : ∃ b, LL.ws[q]? = some b := ⟨_, List.getElem?_eq_getElem (by rw [hinv.2.2.1]; omega)⟩
                        obtain ⟨hb_, rfl, hbl_⟩ := hinv.2.2.2.some_ (by rw [hinv.2.2.1]; omega)
                        have hne := hon7.at_ ha hb (by omega)
                        have HA := Lib.hid ha
                        have HB := Lib.hid hb
                        clear ha hb hinv
                        obtain ⟨as_, at_, ax⟩ := a
                        obtain ⟨bs_, bt, bx⟩ := b
                        have hne2 : (as_ == bs_) = false := by simpa using hne
                        clear hne
                        go_wp2_with fail
                        have D := fun w' (h : Below wr.heap.size wr.drew w') => (show w'.cell? ⟨g, 1, none⟩ = some (.slice (some ⟨hb_, 0, none⟩) m2 d2) ∧ w'.cell? ⟨hb_, p * 3, none⟩ = some (.int .i64 as_) ∧ w'.cell? ⟨hb_, q * 3, none⟩ = some (.int .i64 bs_) from by
                          have hx := (hL.ext (Below.trans (Below.refl _ _).drew h)).inv.2.2.2
                          have h1 := hx.at_ HA.out
                          have h2 := hx.at_ HB.out
                          exact ⟨(hB.ext (Below.trans (Below.refl _ _).drew h)).cell 1, h1.1, h2.1⟩)
                        refine wp_region_one [(0, true), (1, true), (2, true), (3, true), (4, true), (5, true), (6, true), (7, true), (8, true), (9, true), (10, true), (11, true), (12, true)] (by kernel_rfl) (by kernel_rfl) (by kernel_rfl) (by decide) ?_
                        repeat ((with_reducible show wpPerm _ _ _ _ ((_, true) :: _) _ _); (first | (refine wpPerm_on (v := ?_) rfl rfl (wanted_free rfl) (fun w' hS => ?_) ?_; rotate_left; (focus (go_simp; (try with_reducible rfl); done)); try simp only [List.setIfInBounds_toArray, List.set_cons_zero, List.set_cons_succ]) | (refine wpPerm_on (v := ?_) rfl rfl (wanted_yes rfl rfl rfl) (fun w' hS => ?_) ?_; rotate_left; (focus (go_simp; (try with_reducible rfl); done)); try simp only [List.setIfInBounds_toArray, List.set_cons_zero, List.set_cons_succ]) | (refine wpPerm_off rfl rfl (wanted_no rfl rfl rfl) ?_; try simp only [List.setIfInBounds_toArray, List.set_cons_zero, List.set_cons_succ]) | (refine wpPerm_off rfl rfl (wanted_undef rfl rfl rfl) ?_; try simp only [List.setIfInBounds_toArray, List.set_cons_zero, List.set_cons_succ])))
                        refine wpPerm_done ?_
                        clear D
                        go_wp2
                        exact ⟨⟨q + 1, by go_num, by omega, ⟨_, _, _, _, _, _, Blk.drew hB, hL.ext (Below.refl _ _).drew⟩, hbw.drew⟩, by simp [intOf]; omega⟩
                      · have hd : decide ((q : Int) < (p : Int)) = false := by simp; omega
                        go_wp2
                        exact ⟨⟨p + 1, by go_num, by have := HI2.out; omega, hV, hbw⟩, by have := HI2.out; simp [intOf]; omega⟩
                  · have hd : decide ((p : Int) < (n2 : Int)) = false := by simp; omega
                    go_wp2
                    exact ⟨⟨k + 1, LL, by go_num, by omega, by omega, ⟨A1, n1, c1, A2, n2, c2, hB, hL⟩, hW7, hap7, hon7, hbw⟩, by simp [intOf]; omega⟩
    · have hret : True := trivial
      obtain ⟨A1, n1, c1, A2, n2, c2, hB, hL⟩ := hV
      rcases Nat.lt_or_ge k n with hkn | hkn
      · have hd1 : decide ((k : Int) < (n : Int)) = true := by simp; omega
        have hd2 : decide ((k : Int) < 60) = false := by simp; omega
        go_wp2
        go_ret
        exact ⟨rfl, hbw⟩
      · have hd1 : decide ((k : Int) < (n : Int)) = false := by simp; omega
        go_wp2
        go_ret
        exact ⟨rfl, hbw⟩
end Go.Proofs.Ytlfonenjgchklaa.lk
