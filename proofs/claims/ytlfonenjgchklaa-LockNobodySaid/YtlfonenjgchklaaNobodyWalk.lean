/- LockNobody: the walk. -/
import Derived.Test.YtlfonenjgchklaaPl
namespace Go.Proofs.Ytlfonenjgchklaa.lk
open Go.ChangeShapes Go.WideShapes Go.ChangeAt Go.RowKit Go.Proofs.Ytlfonenjgchklaa.lib
set_option linter.unusedVariables false

set_option maxHeartbeats 4000000 in
set_option maxRecDepth 100000 in
theorem nobody_walk (A : Option Addr) (n c : Nat) (l : List Ac) (s : Int) (w : World) (hl : l.length = n) (hn : n ≤ maxLen) (hI : Acts w A l) :
    Calls Try.prog 3 #[.slice A n c, .int .i64 s] w fun e W' => e = .returned (.bool true) ∧ Below w.heap.size w W' := by
  have HL := Lib.hid hl
  unfold maxLen at hn
  clear hl
  go_enter Try.func3, Try.ntmps3
  go_wp2_with fail
  refine (known_ _).mono ?_
  rintro e w1 ⟨rfl, hb1⟩
  go_wp2_with fail
  obtain ⟨W, hW_, hbW1, B0⟩ : ∃ W_, W_ = (w1.alloc (.cells #[.slice none 0 0, .slice none 0 0] 26)) ∧ Below w1.heap.size w1 W_ ∧ Blk W_ (w1.heap.size) 26 #[.slice none 0 0, .slice none 0 0] :=
    ⟨_, rfl, ((Below.refl _ _).alloc (Nat.le_refl _) _), (blk_new_at w1 (w1.heap.size) _ _ (by simp))⟩
  rw [← hW_]
  clear hW_
  have hbW := Below.trans hb1 (Below.mono hbW1 hb1.size)
  have hV0 : Va W w1.heap.size ⟨[], []⟩ := ⟨_, _, _, _, _, _, B0, LkR.none W⟩
  have hgw : w.heap.size ≤ w1.heap.size := hb1.size
  clear hbW1 hb1 B0
  generalize w1.heap.size = g at *
  go_loopw [6] (fun i wr => ∃ (k : Nat) (L : Lk), i = .int .i64 k ∧ k ≤ n ∧ k ≤ 30 ∧ Va wr g L ∧ Wf k L ∧ L.ws = [] ∧ Below w.heap.size w wr) (fun i _ => n - (intOf i).toNat)
  case atStart => exact ⟨0, ⟨[], []⟩, rfl, Nat.zero_le _, Nat.zero_le _, hV0, Wf.nil 0, rfl, hbW⟩
  case round =>
    obtain ⟨k, L, rfl, hk, hk30, hV, hW, hws, hbw⟩ := hrel
    have HWS := Lib.hid hws
    clear hws hV0 hbW
    obtain ⟨A1, n1, c1, A2, n2, c2, hB, hL⟩ := hV
    by_cases hgo : k < n ∧ k < 30
    · have hd1 : decide ((k : Int) < (n : Int)) = true := by simp; omega
      have hd2 : decide ((k : Int) < 30) = true := by simp; omega
      have hkn : (k : Int) < (n : Int) := by omega
      obtain ⟨x, hx⟩ : ∃ x, l[k]? = some x := ⟨_, List.getElem?_eq_getElem (by rw [HL.out]; exact hgo.1)⟩
      obtain ⟨ab, ao, rfl, hab, hac⟩ := hI (by rw [HL.out]; omega)
      have qa := hac k x hx
      clear hx hac
      go_wp2_with fail
      have hbd := hbw.drew
      have D := fun w' (h : Below wr.heap.size wr.drew w') => (show w'.cell? ⟨g, 0, none⟩ = some (.slice A1 n1 c1) ∧ w'.cell? ⟨g, 1, none⟩ = some (.slice A2 n2 c2) ∧ w'.cell? ⟨ab, ao + k * 4, none⟩ = some (.int .i64 x.k) ∧ w'.cell? ⟨ab, ao + k * 4 + 1, none⟩ = some (.int .i64 x.s) ∧ w'.cell? ⟨ab, ao + k * 4 + 2, none⟩ = some (.int .i64 x.t) ∧ w'.cell? ⟨ab, ao + k * 4 + 3, none⟩ = some (.bool x.x) from by
        have hT := Below.trans hbd (Below.mono h hbw.size)
        exact ⟨(hB.ext (Below.trans (Below.refl _ _).drew h)).cell 0, (hB.ext (Below.trans (Below.refl _ _).drew h)).cell 1, (hT.cell (by exact hab)).trans qa.1, (hT.cell (by exact hab)).trans qa.2.1, (hT.cell (by exact hab)).trans qa.2.2.1, (hT.cell (by exact hab)).trans qa.2.2.2⟩)
      refine wp_region_mix1 ⟨10, 7, fun g => .pointer (some ⟨g, 0, none⟩), .cells #[.slice none 0 0, .slice none 0 0] 26⟩
        [(0, true), (1, true), (2, true), (3, true), (4, true)] [(5, false), (6, false), (7, true), (8, true), (9, true)] [(11, false), (12, true)] (by kernel_rfl) (by kernel_rfl) ?_
      repeat ((with_reducible show wpI _ _ _ _ _ ((_, true) :: _) _ _); (first | (refine wpI_on (v := ?_) rfl rfl (wanted_free rfl) (fun w' hS => ?_) ?_; rotate_left; (focus (go_simp; (try with_reducible rfl); done)); try simp only [List.setIfInBounds_toArray, List.set_cons_zero, List.set_cons_succ]) | (refine wpI_on (v := ?_) rfl rfl (wanted_yes rfl rfl rfl) (fun w' hS => ?_) ?_; rotate_left; (focus (go_simp; (try with_reducible rfl); done)); try simp only [List.setIfInBounds_toArray, List.set_cons_zero, List.set_cons_succ]) | (refine wpI_off rfl rfl (wanted_no rfl rfl rfl) ?_; try simp only [List.setIfInBounds_toArray, List.set_cons_zero, List.set_cons_succ]) | (refine wpI_off rfl rfl (wanted_undef rfl rfl rfl) ?_; try simp only [List.setIfInBounds_toArray, List.set_cons_zero, List.set_cons_succ])))
      refine wpI_done ⟨?_, ?_⟩
      · intro u hu
        simp only [List.mem_cons, List.not_mem_nil, or_false] at hu
        subst hu
        exact ⟨_, rfl, rfl, wanted_free rfl, fun w => by go_simp⟩
      clear D qa
      refine wpI_do rfl (wanted_free rfl) (fun wI hI hSI K hK => ?_); go_simp
      refine (hold_ x _).mono ?_
      rintro e w3 ⟨rfl, hb3⟩
      have hI3 := Below.trans (Below.trans (Below.refl _ _).drew hI) (Below.mono hb3 (Below.trans (Below.refl _ _).drew hI).size)
      refine hK.out _ _ hb3 ?_
      clear hK K hI hSI hb3
      refine wpI_do rfl (wanted_free rfl) (fun wI hI hSI K hK => ?_); go_simp
      have hI4 := Below.trans hI3 (Below.mono hI hI3.size)
      refine (Ask_ L x.hd _ _ (hL.ext hI4) (by have := hW.hl; omega) (by have := hW.wl; omega)).mono ?_
      rintro e w4 ⟨v, rfl, hL4, hb4⟩
      obtain ⟨A3, n3, c3, A4, n4, c4, rfl, hL4⟩ := hL4.parts
      have hI5 := Below.trans hI4 (Below.mono hb4 hI4.size)
      refine hK.out _ _ hb4 ?_
      clear hK K hI hSI hb4 hI3 hI4
      repeat ((with_reducible show wpI _ _ _ _ _ ((_, true) :: _) _ _); (first | (refine wpI_on (v := ?_) rfl rfl (wanted_free rfl) (fun w' hS => ?_) ?_; rotate_left; (focus (go_simp; (try with_reducible rfl); done)); try simp only [List.setIfInBounds_toArray, List.set_cons_zero, List.set_cons_succ]) | (refine wpI_on (v := ?_) rfl rfl (wanted_yes rfl rfl rfl) (fun w' hS => ?_) ?_; rotate_left; (focus (go_simp; (try with_reducible rfl); done)); try simp only [List.setIfInBounds_toArray, List.set_cons_zero, List.set_cons_succ]) | (refine wpI_off rfl rfl (wanted_no rfl rfl rfl) ?_; try simp only [List.setIfInBounds_toArray, List.set_cons_zero, List.set_cons_succ]) | (refine wpI_off rfl rfl (wanted_undef rfl rfl rfl) ?_; try simp only [List.setIfInBounds_toArray, List.set_cons_zero, List.set_cons_succ])))
      refine wpI_done ?_
      intro g1 wf he hb hlo1 hhi1 hat1
      go_frame
      have C1 := blk_get hat1
      have hL5 := hL4.ext he
      have hI6 := Below.trans hI5 (Below.mono he hI5.size)
      have f0 := C1.frozen 0
      have f1 := C1.frozen 1
      have q0 := C1.cell 0
      have q1 := C1.cell 1
      clear hat1 hL4 he hI5
      refine wpPerm_do rfl (wanted_free rfl) (fun K hK => ?_); go_simp
      clear f0 f1 q0 q1
      obtain ⟨w5, hw5, C5, hL5, hlow, hgr⟩ := Va.set C1 (by simp) hL5
      rw [← hw5]
      clear hw5 C1
      refine hK.out _ _ (Below.trans hb (hlow _ hlo1)) ?_
      clear hK K
      repeat ((with_reducible show wpPerm _ _ _ _ ((_, true) :: _) _ _); (first | (refine wpPerm_on (v := ?_) rfl rfl (wanted_free rfl) (fun w' hS => ?_) ?_; rotate_left; (focus (go_simp; (try with_reducible rfl); done)); try simp only [List.setIfInBounds_toArray, List.set_cons_zero, List.set_cons_succ]) | (refine wpPerm_on (v := ?_) rfl rfl (wanted_yes rfl rfl rfl) (fun w' hS => ?_) ?_; rotate_left; (focus (go_simp; (try with_reducible rfl); done)); try simp only [List.setIfInBounds_toArray, List.set_cons_zero, List.set_cons_succ]) | (refine wpPerm_off rfl rfl (wanted_no rfl rfl rfl) ?_; try simp only [List.setIfInBounds_toArray, List.set_cons_zero, List.set_cons_succ]) | (refine wpPerm_off rfl rfl (wanted_undef rfl rfl rfl) ?_; try simp only [List.setIfInBounds_toArray, List.set_cons_zero, List.set_cons_succ])))
      refine wpPerm_done ?_
      have hI7 := Below.trans hI6 (hlow wr.heap.size hlo1)
      have hb7 := Below.trans hbw (Below.mono hI7 hbw.size)
      have hV5 : Va w5 g L := ⟨A1, n1, c1, A2, n2, c2, hB.ext hI7, hL.ext hI7⟩
      have hgl := hB.lt
      clear hb hlow hgr hI6
      obtain ⟨fb, hfb⟩ : ∃ fb, freeB L x.hd = fb := ⟨_, rfl⟩
      rw [hfb]
      have HFB := Lib.hid hfb
      clear hfb
      cases fb with
      | true =>
        have q0 := C5.cell 0
        have q1 := C5.cell 1
        obtain ⟨A6, n6, c6, A7, n7, c7, D1, hLL⟩ := hV5
        have f0 := D1.frozen 0
        have f1 := D1.frozen 1
        have r0 := D1.cell 0
        have r1 := D1.cell 1
        go_wp2
        clear q0 q1 f0 f1 r0 r1
        obtain ⟨w6, hw6, C6, hL6, hlow, hgr⟩ := Va.set D1 (by simp) hL5
        rw [← hw6]
        clear hw6
        go_roundw
        case rel =>
          exact ⟨k + 1, _, by go_num, by omega, by omega, ⟨_, _, _, _, _, _, C6, hL6⟩, hW.ask x.bs, ask_ws_free HFB.out HWS.out, Below.trans hb7 (hlow _ hgw)⟩
        case measure => simp [intOf]; omega
      | false =>
        go_wp2
        go_roundw
        case rel => exact ⟨k + 1, L, by go_num, by omega, by omega, hV5, hW.mono (Nat.le_succ _), HWS.out, hb7⟩
        case measure => simp [intOf]; omega
    · have hd3 : ¬ ((k : Int) < (n : Int)) ∨ ¬ ((k : Int) < 30) := by omega
      rcases Nat.lt_or_ge k n with hkn | hkn
      · have hd1 : decide ((k : Int) < (n : Int)) = true := by simp; omega
        have hd2 : decide ((k : Int) < 30) = false := by simp; omega
        have qh := hB.cell 0
        have qh' := hB.cell 1
        go_wp2_with fail
        clear qh qh'
        refine (within_ s 8 _ (by omega) (by omega)).mono ?_
        rintro e w2 ⟨rfl, rfl⟩
        have hsb := wi_bd (a := s) (n := 8) (by omega)
        generalize wi s 8 = sv at *
        have hbs : bs ⟨sv, ⟨#[97]⟩, true⟩ := hsb
        have qh := fun o => (hB.alloc o).cell 0
        have qh' := fun o => (hB.alloc o).cell 1
        go_wp2_with fail
        clear qh qh'
        obtain ⟨W2, hW_, hbX, E1⟩ : ∃ W_, W_ = (wr.alloc (.cells #[.int .i64 sv, .string ⟨#[97]⟩, .bool true] 30)) ∧ Below wr.heap.size wr W_ ∧ Blk W_ (wr.heap.size) 30 #[.int .i64 sv, .string ⟨#[97]⟩, .bool true] :=
          ⟨_, rfl, ((Below.refl _ _).alloc (Nat.le_refl _) _), (blk_new_at wr (wr.heap.size) _ _ (by simp))⟩
        rw [← hW_]
        clear hW_
        have hB2 := hB.ext hbX
        have hL2 := hL.ext hbX
        have hb2 := Below.trans hbw (Below.mono hbX hbw.size)
        refine (Victim_ L sv _ _ hL2 (by have := hW.hl; omega) (by have := hW.wl; omega) (fun o ho => bs_bd (hW.hb o ho)) (fun o ho => bs_bd (hW.wb o ho)) (bs_bd hbs)).mono ?_
        rintro e w3 ⟨v, is, rfl, hv, hb3⟩
        have his := hv.not (no_ring_one (fun o ho => by rw [HWS.out] at ho; cases ho))
        subst his
        clear hv
        have hB3 := hB2.ext hb3
        have hL3 := hL2.ext hb3
        have E3 := E1.ext hb3
        have hb4 := Below.trans hb2 (Below.mono hb3 hb2.size)
        have q0 := hB3.cell 0
        have q1 := hB3.cell 1
        have q2 := E3.three (Below.refl _ _)
        go_wp2_with fail
        refine (Ask_ L ⟨sv, ⟨#[97]⟩, true⟩ _ _ hL3 (by have := hW.hl; omega) (by have := hW.wl; omega)).mono ?_
        rintro e w5 ⟨v5, rfl, hL5, hb5⟩
        have hWn := hW.ask hbs
        have hws5 := ask_ws_own (h := ⟨sv, ⟨#[97]⟩, true⟩) HWS.out
        generalize askL L ⟨sv, ⟨#[97]⟩, true⟩ = L5 at *
        generalize freeB L ⟨sv, ⟨#[97]⟩, true⟩ = fb5 at *
        obtain ⟨A5, n5, c5, A6, n6, c6, rfl, hL5⟩ := hL5.parts
        have E5 := E3.ext hb5
        have hb6 := Below.trans hb4 (Below.mono hb5 hb4.size)
        clear q0 q1 q2 hB hB2 hB3 hL hL2 hL3 E1 E3 hb3 hb5 hb2 hb4
        have q2 := fun o => (E5.alloc o).three (Below.refl _ _)
        go_wp2_with fail
        clear q2
        obtain ⟨W7, hW_, hbY, F1⟩ : ∃ W_, W_ = (w5.alloc (.cells #[.slice A5 n5 c5, .slice A6 n6 c6] 26)) ∧ Below w5.heap.size w5 W_ ∧ Blk W_ (w5.heap.size) 26 #[.slice A5 n5 c5, .slice A6 n6 c6] :=
          ⟨_, rfl, ((Below.refl _ _).alloc (Nat.le_refl _) _), (blk_new_at w5 (w5.heap.size) _ _ (by simp))⟩
        rw [← hW_]
        clear hW_
        have hL7 := hL5.ext hbY
        have hb7 := Below.trans hb6 (Below.mono hbY hb6.size)
        refine (Victim_ L5 sv _ _ hL7 (by have := hWn.hl; omega) (by have := hWn.wl; omega) (fun o ho => bs_bd (hWn.hb o ho)) (fun o ho => bs_bd (hWn.wb o ho)) (bs_bd hbs)).mono ?_
        rintro e w8 ⟨v, is, rfl, hv, hb8⟩
        have his := hv.not (no_ring_one hws5)
        subst his
        go_wp2
        go_ret
        exact ⟨rfl, Below.trans hb7 (Below.mono hb8 hb7.size)⟩
      · have hd1 : decide ((k : Int) < (n : Int)) = false := by simp; omega
        have qh := hB.cell 0
        have qh' := hB.cell 1
        go_wp2_with fail
        clear qh qh'
        refine (within_ s 8 _ (by omega) (by omega)).mono ?_
        rintro e w2 ⟨rfl, rfl⟩
        have hsb := wi_bd (a := s) (n := 8) (by omega)
        generalize wi s 8 = sv at *
        have hbs : bs ⟨sv, ⟨#[97]⟩, true⟩ := hsb
        have qh := fun o => (hB.alloc o).cell 0
        have qh' := fun o => (hB.alloc o).cell 1
        go_wp2_with fail
        clear qh qh'
        obtain ⟨W2, hW_, hbX, E1⟩ : ∃ W_, W_ = (wr.alloc (.cells #[.int .i64 sv, .string ⟨#[97]⟩, .bool true] 30)) ∧ Below wr.heap.size wr W_ ∧ Blk W_ (wr.heap.size) 30 #[.int .i64 sv, .string ⟨#[97]⟩, .bool true] :=
          ⟨_, rfl, ((Below.refl _ _).alloc (Nat.le_refl _) _), (blk_new_at wr (wr.heap.size) _ _ (by simp))⟩
        rw [← hW_]
        clear hW_
        have hB2 := hB.ext hbX
        have hL2 := hL.ext hbX
        have hb2 := Below.trans hbw (Below.mono hbX hbw.size)
        refine (Victim_ L sv _ _ hL2 (by have := hW.hl; omega) (by have := hW.wl; omega) (fun o ho => bs_bd (hW.hb o ho)) (fun o ho => bs_bd (hW.wb o ho)) (bs_bd hbs)).mono ?_
        rintro e w3 ⟨v, is, rfl, hv, hb3⟩
        have his := hv.not (no_ring_one (fun o ho => by rw [HWS.out] at ho; cases ho))
        subst his
        clear hv
        have hB3 := hB2.ext hb3
        have hL3 := hL2.ext hb3
        have E3 := E1.ext hb3
        have hb4 := Below.trans hb2 (Below.mono hb3 hb2.size)
        have q0 := hB3.cell 0
        have q1 := hB3.cell 1
        have q2 := E3.three (Below.refl _ _)
        go_wp2_with fail
        refine (Ask_ L ⟨sv, ⟨#[97]⟩, true⟩ _ _ hL3 (by have := hW.hl; omega) (by have := hW.wl; omega)).mono ?_
        rintro e w5 ⟨v5, rfl, hL5, hb5⟩
        have hWn := hW.ask hbs
        have hws5 := ask_ws_own (h := ⟨sv, ⟨#[97]⟩, true⟩) HWS.out
        generalize askL L ⟨sv, ⟨#[97]⟩, true⟩ = L5 at *
        generalize freeB L ⟨sv, ⟨#[97]⟩, true⟩ = fb5 at *
        obtain ⟨A5, n5, c5, A6, n6, c6, rfl, hL5⟩ := hL5.parts
        have E5 := E3.ext hb5
        have hb6 := Below.trans hb4 (Below.mono hb5 hb4.size)
        clear q0 q1 q2 hB hB2 hB3 hL hL2 hL3 E1 E3 hb3 hb5 hb2 hb4
        have q2 := fun o => (E5.alloc o).three (Below.refl _ _)
        go_wp2_with fail
        clear q2
        obtain ⟨W7, hW_, hbY, F1⟩ : ∃ W_, W_ = (w5.alloc (.cells #[.slice A5 n5 c5, .slice A6 n6 c6] 26)) ∧ Below w5.heap.size w5 W_ ∧ Blk W_ (w5.heap.size) 26 #[.slice A5 n5 c5, .slice A6 n6 c6] :=
          ⟨_, rfl, ((Below.refl _ _).alloc (Nat.le_refl _) _), (blk_new_at w5 (w5.heap.size) _ _ (by simp))⟩
        rw [← hW_]
        clear hW_
        have hL7 := hL5.ext hbY
        have hb7 := Below.trans hb6 (Below.mono hbY hb6.size)
        refine (Victim_ L5 sv _ _ hL7 (by have := hWn.hl; omega) (by have := hWn.wl; omega) (fun o ho => bs_bd (hWn.hb o ho)) (fun o ho => bs_bd (hWn.wb o ho)) (bs_bd hbs)).mono ?_
        rintro e w8 ⟨v, is, rfl, hv, hb8⟩
        have his := hv.not (no_ring_one hws5)
        subst his
        go_wp2
        go_ret
        exact ⟨rfl, Below.trans hb7 (Below.mono hb8 hb7.size)⟩
end Go.Proofs.Ytlfonenjgchklaa.lk
