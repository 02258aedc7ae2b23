/- LockRings: the walk. -/
import Derived.Test.YtlfonenjgchklaaFin
import Derived.Test.YtlfonenjgchklaaS
namespace Go.Proofs.Ytlfonenjgchklaa.lk
open Go.ChangeShapes Go.WideShapes Go.ChangeAt Go.RowKit Go.Proofs.Ytlfonenjgchklaa.lib
set_option linter.unusedVariables false

def nms : Array Value := #[.string ⟨#[97]⟩, .string ⟨#[98]⟩, .string ⟨#[99]⟩, .string ⟨#[100]⟩, .string ⟨#[101]⟩, .string ⟨#[102]⟩, .string ⟨#[103]⟩]
theorem nms_at : ∀ i : Nat, i < 7 → nms[i]? = some (.string (nm i)) := by
  intro i hi
  match i, hi with
  | 0, _ => rfl
  | 1, _ => rfl
  | 2, _ => rfl
  | 3, _ => rfl
  | 4, _ => rfl
  | 5, _ => rfl
  | 6, _ => rfl
theorem rgh_len (j : Nat) : (rgh j).length = j := by simp [rgh]
theorem rgw_len (N t k : Nat) (sh : Bool) : (rgw N t k sh).hs.length = N ∧ (rgw N t k sh).ws.length = k := by simp [rgw, rgh]
theorem rgw_bd (N t k : Nat) (sh : Bool) (hN : 0 < N) (hN8 : N < 8) : (∀ o ∈ (rgw N t k sh).hs, bs o) ∧ (∀ o ∈ (rgw N t k sh).ws, bs o) := by
  constructor
  · intro o ho
    simp [rgw, rgh] at ho
    obtain ⟨i, hi, rfl⟩ := ho
    constructor
    · exact Int.natCast_nonneg _
    · show (i : Int) < 8
      omega
  · intro o ho
    simp only [rgw, List.mem_map] at ho
    obtain ⟨i, hi, rfl⟩ := ho
    have := Nat.mod_lt (i + t) hN
    constructor
    · exact Int.natCast_nonneg _
    · show (((i + t) % N : Nat) : Int) < 8
      omega
theorem tmodN (x j : Nat) : (x : Int).tmod (j : Int) = ((x % j : Nat) : Int) := by
  rw [Int.tmod_eq_emod_of_nonneg (Int.natCast_nonneg _)]; rfl
theorem tmod_w {x : Int} {y j m : Nat} (hx : x = (y : Int)) (h : y % j = m) (hm : m < 100) : x.tmod (j : Int) = (m : Int) ∧ IntKind.i64.wrap (x.tmod (j : Int)) = (m : Int) ∧ wrap64 (x.tmod (j : Int)) = (m : Int) := by
  subst hx
  have e := tmodN y j
  rw [h] at e
  exact ⟨e, by rw [e, IntKind.wrap_i64]; omega, by rw [e]; unfold wrap64; omega⟩
set_option maxHeartbeats 4000000 in
set_option maxRecDepth 100000 in
theorem rings_walk (a b : Int) (sh : Bool) (w : World) :
    Calls Try.prog 6 #[.int .i64 a, .int .i64 b, .bool sh] w fun e W' => e = .returned (.bool true) ∧ Below w.heap.size w W' := by
  go_enter Try.func6, Try.ntmps6
  go_wp2_with fail
  refine (known_ _).mono ?_
  rintro e w1 ⟨rfl, hb1⟩
  go_wp2_with fail
  refine (within_ a 6 _ (by omega) (by omega)).mono ?_
  rintro e w2 ⟨rfl, rfl⟩
  have hwa := wi_bd (a := a) (n := 6) (by omega)
  obtain ⟨M, hM, hM6⟩ : ∃ M : Nat, wi a 6 = (M : Int) ∧ M < 6 := ⟨(wi a 6).toNat, by omega, by omega⟩
  rw [hM]
  clear hM hwa
  go_wp2_with fail
  rw [show (2 : Int) + (M : Int) = ((M + 2 : Nat) : Int) by omega]
  obtain ⟨N, hN⟩ : ∃ N, M + 2 = N := ⟨_, rfl⟩
  rw [hN]
  have hN2 : 2 ≤ N := by omega
  have hN8 : N < 8 := by omega
  clear hN hM6
  obtain ⟨W, hW, hbW1, G0, B0⟩ : ∃ W, W = (w1.alloc (.cells nms 9)).alloc (.cells #[.slice none 0 0, .slice none 0 0] 26) ∧ Below w1.heap.size w1 W ∧ Blk W w1.heap.size 9 nms ∧ Blk W (w1.heap.size + 1) 26 #[.slice none 0 0, .slice none 0 0] :=
    ⟨_, rfl, ((Below.refl _ _).alloc (Nat.le_refl _) _).alloc (by simp) _, (Blk.new _ _ _).alloc _, blk_new_at _ _ _ _ (by simp)⟩
  unfold nms at hW
  rw [← hW]
  clear hW
  have hbW := Below.trans hb1 (Below.mono hbW1 hb1.size)
  have hV0 : Va W (w1.heap.size + 1) ⟨rgh 0, []⟩ := ⟨_, _, _, _, _, _, B0, LkR.none W⟩
  have hgw : w.heap.size ≤ w1.heap.size := hb1.size
  clear hbW1 hb1 B0
  generalize w1.heap.size = g at *
  go_loopw [9] (fun i wr => ∃ (j : Nat), i = .int .i64 j ∧ j ≤ N ∧ Va wr (g + 1) ⟨rgh j, []⟩ ∧ Blk wr g 9 nms ∧ Below w.heap.size w wr) (fun i _ => N - (intOf i).toNat)
  case atStart => exact ⟨0, rfl, Nat.zero_le _, hV0, G0, hbW⟩
  case round =>
    obtain ⟨j, rfl, hj, hV, hG, hbw⟩ := hrel
    clear hV0 G0 hbW
    obtain ⟨A1, n1, c1, A2, n2, c2, hB, hL⟩ := hV
    rcases Nat.lt_or_ge j N with hlt | hge
    · have hd : decide ((j : Int) < (N : Int)) = true := by simp; omega
      have hj7 : (j : Int) < 7 := by omega
      have hd7 : decide ((j : Int) < 7) = true := by simp; omega
      go_wp2_with fail
      have D := fun w' (h : Blk w' g 9 nms ∧ Below w.heap.size w w') => (show w'.cell? ⟨g, j, none⟩ = some (.string (nm j)) from by rw [h.1.cell]; exact nms_at j (by omega))
      refine wp_region_oneS (S := fun w' => Blk w' g 9 nms ∧ Below w.heap.size w w') [(1, true), (2, true), (3, true), (4, true), (5, true), (6, true), (0, false), (7, false), (8, true), (9, true), (10, true), (11, false)] (by kernel_rfl) (by kernel_rfl) (by kernel_rfl) (by decide) ⟨hG, hbw.drew⟩ ?_
      repeat ((with_reducible show wpPerm _ _ _ _ ((_, true) :: _) _ _); (first | (refine wpPerm_on (v := ?_) rfl rfl (wanted_free rfl) (fun w' hS => ?_) ?_; rotate_left; (focus (go_simp; (try with_reducible rfl); done)); try simp only [List.setIfInBounds_toArray, List.set_cons_zero, List.set_cons_succ]) | (refine wpPerm_on (v := ?_) rfl rfl (wanted_yes rfl rfl rfl) (fun w' hS => ?_) ?_; rotate_left; (focus (go_simp; (try with_reducible rfl); done)); try simp only [List.setIfInBounds_toArray, List.set_cons_zero, List.set_cons_succ]) | (refine wpPerm_off rfl rfl (wanted_no rfl rfl rfl) ?_; try simp only [List.setIfInBounds_toArray, List.set_cons_zero, List.set_cons_succ]) | (refine wpPerm_off rfl rfl (wanted_undef rfl rfl rfl) ?_; try simp only [List.setIfInBounds_toArray, List.set_cons_zero, List.set_cons_succ])))
      have q0 := (Blk.drew hB).cell 0
      have q1 := (Blk.drew hB).cell 1
      refine wpPerm_do rfl (wanted_free rfl) (fun K hK => ?_); go_simp
      refine hK.out _ _ ⟨hG, hbw.drew⟩ ?_
      clear hK K q0 q1
      refine wpPerm_do rfl (wanted_free rfl) (fun K hK => ?_); go_simp
      have hA := Ask_ ⟨rgh j, []⟩ ⟨(j : Int), nm j, true⟩ _ _ (hL.ext (Below.refl _ _).drew) (by rw [rgh_len]; omega) (Nat.zero_le _)
      rw [rg_step j (by omega)] at hA
      refine hA.mono ?_
      rintro e w3 ⟨v, rfl, hL3, hb3⟩
      obtain ⟨A3, n3, c3, A4, n4, c4, rfl, hL3⟩ := hL3.parts
      have hB3 := hB.ext (Below.trans (Below.refl _ _).drew hb3)
      have hG3 := hG.ext (Below.trans (Below.refl _ _).drew hb3)
      have hb4 := Below.trans hbw.drew (Below.mono hb3 hbw.size)
      refine hK.out _ _ ⟨hG3, hb4⟩ ?_
      clear hK K hA hB hL hb3 hG
      repeat ((with_reducible show wpPerm _ _ _ _ ((_, true) :: _) _ _); (first | (refine wpPerm_on (v := ?_) rfl rfl (wanted_free rfl) (fun w' hS => ?_) ?_; rotate_left; (focus (go_simp; (try with_reducible rfl); done)); try simp only [List.setIfInBounds_toArray, List.set_cons_zero, List.set_cons_succ]) | (refine wpPerm_on (v := ?_) rfl rfl (wanted_yes rfl rfl rfl) (fun w' hS => ?_) ?_; rotate_left; (focus (go_simp; (try with_reducible rfl); done)); try simp only [List.setIfInBounds_toArray, List.set_cons_zero, List.set_cons_succ]) | (refine wpPerm_off rfl rfl (wanted_no rfl rfl rfl) ?_; try simp only [List.setIfInBounds_toArray, List.set_cons_zero, List.set_cons_succ]) | (refine wpPerm_off rfl rfl (wanted_undef rfl rfl rfl) ?_; try simp only [List.setIfInBounds_toArray, List.set_cons_zero, List.set_cons_succ])))
      clear D
      have f0 := hB3.frozen 0
      have f1 := hB3.frozen 1
      have q0 := hB3.cell 0
      have q1 := hB3.cell 1
      refine wpPerm_do rfl (wanted_free rfl) (fun K hK => ?_); go_simp
      clear f0 f1 q0 q1
      obtain ⟨w6, hw6, C6, hL6, hlow, hgr⟩ := Va.set hB3 (by simp) hL3
      rw [← hw6]
      clear hw6
      have hG6 := hG3.grown hgr (by simp)
      have hb6 := Below.trans hb4 (hlow w.heap.size (by omega))
      refine hK.out _ _ ⟨hG6, hb6⟩ (wpPerm_done ?_)
      clear hK K
      go_wp2
      exact ⟨⟨j + 1, by go_num, by omega, ⟨_, _, _, _, _, _, C6, hL6⟩, hG6, hb6⟩, by simp [intOf]; omega⟩
    · have hd : decide ((j : Int) < (N : Int)) = false := by simp; omega
      obtain rfl : j = N := by omega
      go_wp2_with fail
      have hwb := wi_bd (a := b) (n := (j : Int)) (by omega)
      obtain ⟨t, ht, htN⟩ : ∃ t : Nat, wi b (j : Int) = (t : Int) ∧ t < j := ⟨(wi b (j : Int)).toNat, by omega, by omega⟩
      have HT := Lib.hid ht
      clear ht hwb
      have hV0 : Va wr (g + 1) (rgw j t 0 sh) := ⟨A1, n1, c1, A2, n2, c2, hB, hL⟩
      have hbw0 := hbw
      have hG0 := hG
      clear hB hL hbw hG hd
      have hN0 : ((j : Int) == 0) = false := by simp; omega
      have hN1 : (j : Int) ≠ 0 := by omega
      go_loopw [10] (fun i wr => ∃ (k : Nat), i = .int .i64 k ∧ k ≤ j ∧ Va wr (g + 1) (rgw j t k sh) ∧ Blk wr g 9 nms ∧ Below w.heap.size w wr) (fun i _ => j - (intOf i).toNat)
      case atStart => exact ⟨0, rfl, Nat.zero_le _, hV0, hG0, hbw0⟩
      case round =>
        obtain ⟨k, rfl, hk, hV, hG, hbw⟩ := hrel
        clear hV0 hG0 hbw0
        obtain ⟨A1, n1, c1, A2, n2, c2, hB, hL⟩ := hV
        rcases Nat.lt_or_ge k j with hlt | hge
        · have hd : decide ((k : Int) < (j : Int)) = true := by simp; omega
          go_wp2_with fail
          refine (within_ b (j : Int) _ (by omega) (by omega)).mono ?_
          rintro e w2 ⟨rfl, rfl⟩
          rw [HT.out]
          have hstep := rgw_step j hN8 hN2 t htN k hlt sh
          have hno := rgw_no j hN8 hN2 t htN k hlt sh
          have hsN := Nat.mod_lt (k + t) (show j > 0 by omega)
          have hmN := Nat.mod_lt ((k + t) % j + 1) (show j > 0 by omega)
          obtain ⟨s, hs⟩ : ∃ s, (k + t) % j = s := ⟨_, rfl⟩
          rw [hs] at hsN hstep hno hmN
          obtain ⟨m, hm⟩ : ∃ m, (s + 1) % j = m := ⟨_, rfl⟩
          rw [hm] at hmN hstep
          have hm100 : m < 100 := Nat.lt_trans hmN (by omega)
          have HE2 := Lib.hid (tmod_w (x := (s : Int) + 1) rfl hm hm100)
          obtain ⟨e1, e1w, e1x⟩ := tmod_w (x := (k : Int) + (t : Int)) rfl hs (Nat.lt_trans hsN (by omega))
          have HSTEP := Lib.hid hstep
          have HNO := Lib.hid hno
          have hs7 : s < 7 := Nat.lt_of_lt_of_le hsN (by omega)
          have HM := Lib.hid hmN
          clear hs hstep hno hm hm100 hmN
          have q0 := hB.cell 0
          have q1 := hB.cell 1
          go_wp2_with fail
          clear e1 e1w e1x
          have hlen := rgw_len j t k sh
          have hbds := rgw_bd j t k sh (by omega) hN8
          refine (Victim_ (rgw j t k sh) (s : Int) _ _ hL (by omega) (by omega) (fun o ho => bs_bd (hbds.1 o ho)) (fun o ho => bs_bd (hbds.2 o ho)) (by unfold bd; omega)).mono ?_
          rintro e w3 ⟨v, is, rfl, hv, hb3⟩
          have his := hv.not (noRing_spec HNO.out)
          subst his
          have hB3 := hB.ext hb3
          have hL3 := hL.ext hb3
          have hG3 := hG.ext hb3
          have hb4 := Below.trans hbw (Below.mono hb3 hbw.size)
          clear q0 q1 hB hL hG hb3 hv
          go_wp2_with fail
          have hmN := HM.out
          have hm7n : m < 7 := by omega
          have hm7 : (m : Int) < 7 := by omega
          have hdm7 : decide ((m : Int) < 7) = true := by simp; omega
          have hNj : ¬ j = 0 := by omega
          have e3 : IntKind.i64.wrap ((s : Int) + 1) = (s : Int) + 1 := by rw [IntKind.wrap_i64]; omega
          obtain ⟨e2, e2w, e2x⟩ := HE2.out
          have D := fun w' (h : Below w3.heap.size w3.drew w') => (show w'.cell? ⟨g + 1, 0, none⟩ = some (.slice A1 n1 c1) ∧ w'.cell? ⟨g + 1, 1, none⟩ = some (.slice A2 n2 c2) ∧ w'.cell? ⟨g, m, none⟩ = some (.string (nm m)) from
            ⟨(hB3.ext (Below.trans (Below.refl _ _).drew h)).cell 0, (hB3.ext (Below.trans (Below.refl _ _).drew h)).cell 1, by rw [(hG3.ext (Below.trans (Below.refl _ _).drew h)).cell]; exact nms_at m hm7n⟩)
          refine wp_region_mix1 ⟨16, 14, fun g => .pointer (some ⟨g, 0, none⟩), .cells #[.slice none 0 0, .slice none 0 0] 26⟩
            [(0, true), (1, true), (2, true), (3, true), (4, true), (5, true), (6, true), (7, true), (8, true), (9, true), (10, true), (11, true)] [(12, false), (13, true), (14, true), (15, true)] [(17, false), (18, true)] (by kernel_rfl) (by kernel_rfl) ?_
          repeat ((with_reducible show wpI _ _ _ _ _ ((_, true) :: _) _ _); (first | (refine wpI_on (v := ?_) rfl rfl (wanted_free rfl) (fun w' hS => ?_) ?_; rotate_left; (focus (go_simp; (try with_reducible rfl); done)); try simp only [List.setIfInBounds_toArray, List.set_cons_zero, List.set_cons_succ]) | (refine wpI_on (v := ?_) rfl rfl (wanted_yes rfl rfl rfl) (fun w' hS => ?_) ?_; rotate_left; (focus (go_simp; (try with_reducible rfl); done)); try simp only [List.setIfInBounds_toArray, List.set_cons_zero, List.set_cons_succ]) | (refine wpI_off rfl rfl (wanted_no rfl rfl rfl) ?_; try simp only [List.setIfInBounds_toArray, List.set_cons_zero, List.set_cons_succ]) | (refine wpI_off rfl rfl (wanted_undef rfl rfl rfl) ?_; try simp only [List.setIfInBounds_toArray, List.set_cons_zero, List.set_cons_succ])))
          refine wpI_done ⟨?_, ?_⟩
          · intro u hu
            simp only [List.mem_cons, List.not_mem_nil, or_false] at hu
            subst hu
            exact ⟨_, rfl, rfl, wanted_free rfl, fun w => by go_simp⟩
          clear D e2 e2w e2x e3
          refine wpI_do rfl (wanted_free rfl) (fun wI hI hSI K hK => ?_); go_simp
          have hI4 := Below.trans (Below.refl _ _).drew hI
          have hA := Ask_ (rgw j t k sh) ⟨(s : Int), nm m, !sh⟩ _ _ (hL3.ext hI4) (by omega) (by omega)
          rw [HSTEP.out.1, HSTEP.out.2] at hA
          refine hA.mono ?_
          rintro e w4 ⟨v, rfl, hL4, hb5⟩
          obtain ⟨A3, n3, c3, A4, n4, c4, rfl, hL4⟩ := hL4.parts
          have hI5 := Below.trans hI4 (Below.mono hb5 hI4.size)
          refine hK.out _ _ hb5 ?_
          clear hK K hI hSI hb5 hA hI4
          repeat ((with_reducible show wpI _ _ _ _ _ ((_, true) :: _) _ _); (first | (refine wpI_on (v := ?_) rfl rfl (wanted_free rfl) (fun w' hS => ?_) ?_; rotate_left; (focus (go_simp; (try with_reducible rfl); done)); try simp only [List.setIfInBounds_toArray, List.set_cons_zero, List.set_cons_succ]) | (refine wpI_on (v := ?_) rfl rfl (wanted_yes rfl rfl rfl) (fun w' hS => ?_) ?_; rotate_left; (focus (go_simp; (try with_reducible rfl); done)); try simp only [List.setIfInBounds_toArray, List.set_cons_zero, List.set_cons_succ]) | (refine wpI_off rfl rfl (wanted_no rfl rfl rfl) ?_; try simp only [List.setIfInBounds_toArray, List.set_cons_zero, List.set_cons_succ]) | (refine wpI_off rfl rfl (wanted_undef rfl rfl rfl) ?_; try simp only [List.setIfInBounds_toArray, List.set_cons_zero, List.set_cons_succ])))
          refine wpI_done ?_
          intro g1 wf he hb hlo1 hhi1 hat1
          go_frame
          have C1 := blk_get hat1
          have hL5 := hL4.ext he
          have hI6 := Below.trans hI5 (Below.mono he hI5.size)
          have f0 := C1.frozen 0
          have f1 := C1.frozen 1
          have p0 := C1.cell 0
          have p1 := C1.cell 1
          clear hat1 hL4 he hI5
          refine wpPerm_do rfl (wanted_free rfl) (fun K hK => ?_); go_simp
          clear f0 f1 p0 p1
          obtain ⟨w5, hw5, C5, hL5, hlow, hgr⟩ := Va.set C1 (by simp) hL5
          rw [← hw5]
          clear hw5 C1
          refine hK.out _ _ (Below.trans hb (hlow _ hlo1)) ?_
          clear hK K
          repeat ((with_reducible show wpPerm _ _ _ _ ((_, true) :: _) _ _); (first | (refine wpPerm_on (v := ?_) rfl rfl (wanted_free rfl) (fun w' hS => ?_) ?_; rotate_left; (focus (go_simp; (try with_reducible rfl); done)); try simp only [List.setIfInBounds_toArray, List.set_cons_zero, List.set_cons_succ]) | (refine wpPerm_on (v := ?_) rfl rfl (wanted_yes rfl rfl rfl) (fun w' hS => ?_) ?_; rotate_left; (focus (go_simp; (try with_reducible rfl); done)); try simp only [List.setIfInBounds_toArray, List.set_cons_zero, List.set_cons_succ]) | (refine wpPerm_off rfl rfl (wanted_no rfl rfl rfl) ?_; try simp only [List.setIfInBounds_toArray, List.set_cons_zero, List.set_cons_succ]) | (refine wpPerm_off rfl rfl (wanted_undef rfl rfl rfl) ?_; try simp only [List.setIfInBounds_toArray, List.set_cons_zero, List.set_cons_succ])))
          refine wpPerm_done ?_
          have hI7 := Below.trans hI6 (hlow w3.heap.size hlo1)
          have hb7 := Below.trans hb4 (Below.mono hI7 hb4.size)
          have D1 := hB3.ext hI7
          have hG7 := hG3.ext hI7
          clear hb hlow hgr hI6
          have p0 := C5.cell 0
          have p1 := C5.cell 1
          have f0 := D1.frozen 0
          have f1 := D1.frozen 1
          have r0 := D1.cell 0
          have r1 := D1.cell 1
          go_wp2
          clear p0 p1 f0 f1 r0 r1
          obtain ⟨w6, hw6, C6, hL6, hlow, hgr⟩ := Va.set D1 (by simp) hL5
          rw [← hw6]
          clear hw6
          exact ⟨⟨k + 1, by go_num, by omega, ⟨_, _, _, _, _, _, C6, hL6⟩, hG7.grown hgr (by simp), Below.trans hb7 (hlow _ (by omega))⟩, by simp [intOf]; omega⟩
        · have hd : decide ((k : Int) < (j : Int)) = false := by simp; omega
          obtain rfl : k = j := by omega
          go_wp2_with fail
          have hlen := rgw_len k t k sh
          have hbds := rgw_bd k t k sh (by omega) hN8
          have hedge := rgw_edge k hN8 hN2 t htN sh
          have hV0 : Va wr (g + 1) (rgw k t k sh) := ⟨A1, n1, c1, A2, n2, c2, hB, hL⟩
          have hbw0 := hbw
          clear hB hL hbw hG hd
          go_loopw [16] (fun i wr => ∃ (s : Nat), i = .int .i64 s ∧ s ≤ k ∧ Va wr (g + 1) (rgw k t k sh) ∧ Below w.heap.size w wr) (fun i _ => k - (intOf i).toNat)
          case atStart => exact ⟨0, rfl, Nat.zero_le _, hV0, hbw0⟩
          case round =>
            obtain ⟨s, rfl, hs, hV, hbw⟩ := hrel
            clear hV0 hbw0
            obtain ⟨A1, n1, c1, A2, n2, c2, hB, hL⟩ := hV
            have q0 := hB.cell 0
            have q1 := hB.cell 1
            rcases Nat.lt_or_ge s k with hlt | hge
            · have hd : decide ((s : Int) < (k : Int)) = true := by simp; omega
              go_wp2_with fail
              refine (Victim_ (rgw k t k sh) (s : Int) _ _ hL (by omega) (by omega) (fun o ho => bs_bd (hbds.1 o ho)) (fun o ho => bs_bd (hbds.2 o ho)) (by unfold bd; omega)).mono ?_
              rintro e w3 ⟨v, is, rfl, hv, hb3⟩
              obtain ⟨rfl, rfl⟩ := ring_vic (by omega) hedge hlt hv
              have hB3 := hB.ext hb3
              have hL3 := hL.ext hb3
              have hb4 := Below.trans hbw (Below.mono hb3 hbw.size)
              clear q0 q1 hB hL hb3 hv
              go_wp2
              exact ⟨⟨s + 1, by go_num, by omega, ⟨A1, n1, c1, A2, n2, c2, hB3, hL3⟩, hb4⟩, by simp [intOf]; omega⟩
            · have hd : decide ((s : Int) < (k : Int)) = false := by simp; omega
              obtain rfl : s = k := by omega
              go_wp2_with fail
              refine (Free_ (rgw s t s sh) ((s : Int) - 1) _ _ hL (by omega) (by omega)).mono ?_
              rintro e w3 ⟨v, rfl, hL3, hb3⟩
              obtain ⟨A3, n3, c3, A4, n4, c4, rfl, hL3⟩ := hL3.parts
              have hB3 := hB.ext hb3
              have hb4 := Below.trans hbw (Below.mono hb3 hbw.size)
              clear q0 q1 hB hL hb3
              have f0 := hB3.frozen 0
              have f1 := hB3.frozen 1
              have q0 := hB3.cell 0
              have q1 := hB3.cell 1
              go_wp2_with fail
              clear f0 f1 q0 q1
              obtain ⟨w6, hw6, C6, hL6, hlow, hgr⟩ := Va.set hB3 (by simp) hL3
              rw [← hw6]
              clear hw6
              have hb6 := Below.trans hb4 (hlow w.heap.size (by omega))
              have hfr := rgw_free s hN8 hN2 t htN sh
              have hlf : (freeL (rgw s t s sh) ((s : Int) - 1)).hs.length ≤ 1000 ∧ (freeL (rgw s t s sh) ((s : Int) - 1)).ws.length ≤ 1000 := ⟨Nat.le_trans (woL_len _ _) (by omega), Nat.le_trans (woL_len _ _) (by omega)⟩
              have hbf1 : ∀ o ∈ (freeL (rgw s t s sh) ((s : Int) - 1)).hs, bs o := fun o ho => hbds.1 o (woL_mem ho).1
              have hbf2 : ∀ o ∈ (freeL (rgw s t s sh) ((s : Int) - 1)).ws, bs o := fun o ho => hbds.2 o (woL_mem ho).1
              generalize freeL (rgw s t s sh) ((s : Int) - 1) = LF at *
              have hV0 : Va w6 (g + 1) LF := ⟨_, _, _, _, _, _, C6, hL6⟩
              clear hB3 hL3 C6 hL6 hlow hgr hb4 hbw hd
              go_loopw [19] (fun i wr => ∃ (q : Nat), i = .int .i64 q ∧ q ≤ s ∧ Va wr (g + 1) LF ∧ Below w.heap.size w wr) (fun i _ => s - (intOf i).toNat)
              case atStart => exact ⟨0, rfl, Nat.zero_le _, hV0, hb6⟩
              case round =>
                obtain ⟨q, rfl, hq, hV, hbw⟩ := hrel
                clear hV0 hb6
                obtain ⟨A1, n1, c1, A2, n2, c2, hB, hL⟩ := hV
                have q0 := hB.cell 0
                have q1 := hB.cell 1
                rcases Nat.lt_or_ge q s with hlt | hge
                · have hd : decide ((q : Int) < (s : Int)) = true := by simp; omega
                  go_wp2_with fail
                  refine (Victim_ LF (q : Int) _ _ hL hlf.1 hlf.2 (fun o ho => bs_bd (hbf1 o ho)) (fun o ho => bs_bd (hbf2 o ho)) (by unfold bd; omega)).mono ?_
                  rintro e w3 ⟨v, is, rfl, hv, hb3⟩
                  have his := hv.not (noRing_spec (hfr q hlt))
                  subst his
                  have hB3 := hB.ext hb3
                  have hL3 := hL.ext hb3
                  have hb4 := Below.trans hbw (Below.mono hb3 hbw.size)
                  clear q0 q1 hB hL hb3 hv
                  go_wp2
                  exact ⟨⟨q + 1, by go_num, by omega, ⟨A1, n1, c1, A2, n2, c2, hB3, hL3⟩, hb4⟩, by simp [intOf]; omega⟩
                · have hd : decide ((q : Int) < (s : Int)) = false := by simp; omega
                  go_wp2
                  go_ret
                  exact ⟨rfl, hbw⟩
end Go.Proofs.Ytlfonenjgchklaa.lk
