/- TableFull: the walk. -/
import Derived.Test.YtalfacbkofgdjaaTv
namespace Go.Proofs.Ytalfacbkofgdjaa.tb
open Go.ChangeShapes Go.WideShapes Go.ChangeAt Go.RowKit Go.Proofs.Ytalfacbkofgdjaa.lib Go.Proofs.Ytalfacbkofgdjaa.val
set_option linter.unusedVariables false

theorem rowF_small (b i : Nat) : Small (rowF b i) := fun v hv => by
  simp only [rowF, List.mem_singleton] at hv
  subst hv
  show ByteArray.empty.size ≤ maxLen
  decide
set_option maxRecDepth 1000000 in
set_option maxHeartbeats 4000000 in
theorem full_walk (a b : Int) (w : World) (ha : -9223372036854775808 ≤ a ∧ a ≤ 9223372036854775807) (hb : -9223372036854775808 ≤ b ∧ b ≤ 9223372036854775807) :
    Calls Try.prog 4 #[.int .i64 a, .int .i64 b] w fun e W' => e = .returned (.bool true) ∧ Below w.heap.size w W' := by
  go_enter Try.func4, Try.ntmps4
  go_wp2_with fail
  refine (known_ _).mono ?_
  rintro e w1 ⟨rfl, hb1⟩
  obtain ⟨z, hz, hz9⟩ : ∃ z : Nat, a % 10 = (z : Int) ∧ z < 10 := ⟨(a % 10).toNat, by omega, by omega⟩
  obtain ⟨y, hy, hy9⟩ : ∃ y : Nat, b % 7 = (y : Int) ∧ y < 7 := ⟨(b % 7).toNat, by omega, by omega⟩
  have HZ := Lib.hid hz
  have HY := Lib.hid hy
  clear hz hy
  go_wp2_with fail
  refine (within10 a 10 z HZ.out _ (by decide) (by decide) ha.1 ha.2).mono ?_
  rintro e w2 ⟨rfl, rfl⟩
  go_wp2_with fail
  refine (within10 b 7 y HY.out _ (by decide) (by decide) hb.1 hb.2).mono ?_
  rintro e w2 ⟨rfl, rfl⟩
  obtain ⟨N, hN⟩ : ∃ N : Nat, N = 195 + z := ⟨_, rfl⟩
  obtain ⟨bb, hbb⟩ : ∃ bb : Nat, bb = y + 1 := ⟨_, rfl⟩
  have hN2 : N ≤ 204 ∧ 195 ≤ N := by omega
  have hb2 : 1 ≤ bb ∧ bb ≤ 7 := by omega
  have HNi := Lib.hid (show (195 : Int) + (z : Int) = (N : Int) by omega)
  have HBi := Lib.hid (show (y : Int) + 1 = (bb : Int) by omega)
  clear hN hbb
  go_wp2_with fail
  rw [HNi.out, HBi.out]
  obtain ⟨W, hW_, hbW1, BC, B1⟩ : ∃ W_, W_ = ((w1.alloc (.cells #[.string ⟨#[97]⟩, .int .i64 2, .bool false] 46)).alloc (.cells #[.string ⟨#[120]⟩, .slice (some ⟨w1.heap.size, 0, none⟩) 1 1, .int .i64 0, .bool false, .slice none 0 0] 32)) ∧ Below w1.heap.size w1 W_ ∧ Blk W_ (w1.heap.size) 46 #[.string ⟨#[97]⟩, .int .i64 2, .bool false] ∧ Blk W_ (w1.heap.size + 1) 32 #[.string ⟨#[120]⟩, .slice (some ⟨w1.heap.size, 0, none⟩) 1 1, .int .i64 0, .bool false, .slice none 0 0] :=
    ⟨_, rfl, (((Below.refl _ _).alloc (Nat.le_refl _) _).alloc (by simp; try omega) _), ((blk_new_at w1 (w1.heap.size) _ _ (by simp)).alloc _), (blk_new_at (w1.alloc (.cells #[.string ⟨#[97]⟩, .int .i64 2, .bool false] 46)) (w1.heap.size + 1) _ _ (by simp))⟩
  rw [← hW_]
  clear hW_
  have hbW := Below.trans hb1 (Below.mono hbW1 hb1.size)
  have hV0 : TabV 32 W (w1.heap.size + 1) S0 [] := ⟨_, _, _, _, _, _, B1, ⟨Row.of_blk BC (Nat.zero_le _) 1 1 (Nat.le_refl _), rfl⟩, Rs.nil _ _, .inl rfl⟩
  have hgw : w.heap.size ≤ w1.heap.size := hb1.size
  clear hbW1 hb1 B1 BC
  generalize w1.heap.size = g at *
  go_loopw [6] (fun i wr => ∃ (k : Nat) (rows : List (List V)), i = .int .i64 k ∧ k ≤ N ∧ TabV 32 wr (g + 1) S0 rows ∧ FullI bb k rows ∧ Below w.heap.size w wr) (fun i _ => N - (intOf i).toNat)
  case atStart => exact ⟨0, [], rfl, Nat.zero_le _, hV0, full0 bb, hbW⟩
  case round =>
    clear hV0 hbW
    obtain ⟨k, rows, rfl, hk, hV, hF, hbw⟩ := hrel
    have HF := Lib.hid hF
    have hl0 := hF.len
    have hl200 : rows.length ≤ 200 := by omega
    have HL := Lib.hid hl0
    clear hF hl0
    obtain ⟨A1, n1, c1, A2, n2, c2, B1, hC, hR, hFi⟩ := hV
    rcases Nat.lt_or_ge k N with hlt | hge
    case inr =>
      have hkN : N ≤ k := hge
      have hd : decide ((k : Int) < (N : Int)) = false := by simp; omega
      have q := (five B1 (Below.refl _ _)).2.2.2.2
      have hn2 : Hid (n2 = min k 200) := Lib.hid (by rw [← hR.len, HL.out])
      have hkk : k = N := by omega
      by_cases h2 : N ≤ 200
      · have hm : Hid (min (N : Int) 200 = (N : Int)) := Lib.hid (by omega)
        have hm2 : Hid (n2 = N) := Lib.hid (by rw [hn2.out]; omega)
        clear hkk
        go_wp2
        go_ret
        exact ⟨ret_bool (by simp; have := hm2.out; omega), hbw⟩
      · have hm2 : Hid (n2 = 200) := Lib.hid (by rw [hn2.out]; omega)
        have hm : Hid (min (N : Int) 200 = 200) := Lib.hid (by omega)
        clear hkk
        go_wp2
        go_ret
        exact ⟨ret_bool (by simp; have := hm2.out; omega), hbw⟩
    have hd : decide ((k : Int) < (N : Int)) = true := by simp; omega
    have hm0 : (0 : Int) ≤ (k : Int) * 37 * (bb : Int) ∧ (k : Int) * 37 * (bb : Int) ≤ 60000 := by
      have h1 : k * 37 * bb ≤ 204 * 37 * 7 := Nat.mul_le_mul (Nat.mul_le_mul_right 37 (by omega)) hb2.2
      have h2 : ((k * 37 * bb : Nat) : Int) = (k : Int) * 37 * (bb : Int) := by simp
      omega
    have hmod : ((k : Int) * 37 * (bb : Int)).tmod 1009 = (keyF bb k : Int) := by
      unfold keyF
      rw [show (k : Int) * 37 * (bb : Int) = ((k * 37 * bb : Nat) : Int) by simp, show (1009 : Int) = ((1009 : Nat) : Int) from rfl, ← Int.ofNat_tmod]
    obtain ⟨kf, hkf⟩ : ∃ kf, keyF bb k = kf := ⟨_, rfl⟩
    rw [hkf] at hmod
    have q := five B1 (Below.refl _ _)
    obtain ⟨hm1, hm2⟩ := hm0
    have HKF := Lib.hid hkf
    clear hkf
    go_wp2_with fail
    clear q hmod hm1 hm2
    obtain ⟨W4, hW_, hb4, BR⟩ : ∃ W_, W_ = (wr.alloc (.cells #[.int .i64 2, .int .i64 kf, .string ⟨#[]⟩] 39)) ∧ Below wr.heap.size wr W_ ∧ Blk W_ (wr.heap.size) 39 #[.int .i64 2, .int .i64 kf, .string ⟨#[]⟩] :=
      ⟨_, rfl, ((Below.refl _ _).alloc (Nat.le_refl _) _), (blk_new_at wr (wr.heap.size) _ _ (by simp))⟩
    rw [← hW_]
    clear hW_
    have hbw4 := Below.trans hbw (Below.mono hb4 hbw.size)
    have hVs : Vs W4 0 (some ⟨wr.heap.size, 0, none⟩) 1 1 (rowF bb k) := ⟨by
      unfold rowF; rw [HKF.out]; exact Row.of_blk BR (Nat.zero_le _) 1 1 (Nat.le_refl _), rfl⟩
    have hst := full_step HF.out hb2.1 hb2.2 (show k < 1000 by omega)
    have B1 := B1.ext hb4
    have hgl := B1.lt
    refine (put_ S0 rows (rowF bb k) 0 A1 n1 c1 A2 n2 c2 0 (some ⟨wr.heap.size, 0, none⟩) 1 1 _ (hC.ext hb4) (hR.ext hb4) hFi hVs (rowF_small bb k) HF.out.ok (by decide) (by omega) (by decide)).mono ?_
    rintro e w5 ⟨v, rfl, hT5, hb5⟩
    clear hC hR hFi BR hVs
    have hp1 : (putL S0.cols S0.key rows (rowF bb k)).1 = if k < 200 then 0 else 4 := hst.1
    have hF5 : FullI bb (k + 1) (putL S0.cols S0.key rows (rowF bb k)).2 := hst.2
    rw [hp1]
    obtain ⟨rows', hr'⟩ : ∃ rs, (putL S0.cols S0.key rows (rowF bb k)).2 = rs := ⟨_, rfl⟩
    rw [hr'] at hT5 hF5
    clear hst hp1 hr' HF HL
    have HF5 := Lib.hid hF5
    clear hF5
    have hT5' := hT5
    obtain ⟨A5, n5, c5, A6, n6, c6, rfl, _⟩ := hT5
    have hbw5 := Below.trans hbw4 (Below.mono hb5 hbw4.size)
    have B1 := B1.ext hb5
    have hB1 : Blk w5 (g + 1) 32 #[.string S0.name, .slice A1 n1 c1, .int .i64 S0.key, .bool S0.only, .slice A2 n2 c2] := B1
    have hz5 := hb5.size
    simp only [tabA] at hT5' ⊢
    obtain ⟨ee, hee⟩ : ∃ ee : Int, (if k < 200 then (0 : Int) else 4) = ee := ⟨_, rfl⟩
    rw [hee]
    have hB1a := fun o => hB1.alloc o
    have f0 := fun o => (hB1.alloc o).frozen 0
    have f1 := fun o => (hB1.alloc o).frozen 1
    have f2 := fun o => (hB1.alloc o).frozen 2
    have f3 := fun o => (hB1.alloc o).frozen 3
    have f4 := fun o => (hB1.alloc o).frozen 4
    have q := fun o => five hB1 ((Below.refl _ _).alloc (Nat.le_refl _) o)
    go_upto_region 10 with fail
    clear f0 f1 f2 f3 f4 q
    obtain ⟨w6, hw6, hV6, hlow6, hgr6⟩ := setV (hB1.alloc (.cells #[.string S0.name, .slice A5 n5 c5, .int .i64 S0.key, .bool S0.only, .slice A6 n6 c6] 32)) (hT5'.ext ((Below.refl _ _).alloc (Nat.le_refl _) _)) hgl
    rw [← hw6]
    clear hw6
    have hbw6 := Below.trans (hbw5.alloc hbw5.size (.cells #[.string S0.name, .slice A5 n5 c5, .int .i64 S0.key, .bool S0.only, .slice A6 n6 c6] 32)) (hlow6 _ (by omega))
    clear hB1 hB1a hgr6 hlow6
    by_cases hk2 : k < 200
    · rw [if_pos hk2] at hee
      have hd2 : decide ((k : Int) < 200) = true := by simp; omega
      subst hee
      go_wp2
      go_roundw
      case rel => exact ⟨k + 1, rows', by go_num, by omega, hV6, HF5.out, hbw6⟩
      case measure => simp [intOf]; omega
    · rw [if_neg hk2] at hee
      have hd2 : decide ((k : Int) < 200) = false := by simp; omega
      subst hee
      go_wp2
      go_roundw
      case rel => exact ⟨k + 1, rows', by go_num, by omega, hV6, HF5.out, hbw6⟩
      case measure => simp [intOf]; omega
end Go.Proofs.Ytalfacbkofgdjaa.tb
