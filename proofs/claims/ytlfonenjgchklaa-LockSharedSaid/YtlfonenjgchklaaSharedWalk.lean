/- LockShared: the walk. -/
import Derived.Test.YtlfonenjgchklaaFin
namespace Go.Proofs.Ytlfonenjgchklaa.lk
open Go.ChangeShapes Go.WideShapes Go.ChangeAt Go.RowKit Go.Proofs.Ytlfonenjgchklaa.lib
set_option linter.unusedVariables false

theorem shr_len (j : Nat) (hj : j ≤ 8) : (shr j).hs.length ≤ 90000 ∧ (shr j).ws.length ≤ 90000 := by simp [shr]; omega
theorem shq_len (N X j : Nat) (hN : N ≤ 8) : (shq N X j).hs.length ≤ 90000 ∧ (shq N X j).ws.length ≤ 90000 := by
  have h := List.length_filter_le (fun o : Hd => decide ((j : Int) ≤ o.s) || decide (o.s = (X : Int))) (shr N).hs
  have h2 : (shr N).hs.length = N := by simp [shr]
  unfold shq
  simp only [List.length_cons, List.length_nil]
  omega
set_option maxHeartbeats 4000000 in
set_option maxRecDepth 100000 in
theorem shared_walk (a b : Int) (w : World) :
    Calls Try.prog 7 #[.int .i64 a, .int .i64 b] w fun e W' => e = .returned (.bool true) ∧ Below w.heap.size w W' := by
  go_enter Try.func7, Try.ntmps7
  go_wp2_with fail
  refine (known_ _).mono ?_
  rintro e w1 ⟨rfl, hb1⟩
  go_wp2_with fail
  refine (within_ a 6 _ (by omega) (by omega)).mono ?_
  rintro e w2 ⟨rfl, rfl⟩
  have hwa := wi_bd (a := a) (n := 6) (by omega)
  obtain ⟨M, hM, hM6⟩ : ∃ M : Nat, wi a 6 = (M : Int) ∧ M < 6 := ⟨(wi a 6).toNat, by omega, by omega⟩
  rw [hM]
  clear hM hwa
  go_wp2_with fail
  rw [show (2 : Int) + (M : Int) = ((M + 2 : Nat) : Int) by omega]
  obtain ⟨N, hN⟩ : ∃ N, M + 2 = N := ⟨_, rfl⟩
  rw [hN]
  have hN2 : 2 ≤ N := by omega
  have hN8 : N < 8 := by omega
  clear hN hM6
  refine (within_ b (N : Int) _ (by omega) (by omega)).mono ?_
  rintro e w2 ⟨rfl, rfl⟩
  have hwb := wi_bd (a := b) (n := (N : Int)) (by omega)
  obtain ⟨X, hX, hXN⟩ : ∃ X : Nat, wi b (N : Int) = (X : Int) ∧ X < N := ⟨(wi b (N : Int)).toNat, by omega, by omega⟩
  rw [hX]
  clear hX hwb
  go_wp2_with fail
  obtain ⟨W, hW_, hbW1, B0⟩ : ∃ W_, W_ = (w1.alloc (.cells #[.slice none 0 0, .slice none 0 0] 26)) ∧ Below w1.heap.size w1 W_ ∧ Blk W_ (w1.heap.size) 26 #[.slice none 0 0, .slice none 0 0] :=
    ⟨_, rfl, ((Below.refl _ _).alloc (Nat.le_refl _) _), (blk_new_at w1 (w1.heap.size) _ _ (by simp))⟩
  rw [← hW_]
  clear hW_
  have hbW := Below.trans hb1 (Below.mono hbW1 hb1.size)
  have hV0 : Va W w1.heap.size (shr 0) := ⟨_, _, _, _, _, _, B0, LkR.none W⟩
  have hgw : w.heap.size ≤ w1.heap.size := hb1.size
  clear hbW1 hb1 B0
  generalize w1.heap.size = g at *
  go_loopw [6] (fun i wr => ∃ (j : Nat), i = .int .i64 j ∧ j ≤ N ∧ Va wr g (shr j) ∧ Below w.heap.size w wr) (fun i _ => N - (intOf i).toNat)
  case atStart => exact ⟨0, rfl, Nat.zero_le _, hV0, hbW⟩
  case round =>
    obtain ⟨j, rfl, hj, hV, hbw⟩ := hrel
    clear hV0 hbW
    obtain ⟨A1, n1, c1, A2, n2, c2, hB, hL⟩ := hV
    have q0 := hB.cell 0
    have q1 := hB.cell 1
    rcases Nat.lt_or_ge j N with hlt | hge
    · have hd : decide ((j : Int) < (N : Int)) = true := by simp; omega
      go_wp2_with fail
      have hA := Ask_ (shr j) ⟨(j : Int), kt, false⟩ _ _ hL (shr_len j (by omega)).1 (shr_len j (by omega)).2
      rw [(shr_step j (by omega)).1, (shr_step j (by omega)).2] at hA
      refine hA.mono ?_
      rintro e w3 ⟨v, rfl, hL3, hb3⟩
      obtain ⟨A3, n3, c3, A4, n4, c4, rfl, hL3⟩ := hL3.parts
      have hB3 := hB.ext hb3
      have hb4 := Below.trans hbw (Below.mono hb3 hbw.size)
      clear q0 q1 hA hB hL hb3
      have f0 := fun o => (hB3.alloc o).frozen 0
      have f1 := fun o => (hB3.alloc o).frozen 1
      have q0 := fun o => (hB3.alloc o).cell 0
      have q1 := fun o => (hB3.alloc o).cell 1
      go_wp2
      clear f0 f1 q0 q1
      obtain ⟨w6, hw6, C6, hL6, hlow, hgr⟩ := Va.set (hB3.alloc (.cells #[.slice A3 n3 c3, .slice A4 n4 c4] 26)) (by simp) (hL3.ext ((Below.refl _ _).alloc (Nat.le_refl _) _))
      rw [← hw6]
      clear hw6
      exact ⟨⟨j + 1, by go_num, by omega, ⟨_, _, _, _, _, _, C6, hL6⟩, Below.trans (hb4.alloc hb4.size _) (hlow _ hgw)⟩, by simp [intOf]; omega⟩
    · have hd : decide ((j : Int) < (N : Int)) = false := by simp; omega
      obtain rfl : j = N := by omega
      go_wp2_with fail
      have hA := Ask_ (shr j) ⟨(X : Int), kt, true⟩ _ _ hL (shr_len j (by omega)).1 (shr_len j (by omega)).2
      rw [(shq_start j hN8 hN2 X hXN).1, (shq_start j hN8 hN2 X hXN).2] at hA
      refine hA.mono ?_
      rintro e w3 ⟨v, rfl, hL3, hb3⟩
      obtain ⟨A3, n3, c3, A4, n4, c4, rfl, hL3⟩ := hL3.parts
      have hB3 := hB.ext hb3
      have hb4 := Below.trans hbw (Below.mono hb3 hbw.size)
      have hn4 : 1 = n4 := hL3.inv.2.2.1
      subst hn4
      clear q0 q1 hA hB hL hb3
      have f0 := hB3.frozen 0
      have f1 := hB3.frozen 1
      have q0 := hB3.cell 0
      have q1 := hB3.cell 1
      go_wp2_with fail
      clear f0 f1 q0 q1
      obtain ⟨w6, hw6, C6, hL6, hlow, hgr⟩ := Va.set hB3 (by simp) hL3
      rw [← hw6]
      clear hw6
      have hb6 := Below.trans hb4 (hlow _ hgw)
      have hV6 : Va w6 g (shq j X 0) := ⟨_, _, _, _, _, _, C6, hL6⟩
      clear hlow hgr C6 hL6 hb4 hB3 hL3
      go_loopw [10] (fun i wr => ∃ (k : Nat), i = .int .i64 k ∧ k ≤ j ∧ Va wr g (shq j X k) ∧ Below w.heap.size w wr) (fun i _ => j - (intOf i).toNat)
      case atStart => exact ⟨0, rfl, Nat.zero_le _, hV6, hb6⟩
      case round =>
        obtain ⟨k, rfl, hk, hV, hbw⟩ := hrel
        clear hV6 hb6 hd
        obtain ⟨A1, n1, c1, A2, n2, c2, hB, hL⟩ := hV
        have q0 := hB.cell 0
        have q1 := hB.cell 1
        rcases Nat.lt_or_ge k j with hlt | hge
        · have hd : decide ((k : Int) < (j : Int)) = true := by simp; omega
          have hst := shq_step j hN8 X hXN k hlt
          by_cases hkx : k = X
          · rw [if_pos hkx] at hst
            have hbx : ((k : Int) != (X : Int)) = false := by simp; omega
            have HST := Lib.hid hst
            clear hst hkx
            go_wp2
            exact ⟨⟨k + 1, by go_num, by omega, ⟨A1, n1, c1, A2, n2, c2, hB, by rw [← HST.out]; exact hL⟩, hbw⟩, by simp [intOf]; omega⟩
          · rw [if_neg hkx] at hst
            have hbx : ((k : Int) != (X : Int)) = true := by simp; omega
            have HST := Lib.hid hst
            clear hst
            go_wp2_with fail
            have hF := Free_ (shq j X k) (k : Int) _ _ hL (Nat.le_trans (shq_len j X k (by omega)).1 (by omega)) (Nat.le_trans (shq_len j X k (by omega)).2 (by omega))
            rw [HST.out] at hF
            refine hF.mono ?_
            rintro e w7 ⟨v, rfl, hL7, hb7⟩
            obtain ⟨A3, n3, c3, A4, n4, c4, rfl, hL7⟩ := hL7.parts
            have hB7 := hB.ext hb7
            have hb8 := Below.trans hbw (Below.mono hb7 hbw.size)
            clear q0 q1 hF hB hL hb7
            have f0 := hB7.frozen 0
            have f1 := hB7.frozen 1
            have q0 := hB7.cell 0
            have q1 := hB7.cell 1
            go_wp2
            clear f0 f1 q0 q1
            obtain ⟨w9, hw9, C9, hL9, hlow, hgr⟩ := Va.set hB7 (by simp) hL7
            rw [← hw9]
            clear hw9
            exact ⟨⟨k + 1, by go_num, by omega, ⟨_, _, _, _, _, _, C9, hL9⟩, Below.trans hb8 (hlow _ hgw)⟩, by simp [intOf]; omega⟩
        · have hd : decide ((k : Int) < (j : Int)) = false := by simp; omega
          obtain rfl : k = j := by omega
          go_wp2_with fail
          have hA := Ask_ (shq k X k) ⟨(X : Int), kt, true⟩ _ _ hL (shq_len k X k (by omega)).1 (shq_len k X k (by omega)).2
          rw [(shq_end k hN8 X hXN).1, (shq_end k hN8 X hXN).2] at hA
          refine hA.mono ?_
          rintro e w7 ⟨v, rfl, hL7, hb7⟩
          obtain ⟨A3, n3, c3, A4, n4, c4, rfl, hL7⟩ := hL7.parts
          have hB7 := hB.ext hb7
          have hb8 := Below.trans hbw (Below.mono hb7 hbw.size)
          obtain ⟨h1, h2, h3, h4⟩ := hL7.inv
          have h1 : 1 = n3 := h1
          have h3 : 0 = n4 := h3
          subst h1 h3
          obtain ⟨b9, rfl, hb9⟩ := h2.some_ (Nat.succ_pos 0)
          have hc9 := h2.at_ (i := 0) (o := ⟨(X : Int), kt, true⟩) rfl
          clear q0 q1 hA hB hL hb7 h4
          have f0 := hB7.frozen 0
          have f1 := hB7.frozen 1
          have q0 := hB7.cell 0
          have q1 := hB7.cell 1
          have hne : b9 ≠ g := by
            rintro rfl
            have h5 := hc9.1
            rw [q0] at h5
            simp at h5
          have q9 : w7.cell? ⟨b9, 2, none⟩ = some (.bool true) := by simpa using hc9.2.2
          clear hc9
          go_wp2
          clear f0 f1 q0 q1
          go_ret
          exact ⟨rfl, (hb8.setCell hgw _).setCell hgw _⟩
end Go.Proofs.Ytlfonenjgchklaa.lk
