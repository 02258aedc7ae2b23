/- digits; the walk of LexNums. -/
import Derived.Test.YtfmpnanfjomcbaaNumsPlain
namespace Go.Proofs.Ytfmpnanfjomcbaa.lx
open Go.ChangeShapes Go.WideShapes Go.ChangeAt Go.RowKit Go.Proofs.Ytfmpnanfjomcbaa.lib
set_option linter.unusedVariables false

set_option maxHeartbeats 1000000 in
theorem digits_small (n : Nat) (h : n < 10) (w : World) : Calls Try.prog 15 #[.int .i64 n] w fun e w' => e = .returned (.string ⟨(digs n).toArray⟩) ∧ Below w.heap.size w w' := by
  rw [digs_small n h]
  have hd0 := dig_nat n h
  generalize UInt8.ofNat (48 + n) = d at *
  have h10 : decide (10 ≤ (n : Int)) = false := by simp; omega
  have hd : (d.toNat : Int) = 48 + (n : Int) := by rw [hd0]; simp
  clear hd0
  have hu : u8s [d] = [.int .u8 (48 + (n : Int))] := by rw [← hd]; rfl
  have hcv : (convert 42 9 (.slice (some ⟨w.heap.size, 0, none⟩) 1 1)).run Try.prog (w.alloc (.cells #[.int .u8 (48 + (n : Int))] 5)) = .ok (.string ⟨[d].toArray⟩) (w.alloc (.cells #[.int .u8 (48 + (n : Int))] 5)) := by
    refine conv_ (base := w.heap.size) ?_
    rw [hu]
    exact own_lit w _ _
  have hw8 : IntKind.u8.wrap (48 + (n : Int)) = 48 + (n : Int) := by
    simp [IntKind.wrap, IntKind.bits, IntKind.signed]
    omega
  clear hd hu
  go_enter Try.func15, Try.ntmps15
  go_wp2
  go_ret
  exact ⟨rfl, (Below.refl _ _).alloc (Nat.le_refl _) _⟩
set_option maxHeartbeats 1000000 in
theorem digits_ : ∀ (n : Nat) (z : Int) (w : World), z = n → n ≤ 9223372036854775807 → Calls Try.prog 15 #[.int .i64 z] w fun e w' => e = .returned (.string ⟨(digs n).toArray⟩) ∧ Below w.heap.size w w' := by
  intro n
  induction n using Nat.strongRecOn with
  | ind n ih =>
    rintro z w rfl hn
    by_cases h : 10 ≤ n
    · have h10 : decide (10 ≤ (n : Int)) = true := by simp; omega
      have l1 := digs_19 (n / 10) (by omega)
      have l2 := digs_19 (n % 10) (by omega)
      have z1 : (ByteArray.mk (digs (n / 10)).toArray).size ≤ 19 := by rw [size_mk]; exact l1
      have z2 : (ByteArray.mk (digs (n % 10)).toArray).size ≤ 19 := by rw [size_mk]; exact l2
      have HB := Lib.hid (show (ByteArray.mk (digs (n / 10)).toArray) ++ (ByteArray.mk (digs (n % 10)).toArray) = ⟨(digs n).toArray⟩ by rw [app_mk', ← digs_big n h])
      clear l1 l2
      go_enter Try.func15, Try.ntmps15
      go_wp2_with fail
      refine (ih (n / 10) (by omega) _ _ (by omega) (by omega)).mono ?_
      rintro e w1 ⟨rfl, hb1⟩
      go_wp2_with fail
      refine (ih (n % 10) (by omega) _ _ (by omega) (by omega)).mono ?_
      rintro e w2 ⟨rfl, hb2⟩
      go_wp2
      go_ret
      exact ⟨congrArg (fun b => Ending.returned (.string b)) HB.out, bch0 hb1 hb2⟩
    · exact digits_small n (by omega) w

def Zeros (k : Nat) (u : ByteArray) : Prop := u = ⟨(List.replicate k (48 : UInt8)).toArray⟩

set_option maxRecDepth 1000000 in
set_option maxHeartbeats 4000000 in
theorem nums_pos (zeros more : Int) (N : Nat) (w : World) (hN : N ≤ 9223372036854775807)
    (hz1 : -9223372036854775808 ≤ zeros) (hz2 : zeros ≤ 9223372036854775807) (hm1 : -9223372036854775808 ≤ more) (hm2 : more ≤ 9223372036854775807) :
    Calls Try.prog 5 #[.int .i64 (N : Int), .int .i64 zeros, .int .i64 more] w fun e w' => e = .returned (.bool true) ∧ Below w.heap.size w w' := by
  obtain ⟨z, hz, hz8⟩ : ∃ z : Nat, zeros % 9 = z ∧ z ≤ 8 := ⟨(zeros % 9).toNat, by omega, by omega⟩
  obtain ⟨m, hm, hm1'⟩ : ∃ m : Nat, more % 2 = m ∧ m ≤ 1 := ⟨(more % 2).toNat, by omega, by omega⟩
  have HZ := Lib.hid hz
  have HM := Lib.hid hm
  clear hz hm
  have W1 := Lib.hid (words_digs z N hz8 hN)
  have W2 := Lib.hid (words_over (8 + m) (by omega))
  have W4 := Lib.hid (words_more z hz8)
  have lD := digs_19 N hN
  have sD : (ByteArray.mk (digs N).toArray).size ≤ 19 := by rw [size_mk]; exact lD
  have lM := digs_19 (8 + m) (by omega)
  have sM : (ByteArray.mk (digs (8 + m)).toArray).size ≤ 19 := by rw [size_mk]; exact lM
  clear lD lM
  have hmx : (1000 : Nat) ≤ maxLen := by decide
  have hneg : decide ((N : Int) < 0) = false := by simp
  go_enter Try.func5, Try.ntmps5
  go_wp2_with fail
  refine (known _).mono ?_
  rintro e w1 ⟨rfl, hb1⟩
  go_wp2_with fail
  go_loopw [7, 8] (fun s i wr => ∃ (k : Nat) (u : ByteArray), wr = w1 ∧ k ≤ z ∧ i = .int .i64 k ∧ s = .string u ∧ u.size ≤ k ∧ Hid (Zeros k u)) (fun _ i _ => z - (intOf i).toNat)
  case atStart => exact ⟨0, ⟨#[]⟩, rfl, Nat.zero_le _, rfl, rfl, by decide, Lib.hid rfl⟩
  case round =>
    obtain ⟨k, u, rfl, hk, rfl, rfl, hus, HU⟩ := hrel
    rcases Nat.lt_or_ge k z with hlt | hge
    · have hd : decide ((k : Int) < (z : Int)) = true := by simp; omega
      have hd2 : decide (k < z) = true := by simp; omega
      go_wp2_with fail
      refine (within zeros 9 z HZ.out _ (by decide) (by decide) hz1 hz2).mono ?_
      rintro e w2 ⟨rfl, rfl⟩
      go_wp2_with fail
      go_roundw
      case rel =>
        refine ⟨k + 1, _, by trivial, by omega, by go_num, rfl, by rw [ByteArray.size_append]; show _ + 1 ≤ _; omega, Lib.hid ?_⟩
        have e := HU.out
        unfold Zeros at e ⊢
        rw [e]
        show (ByteArray.mk _) ++ (ByteArray.mk [48].toArray) = _
        rw [app_mk', List.replicate_succ']
      case measure => simp [intOf]; omega
    · have hd : decide ((k : Int) < (z : Int)) = false := by simp; omega
      have hd2 : decide (k < z) = false := by simp; omega
      obtain rfl : k = z := by omega
      have B1 : Hid ((u ++ ByteArray.mk (digs N).toArray).data.toList = List.replicate k 48 ++ digs N) := Lib.hid (by
        have e := HU.out
        unfold Zeros at e
        rw [e, app_mk'])
      have s1 : (u ++ ByteArray.mk (digs N).toArray).size ≤ 40 := by rw [ByteArray.size_append]; omega
      have B2 : Hid ((ByteArray.mk #[57, 50, 50, 51, 51, 55, 50, 48, 51, 54, 56, 53, 52, 55, 55, 53, 56, 48] ++ ByteArray.mk (digs (8 + m)).toArray).data.toList = p18 ++ digs (8 + m)) := Lib.hid (by
        show ((ByteArray.mk p18.toArray) ++ _).data.toList = _
        rw [app_mk'])
      have s2 : (ByteArray.mk #[57, 50, 50, 51, 51, 55, 50, 48, 51, 54, 56, 53, 52, 55, 55, 53, 56, 48] ++ ByteArray.mk (digs (8 + m)).toArray).size ≤ 40 := by rw [ByteArray.size_append]; show 18 + _ ≤ _; omega
      have B4 : Hid ((ByteArray.mk #[49] ++ u ++ ByteArray.mk #[57, 50, 50, 51, 51, 55, 50, 48, 51, 54, 56, 53, 52, 55, 55, 53, 56, 48, 55]).data.toList = [49] ++ List.replicate k 48 ++ (p18 ++ [55])) := Lib.hid (by
        have e := HU.out
        unfold Zeros at e
        rw [e]
        show ((ByteArray.mk [49].toArray) ++ _ ++ (ByteArray.mk (p18 ++ [55]).toArray)).data.toList = _
        rw [app_mk', app_mk'])
      have s3 : (ByteArray.mk #[49] ++ u).size ≤ 9 := by rw [ByteArray.size_append]; show 1 + _ ≤ _; omega
      have s4 : (ByteArray.mk #[49] ++ u ++ ByteArray.mk #[57, 50, 50, 51, 51, 55, 50, 48, 51, 54, 56, 53, 52, 55, 55, 53, 56, 48, 55]).size ≤ 40 := by rw [ByteArray.size_append]; show _ + 19 ≤ _; omega
      have z18 : (ByteArray.mk #[57, 50, 50, 51, 51, 55, 50, 48, 51, 54, 56, 53, 52, 55, 55, 53, 56, 48]).size ≤ 18 := by decide
      have z19 : (ByteArray.mk #[57, 50, 50, 51, 51, 55, 50, 48, 51, 54, 56, 53, 52, 55, 55, 53, 56, 48, 55]).size ≤ 19 := by decide
      go_wp2_with fail
      refine (within zeros 9 k HZ.out _ (by decide) (by decide) hz1 hz2).mono ?_
      rintro e w2 ⟨rfl, rfl⟩
      go_wp2_with fail
      refine (digits_ N _ _ (by omega) hN).mono ?_
      rintro e w2 ⟨rfl, hb2⟩
      go_wp2_with fail
      refine (words0 _ _ [⟨2, N, []⟩, endW] 2 _ B1.out W1.out rfl (by omega) (by omega)).mono ?_
      rintro r w3 ⟨g, c, rfl, hW, hb3⟩
      go_wp2_with fail
      refine (within more 2 m HM.out _ (by decide) (by decide) hm1 hm2).mono ?_
      rintro e w4 ⟨rfl, rfl⟩
      go_wp2_with fail
      refine (digits_ (8 + m) _ _ (by omega) (by omega)).mono ?_
      rintro e w4 ⟨rfl, hb4⟩
      go_wp2_with fail
      refine (wordsE _ _ 11 _ B2.out W2.out (by omega)).mono ?_
      rintro r w5 ⟨A5, c5, rfl, hb5⟩
      go_wp2_with fail
      refine (words0 _ _ [⟨2, 9223372036854775807, []⟩, endW] 2 _ rfl words_top rfl (by omega) (by decide)).mono ?_
      rintro r w6 ⟨g6, c6, rfl, hW6, hb6⟩
      go_wp2_with fail
      refine (wordsE _ _ 11 _ B4.out W4.out (by omega)).mono ?_
      rintro r w7 ⟨A7, c7, rfl, hb7⟩
      have q0 := ((((hW.ext hb4).ext hb5).ext hb6).ext hb7).at_ (i := 0) rfl
      have q6 := (hW6.ext hb7).at_ (i := 0) rfl
      simp only at q0 q6
      go_wp2
      go_ret
      exact ⟨rfl, bch0 hb1 (bch0 hb2 (bch0 hb3 (bch0 hb4 (bch0 hb5 (bch0 hb6 hb7)))))⟩

set_option maxRecDepth 1000000 in
set_option maxHeartbeats 4000000 in
theorem nums_neg (zeros more : Int) (N : Nat) (w : World) (hN : N ≤ 9223372036854775807)
    (hz1 : -9223372036854775808 ≤ zeros) (hz2 : zeros ≤ 9223372036854775807) (hm1 : -9223372036854775808 ≤ more) (hm2 : more ≤ 9223372036854775807) :
    Calls Try.prog 5 #[.int .i64 (-(N : Int) - 1), .int .i64 zeros, .int .i64 more] w fun e w' => e = .returned (.bool true) ∧ Below w.heap.size w w' := by
  obtain ⟨z, hz, hz8⟩ : ∃ z : Nat, zeros % 9 = z ∧ z ≤ 8 := ⟨(zeros % 9).toNat, by omega, by omega⟩
  obtain ⟨m, hm, hm1'⟩ : ∃ m : Nat, more % 2 = m ∧ m ≤ 1 := ⟨(more % 2).toNat, by omega, by omega⟩
  have HZ := Lib.hid hz
  have HM := Lib.hid hm
  clear hz hm
  have W1 := Lib.hid (words_digs z N hz8 hN)
  have W2 := Lib.hid (words_over (8 + m) (by omega))
  have W4 := Lib.hid (words_more z hz8)
  have lD := digs_19 N hN
  have sD : (ByteArray.mk (digs N).toArray).size ≤ 19 := by rw [size_mk]; exact lD
  have lM := digs_19 (8 + m) (by omega)
  have sM : (ByteArray.mk (digs (8 + m)).toArray).size ≤ 19 := by rw [size_mk]; exact lM
  clear lD lM
  have hmx : (1000 : Nat) ≤ maxLen := by decide
  have hneg : decide (-(N : Int) - 1 < 0) = true := by simp; omega
  have hq : -(N : Int) - 1 + 1 = -N := by omega
  go_enter Try.func5, Try.ntmps5
  go_wp2_with fail
  refine (known _).mono ?_
  rintro e w1 ⟨rfl, hb1⟩
  go_wp2_with fail
  go_loopw [7, 8] (fun s i wr => ∃ (k : Nat) (u : ByteArray), wr = w1 ∧ k ≤ z ∧ i = .int .i64 k ∧ s = .string u ∧ u.size ≤ k ∧ Hid (Zeros k u)) (fun _ i _ => z - (intOf i).toNat)
  case atStart => exact ⟨0, ⟨#[]⟩, rfl, Nat.zero_le _, rfl, rfl, by decide, Lib.hid rfl⟩
  case round =>
    obtain ⟨k, u, rfl, hk, rfl, rfl, hus, HU⟩ := hrel
    rcases Nat.lt_or_ge k z with hlt | hge
    · have hd : decide ((k : Int) < (z : Int)) = true := by simp; omega
      have hd2 : decide (k < z) = true := by simp; omega
      go_wp2_with fail
      refine (within zeros 9 z HZ.out _ (by decide) (by decide) hz1 hz2).mono ?_
      rintro e w2 ⟨rfl, rfl⟩
      go_wp2_with fail
      go_roundw
      case rel =>
        refine ⟨k + 1, _, by trivial, by omega, by go_num, rfl, by rw [ByteArray.size_append]; show _ + 1 ≤ _; omega, Lib.hid ?_⟩
        have e := HU.out
        unfold Zeros at e ⊢
        rw [e]
        show (ByteArray.mk _) ++ (ByteArray.mk [48].toArray) = _
        rw [app_mk', List.replicate_succ']
      case measure => simp [intOf]; omega
    · have hd : decide ((k : Int) < (z : Int)) = false := by simp; omega
      have hd2 : decide (k < z) = false := by simp; omega
      obtain rfl : k = z := by omega
      have B1 : Hid ((u ++ ByteArray.mk (digs N).toArray).data.toList = List.replicate k 48 ++ digs N) := Lib.hid (by
        have e := HU.out
        unfold Zeros at e
        rw [e, app_mk'])
      have s1 : (u ++ ByteArray.mk (digs N).toArray).size ≤ 40 := by rw [ByteArray.size_append]; omega
      have B2 : Hid ((ByteArray.mk #[57, 50, 50, 51, 51, 55, 50, 48, 51, 54, 56, 53, 52, 55, 55, 53, 56, 48] ++ ByteArray.mk (digs (8 + m)).toArray).data.toList = p18 ++ digs (8 + m)) := Lib.hid (by
        show ((ByteArray.mk p18.toArray) ++ _).data.toList = _
        rw [app_mk'])
      have s2 : (ByteArray.mk #[57, 50, 50, 51, 51, 55, 50, 48, 51, 54, 56, 53, 52, 55, 55, 53, 56, 48] ++ ByteArray.mk (digs (8 + m)).toArray).size ≤ 40 := by rw [ByteArray.size_append]; show 18 + _ ≤ _; omega
      have B4 : Hid ((ByteArray.mk #[49] ++ u ++ ByteArray.mk #[57, 50, 50, 51, 51, 55, 50, 48, 51, 54, 56, 53, 52, 55, 55, 53, 56, 48, 55]).data.toList = [49] ++ List.replicate k 48 ++ (p18 ++ [55])) := Lib.hid (by
        have e := HU.out
        unfold Zeros at e
        rw [e]
        show ((ByteArray.mk [49].toArray) ++ _ ++ (ByteArray.mk (p18 ++ [55]).toArray)).data.toList = _
        rw [app_mk', app_mk'])
      have s3 : (ByteArray.mk #[49] ++ u).size ≤ 9 := by rw [ByteArray.size_append]; show 1 + _ ≤ _; omega
      have s4 : (ByteArray.mk #[49] ++ u ++ ByteArray.mk #[57, 50, 50, 51, 51, 55, 50, 48, 51, 54, 56, 53, 52, 55, 55, 53, 56, 48, 55]).size ≤ 40 := by rw [ByteArray.size_append]; show _ + 19 ≤ _; omega
      have z18 : (ByteArray.mk #[57, 50, 50, 51, 51, 55, 50, 48, 51, 54, 56, 53, 52, 55, 55, 53, 56, 48]).size ≤ 18 := by decide
      have z19 : (ByteArray.mk #[57, 50, 50, 51, 51, 55, 50, 48, 51, 54, 56, 53, 52, 55, 55, 53, 56, 48, 55]).size ≤ 19 := by decide
      go_wp2_with fail
      refine (within zeros 9 k HZ.out _ (by decide) (by decide) hz1 hz2).mono ?_
      rintro e w2 ⟨rfl, rfl⟩
      go_wp2_with fail
      refine (digits_ N _ _ (by omega) hN).mono ?_
      rintro e w2 ⟨rfl, hb2⟩
      go_wp2_with fail
      refine (words0 _ _ [⟨2, N, []⟩, endW] 2 _ B1.out W1.out rfl (by omega) (by omega)).mono ?_
      rintro r w3 ⟨g, c, rfl, hW, hb3⟩
      go_wp2_with fail
      refine (within more 2 m HM.out _ (by decide) (by decide) hm1 hm2).mono ?_
      rintro e w4 ⟨rfl, rfl⟩
      go_wp2_with fail
      refine (digits_ (8 + m) _ _ (by omega) (by omega)).mono ?_
      rintro e w4 ⟨rfl, hb4⟩
      go_wp2_with fail
      refine (wordsE _ _ 11 _ B2.out W2.out (by omega)).mono ?_
      rintro r w5 ⟨A5, c5, rfl, hb5⟩
      go_wp2_with fail
      refine (words0 _ _ [⟨2, 9223372036854775807, []⟩, endW] 2 _ rfl words_top rfl (by omega) (by decide)).mono ?_
      rintro r w6 ⟨g6, c6, rfl, hW6, hb6⟩
      go_wp2_with fail
      refine (wordsE _ _ 11 _ B4.out W4.out (by omega)).mono ?_
      rintro r w7 ⟨A7, c7, rfl, hb7⟩
      have q0 := ((((hW.ext hb4).ext hb5).ext hb6).ext hb7).at_ (i := 0) rfl
      have q6 := (hW6.ext hb7).at_ (i := 0) rfl
      simp only at q0 q6
      go_wp2
      go_ret
      exact ⟨rfl, bch0 hb1 (bch0 hb2 (bch0 hb3 (bch0 hb4 (bch0 hb5 (bch0 hb6 hb7)))))⟩

theorem nums_walk (n zeros more : Int) (w : World) (hn : -9223372036854775808 ≤ n ∧ n ≤ 9223372036854775807) (hz : -9223372036854775808 ≤ zeros ∧ zeros ≤ 9223372036854775807) (hm : -9223372036854775808 ≤ more ∧ more ≤ 9223372036854775807) :
    Calls Try.prog 5 #[.int .i64 n, .int .i64 zeros, .int .i64 more] w fun e w' => e = .returned (.bool true) ∧ Below w.heap.size w w' := by
  rcases Int.lt_or_le n 0 with h | h
  · obtain ⟨N, rfl⟩ : ∃ N : Nat, n = -(N : Int) - 1 := ⟨(-n - 1).toNat, by omega⟩
    exact nums_neg zeros more N w (by omega) hz.1 hz.2 hm.1 hm.2
  · obtain ⟨N, rfl⟩ : ∃ N : Nat, n = N := ⟨n.toNat, by omega⟩
    exact nums_pos zeros more N w (by omega) hz.1 hz.2 hm.1 hm.2
end Go.Proofs.Ytfmpnanfjomcbaa.lx
