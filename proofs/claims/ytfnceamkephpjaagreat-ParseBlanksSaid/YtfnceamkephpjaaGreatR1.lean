/- The document's Digits (eval/XY12, turned to this seat). -/
import Derived.Test.YtfnceamkephpjaaGreatMP18
namespace Go.Proofs.YtfnceamkephpjaaGreat.pg
open Go.ChangeShapes Go.WideShapes Go.ChangeAt Go.RowKit Go.Proofs.YtfnceamkephpjaaGreat.lib Go.Proofs.YtfnceamkephpjaaGreat.lx
set_option linter.unusedVariables false

theorem ud_small (n : Nat) (h : n < 10) (w : World) : Calls Tryz.prog 19 #[.int .u64 n] w fun e w' => e = .returned (.string ⟨(digs n).toArray⟩) ∧ Below w.heap.size w w' := by
  rw [digs_small n h]
  have hd0 := dig_nat n h
  generalize UInt8.ofNat (48 + n) = d at *
  have h10 : decide (10 ≤ (n : Int)) = false := by simp; omega
  have hd : (d.toNat : Int) = 48 + (n : Int) := by rw [hd0]; simp
  clear hd0
  have hu : u8s [d] = [.int .u8 (48 + (n : Int))] := by rw [← hd]; rfl
  have hcv : (convert 91 9 (.slice (some ⟨w.heap.size, 0, none⟩) 1 1)).run Tryz.prog (w.alloc (.cells #[.int .u8 (48 + (n : Int))] 5)) = .ok (.string ⟨[d].toArray⟩) (w.alloc (.cells #[.int .u8 (48 + (n : Int))] 5)) := by
    refine conv_ (base := w.heap.size) ?_
    rw [hu]
    exact own_lit w _ _
  have hw8 : IntKind.u8.wrap (48 + (n : Int)) = 48 + (n : Int) := by
    simp [IntKind.wrap, IntKind.bits, IntKind.signed]
    omega
  have hm : (n : Int) % 10 = (n : Int) := by omega
  have hm2 : n % 10 = n := by omega
  clear hd hu
  go_enter Tryz.func19, Tryz.ntmps19
  go_wp2
  go_ret
  exact ⟨rfl, (Below.refl _ _).alloc (Nat.le_refl _) _⟩
set_option maxHeartbeats 1000000 in
theorem ud_ : ∀ (n : Nat) (z : Int) (w : World), z = n → n ≤ 9223372036854775807 → Calls Tryz.prog 19 #[.int .u64 z] w fun e w' => e = .returned (.string ⟨(digs n).toArray⟩) ∧ Below w.heap.size w w' := by
  intro n
  induction n using Nat.strongRecOn with
  | ind n ih =>
    rintro z w rfl hn
    by_cases h : 10 ≤ n
    · have h10 : decide (10 ≤ (n : Int)) = true := by simp; omega
      have l1 := digs_19 (n / 10) (by omega)
      have l2 := digs_19 (n % 10) (by omega)
      have z1 : (ByteArray.mk (digs (n / 10)).toArray).size ≤ 19 := by rw [size_mk]; exact l1
      have z2 : (ByteArray.mk (digs (n % 10)).toArray).size ≤ 19 := by rw [size_mk]; exact l2
      have HB := Lib.hid (show (ByteArray.mk (digs (n / 10)).toArray) ++ (ByteArray.mk (digs (n % 10)).toArray) = ⟨(digs n).toArray⟩ by rw [app_mk', ← digs_big n h])
      clear l1 l2
      go_enter Tryz.func19, Tryz.ntmps19
      go_wp2_with fail
      refine (ih (n / 10) (by omega) _ _ (by omega) (by omega)).mono ?_
      rintro e w1 ⟨rfl, hb1⟩
      go_wp2_with fail
      refine (ih (n % 10) (by omega) _ _ (by omega) (by omega)).mono ?_
      rintro e w2 ⟨rfl, hb2⟩
      go_wp2
      go_ret
      exact ⟨congrArg (fun b => Ending.returned (.string b)) HB.out, Below.trans hb1 (Below.mono hb2 hb1.size)⟩
    · exact ud_small n (by omega) w
theorem rdigits_ (n : Nat) (w : World) (hn : n ≤ 9223372036854775807) : Calls Tryz.prog 10 #[.int .i64 n] w fun e w' => e = .returned (.string ⟨(digs n).toArray⟩) ∧ Below w.heap.size w w' := by
  have h0 : decide ((n : Int) < 0) = false := by simp
  have hw : IntKind.u64.wrap (n : Int) = (n : Int) := by
    simp [IntKind.wrap, IntKind.bits, IntKind.signed]
    omega
  go_enter Tryz.func10, Tryz.ntmps10
  go_wp2_with fail
  refine (ud_ n _ _ rfl hn).mono ?_
  rintro e w1 ⟨rfl, hb1⟩
  go_wp2
  go_ret
  exact ⟨rfl, hb1⟩
end Go.Proofs.YtfnceamkephpjaaGreat.pg
