/- The walk of LexLong. -/
import Derived.Test.YtfmpnanfjomcbaaK9
import Derived.OwnWalk
namespace Go.Proofs.Ytfmpnanfjomcbaa.lx
open Go.ChangeShapes Go.WideShapes Go.ChangeAt Go.RowKit Go.Proofs.Ytfmpnanfjomcbaa.lib
set_option linter.unusedVariables false

def filled (k N : Nat) : List UInt8 := List.replicate k 32 ++ List.replicate (N - k) 0
theorem filled_set (k N : Nat) (h : k < N) : (u8s (filled k N)).set k (.int .u8 32) = u8s (filled (k + 1) N) := by
  have e : N - k = (N - (k + 1)) + 1 := by omega
  unfold u8s filled
  rw [e, List.replicate_succ]
  simp only [List.map_append, List.map_cons, List.map_replicate]
  rw [List.set_append_right _ _ (by simp)]
  simp only [List.length_replicate, Nat.sub_self, List.set_cons_zero]
  rw [List.replicate_succ' (n := k), List.append_assoc]
  rfl
theorem words_blank (N : Nat) : wordsL (List.replicate N 32) = if 600 < N then (5, []) else (0, [endW]) := by
  have h := lex_blanks (List.replicate N 32) [] [] (fun c hc => by rw [List.eq_of_mem_replicate hc]; rfl)
  rw [List.append_nil, lexL_nil] at h
  unfold wordsL
  rw [List.length_replicate, h]
  rfl
theorem made_bytes (N : Nat) : (madeCells #[Value.int .u8 0] N).toList = u8s (filled 0 N) := by
  have e : ∀ l : List Nat, l.map (fun x => [Value.int .u8 0][x % 1]?.getD default) = List.replicate l.length (.int .u8 0) := by
    intro l
    rw [List.eq_replicate_iff]
    refine ⟨by simp, fun b hb => ?_⟩
    obtain ⟨x, _, rfl⟩ := List.mem_map.1 hb
    rw [Nat.mod_one]; rfl
  unfold filled u8s
  simp [madeCells, e]
theorem filled_all (N : Nat) : filled N N = List.replicate N 32 := by simp [filled]

set_option maxRecDepth 100000 in
set_option maxHeartbeats 4000000 in
theorem long_walk (a : Int) (w : World) (ha : -9223372036854775808 ≤ a) (hb : a ≤ 9223372036854775807) :
    Calls Try.prog 9 #[.int .i64 a] w fun e w' => e = .returned (.bool true) ∧ Below w.heap.size w w' := by
  obtain ⟨m, hm, hm6⟩ : ∃ m : Nat, a % 7 = m ∧ m ≤ 6 := ⟨(a % 7).toNat, by omega, by omega⟩
  have HM := Lib.hid hm
  clear hm
  have hws : wordsL (List.replicate (597 + m) 32) = if 600 < 597 + m then (5, []) else (0, [endW]) := words_blank _
  have HW := Lib.hid hws
  clear hws
  have he : ∀ W, (binOp .eql 35 (.agg #[.int .i64 0, .int .i64 0, .string ⟨#[]⟩]) (.agg #[.int .i64 0, .int .i64 0, .string ⟨#[]⟩])).run Try.prog W = .ok (.bool true) W := fun W => by kernel_rfl
  obtain ⟨i0, hi, hz0, hz1, hz2⟩ := info_parts (P := Try.prog) (e := 5) (z := .int .u8 0) (size := 1) (bytes := 1) (by kernel_rfl)
  go_enter Try.func9, Try.ntmps9
  go_wp2_with fail
  refine (known _).mono ?_
  rintro e w1 ⟨rfl, hb1⟩
  go_wp2_with fail
  refine (within a 7 m HM.out _ (by decide) (by decide) ha hb).mono ?_
  rintro e w2 ⟨rfl, rfl⟩
  go_wp2_with (at_make; refine wpList_make_full _ rfl _ _ 42 rfl w1.heap.size 5 i0 (.int .u8 0) 1 Try.underlying42 hi hz0 hz1 _ _ _ _ (597 + m) rfl rfl (by omega) (by omega) ?b2 ?b3 (Nat.le_refl _) ?_)
  case b2 => rw [hz2]; omega
  case b3 => unfold maxLen; omega
  intro w3 hown3 hgrow3
  rw [made_bytes] at hown3
  have hb3 : Below w.heap.size w w3 := hb1.grown hgrow3 hb1.size (fun k h => by cases h)
  have HO3 := Lib.hid hown3
  clear hown3 hgrow3
  go_wp2
  go_loopw [4] (fun i wr => ∃ k : Nat, k ≤ 597 + m ∧ i = .int .i64 k ∧ wr.ownsRow w1.heap.size 5 1 (.slice (some ⟨w1.heap.size, 0, none⟩) (597 + m) (597 + m)) (597 + m) (u8s (filled k (597 + m))) ∧ Below w.heap.size w wr) (fun i _ => 597 + m - (intOf i).toNat)
  case atStart => exact ⟨0, by omega, rfl, HO3.out, hb3⟩
  case round =>
    obtain ⟨k, hk, rfl, hown, hb4⟩ := hrel
    rcases Nat.lt_or_ge k (597 + m) with hlt | hge
    · have hd : decide ((k : Int) < 597 + (m : Int)) = true := by simp; omega
      have q := hown.cellAt k (by omega)
      have hx : ∃ x, (u8s (filled k (597 + m)))[k]? = some x := ⟨_, List.getElem?_eq_getElem (by have := hown.1; omega)⟩
      obtain ⟨x, hx⟩ := hx
      rw [hx] at q
      have f := hown.frozenAt k
      have hst := hown.stored k (.int .u8 32)
      rw [filled_set k _ hlt] at hst
      have HS := Lib.hid hst
      clear hown hst hx
      go_wp2
      clear q f
      go_roundw
      case rel => exact ⟨k + 1, by omega, by go_num, HS.out.1, hb4.grown HS.out.2 hb4.size (fun j hj => by injection hj with hj; have := hb1.size; omega)⟩
      case measure => simp [intOf]; omega
    · have hd : decide ((k : Int) < 597 + (m : Int)) = false := by simp; omega
      obtain rfl : k = 597 + m := by omega
      rw [filled_all] at hown
      have hcv := conv_ hown
      clear hown
      have HZ := Lib.hid (show (ByteArray.mk (Array.replicate (597 + m) (32 : UInt8))).size = 597 + m by simp [ByteArray.size])
      by_cases h6 : 600 < 597 + m
      · have hd6 : decide (600 < 597 + (m : Int)) = true := by simp; omega
        go_wp2_with fail
        refine (wordsE _ (List.replicate (597 + m) 32) 5 _ rfl (by rw [HW.out, if_pos h6]) (by rw [HZ.out]; unfold maxLen; omega)).mono ?_
        rintro r w5 ⟨A, c, rfl, hb5⟩
        go_wp2
        go_ret
        exact ⟨rfl, Below.trans hb4 (Below.mono hb5 hb4.size)⟩
      · have hd6 : decide (600 < 597 + (m : Int)) = false := by simp; omega
        go_wp2_with fail
        refine (words0 _ (List.replicate (597 + m) 32) [endW] 1 _ rfl (by rw [HW.out, if_neg h6]) rfl (by omega) (by rw [HZ.out]; unfold maxLen; omega)).mono ?_
        rintro r w5 ⟨g, c, rfl, hWd, hb5⟩
        have q := hWd.at_ (i := 0) rfl
        simp only [endW] at q
        go_wp2
        go_ret
        exact ⟨rfl, Below.trans hb4 (Below.mono hb5 hb4.size)⟩
end Go.Proofs.Ytfmpnanfjomcbaa.lx
