/- Contracts of the document's Add, Sub, Mul. -/
import Derived.Test.YtfgmlgflfagdjaaE14
namespace Go.Proofs.Ytfgmlgflfagdjaa.ev
open Go.ChangeShapes Go.WideShapes Go.ChangeAt Go.RowKit Go.Proofs.Ytfgmlgflfagdjaa.lib Go.Proofs.Ytfgmlgflfagdjaa.val
set_option linter.unusedVariables false

theorem wrap_hi {x : Int} (h : 9223372036854775808 ≤ x) (h2 : x < 27670116110564327424) : wrap64 x = x - 18446744073709551616 := by
  unfold wrap64; omega
theorem wrap_lo {x : Int} (h : x < -9223372036854775808) (h2 : -27670116110564327424 ≤ x) : wrap64 x = x + 18446744073709551616 := by
  unfold wrap64; omega
theorem wrap_in {x : Int} (h : ok64 x) : wrap64 x = x := by
  unfold ok64 at h
  unfold wrap64; omega
theorem add_fine (a b : Int) (ha : ok64 a) (hb : ok64 b) : (decide (wrap64 (a + b) < a) == decide (b < 0)) = decide (ok64 (a + b)) := by
  by_cases h : ok64 (a + b)
  · rw [wrap_in h, decide_eq_true h]
    by_cases hb0 : b < 0
    · rw [decide_eq_true (by omega), decide_eq_true hb0]; rfl
    · rw [decide_eq_false (by omega), decide_eq_false hb0]; rfl
  · rw [decide_eq_false h]
    unfold ok64 at *
    by_cases h2 : 9223372036854775807 < a + b
    · rw [wrap_hi (by omega) (by omega)]
      rw [decide_eq_true (by omega), decide_eq_false (by omega)]; rfl
    · rw [wrap_lo (by omega) (by omega)]
      rw [decide_eq_false (by omega), decide_eq_true (by omega)]; rfl
theorem sub_fine (a b : Int) (ha : ok64 a) (hb : ok64 b) : (decide (a < wrap64 (a - b)) == decide (b < 0)) = decide (ok64 (a - b)) := by
  by_cases h : ok64 (a - b)
  · rw [wrap_in h, decide_eq_true h]
    by_cases hb0 : b < 0
    · rw [decide_eq_true (by omega), decide_eq_true hb0]; rfl
    · rw [decide_eq_false (by omega), decide_eq_false hb0]; rfl
  · rw [decide_eq_false h]
    unfold ok64 at *
    by_cases h2 : 9223372036854775807 < a - b
    · rw [wrap_hi (by omega) (by omega)]
      rw [decide_eq_false (by omega), decide_eq_true (by omega)]; rfl
    · rw [wrap_lo (by omega) (by omega)]
      rw [decide_eq_true (by omega), decide_eq_false (by omega)]; rfl
theorem refAdd (a b : Int) (w : World) (ha : ok64 a) (hb : ok64 b) :
    Calls Try.prog 26 #[.int .i64 a, .int .i64 b] w fun e w' => e = .returned (.tuple #[.int .i64 (wrap64 (a + b)), .bool (decide (ok64 (a + b)))]) ∧ w = w' := by
  rw [← add_fine a b ha hb]
  go_enter Try.func26, Try.ntmps26
  go_wp2
  go_ret2
  exact ⟨rfl, rfl⟩
theorem refSub (a b : Int) (w : World) (ha : ok64 a) (hb : ok64 b) :
    Calls Try.prog 27 #[.int .i64 a, .int .i64 b] w fun e w' => e = .returned (.tuple #[.int .i64 (wrap64 (a - b)), .bool (decide (ok64 (a - b)))]) ∧ w = w' := by
  rw [← sub_fine a b ha hb]
  go_enter Try.func27, Try.ntmps27
  go_wp2
  go_ret2
  exact ⟨rfl, rfl⟩
end Go.Proofs.Ytfgmlgflfagdjaa.ev

/- What an expression of two numbers and a sign is worth. -/
namespace Go.Proofs.Ytfgmlgflfagdjaa.ev
open Go.ChangeShapes Go.WideShapes Go.ChangeAt Go.RowKit Go.Proofs.Ytfgmlgflfagdjaa.lib Go.Proofs.Ytfgmlgflfagdjaa.val
set_option linter.unusedVariables false

theorem chk_int (a : Int) : chk 2 a ByteArray.empty = 0 := by
  have e : vEq 2 a ByteArray.empty 2 (bareN 2 a) (bareS 2 ByteArray.empty) = true := by simp [vEq, bareN, bareS]; rfl
  unfold chk
  rw [if_neg (by omega), if_neg (by rw [e]; simp), if_neg (by decide)]
theorem kind_int (F : ByteArray → Int × Int) (G : ByteArray → Int) (ks : List Int) (a : Int) : kindN F G ks (nv ⟨2, a, ByteArray.empty⟩) = (2, 0) := by
  unfold kindN nv
  rw [if_neg (show ¬ partsV 1 = -1 by decide), if_pos rfl]
  exact Prod.ext rfl (chk_int a)
theorem evBin (op a b : Int) (x y : Int) (hop : (op = 14 ∨ op = 15 ∨ op = 16) ∧ x = 0 ∧ y = 1 ∨ op = 4 ∧ x = 0 ∧ y = 0) : EvV [nv ⟨2, a, ByteArray.empty⟩, nv ⟨2, b, ByteArray.empty⟩, nb op x y] =
    if ok64 (nres op a b) then .tuple #[.agg #[.int .i64 2, .int .i64 (nres op a b), .string ⟨#[]⟩], .int .i64 0] else .tuple #[.agg #[.int .i64 0, .int .i64 0, .string ⟨#[]⟩], .int .i64 11] := by
  have hk : KindV (fun _ => (0, 0)) (fun _ => 0) [nv ⟨2, a, ByteArray.empty⟩, nv ⟨2, b, ByteArray.empty⟩, nb op x y] = (2, 0) := by
    unfold KindV
    rw [if_neg (by simp)]
    simp only [kindsV, kind_int, if_true, List.nil_append, List.cons_append]
    rcases hop with ⟨rfl | rfl | rfl, rfl, rfl⟩ | ⟨rfl, rfl, rfl⟩ <;> rfl
  have hv : valsV [nv ⟨2, a, ByteArray.empty⟩, nv ⟨2, b, ByteArray.empty⟩, nb op x y] [] = if ok64 (nres op a b) then some [⟨2, a, ByteArray.empty⟩, ⟨2, b, ByteArray.empty⟩, ⟨2, nres op a b, ByteArray.empty⟩] else none := by
    have h1 : ∀ vs v, nodeV vs (nv v) = some v := fun _ _ => rfl
    have h2 : nodeV [⟨2, a, ByteArray.empty⟩, ⟨2, b, ByteArray.empty⟩] (nb op x y) = if ok64 (nres op a b) then some ⟨2, nres op a b, ByteArray.empty⟩ else none := by
      rcases hop with ⟨rfl | rfl | rfl, rfl, rfl⟩ | ⟨rfl, rfl, rfl⟩ <;> rfl
    simp only [valsV, h1, Option.bind_some, List.nil_append, List.cons_append, h2]
    split <;> rfl
  unfold EvV
  rw [hk, if_pos rfl, hv]
  split <;> rfl
end Go.Proofs.Ytfgmlgflfagdjaa.ev
