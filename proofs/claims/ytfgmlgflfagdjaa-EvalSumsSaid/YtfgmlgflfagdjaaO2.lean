/- What an expression of two numbers and a sign is worth. -/
import Derived.Test.YtfgmlgflfagdjaaO1
namespace Go.Proofs.Ytfgmlgflfagdjaa.ev
open Go.ChangeShapes Go.WideShapes Go.ChangeAt Go.RowKit Go.Proofs.Ytfgmlgflfagdjaa.lib Go.Proofs.Ytfgmlgflfagdjaa.val
set_option linter.unusedVariables false

theorem chk_int (a : Int) : chk 2 a ByteArray.empty = 0 := by
  have e : vEq 2 a ByteArray.empty 2 (bareN 2 a) (bareS 2 ByteArray.empty) = true := by simp [vEq, bareN, bareS]; rfl
  unfold chk
  rw [if_neg (by omega), if_neg (by rw [e]; simp), if_neg (by decide)]
theorem kind_int (F : ByteArray → Int × Int) (G : ByteArray → Int) (ks : List Int) (a : Int) : kindN F G ks (nv ⟨2, a, ByteArray.empty⟩) = (2, 0) := by
  unfold kindN nv
  rw [if_neg (show ¬ partsV 1 = -1 by decide), if_pos rfl]
  exact Prod.ext rfl (chk_int a)
theorem evBin (op a b : Int) (x y : Int) (hop : (op = 14 ∨ op = 15 ∨ op = 16) ∧ x = 0 ∧ y = 1 ∨ op = 4 ∧ x = 0 ∧ y = 0) : EvV [nv ⟨2, a, ByteArray.empty⟩, nv ⟨2, b, ByteArray.empty⟩, nb op x y] =
    if ok64 (nres op a b) then .tuple #[.agg #[.int .i64 2, .int .i64 (nres op a b), .string ⟨#[]⟩], .int .i64 0] else .tuple #[.agg #[.int .i64 0, .int .i64 0, .string ⟨#[]⟩], .int .i64 11] := by
  have hk : KindV (fun _ => (0, 0)) (fun _ => 0) [nv ⟨2, a, ByteArray.empty⟩, nv ⟨2, b, ByteArray.empty⟩, nb op x y] = (2, 0) := by
    unfold KindV
    rw [if_neg (by simp)]
    simp only [kindsV, kind_int, if_true, List.nil_append, List.cons_append]
    rcases hop with ⟨rfl | rfl | rfl, rfl, rfl⟩ | ⟨rfl, rfl, rfl⟩ <;> rfl
  have hv : valsV [nv ⟨2, a, ByteArray.empty⟩, nv ⟨2, b, ByteArray.empty⟩, nb op x y] [] = if ok64 (nres op a b) then some [⟨2, a, ByteArray.empty⟩, ⟨2, b, ByteArray.empty⟩, ⟨2, nres op a b, ByteArray.empty⟩] else none := by
    have h1 : ∀ vs v, nodeV vs (nv v) = some v := fun _ _ => rfl
    have h2 : nodeV [⟨2, a, ByteArray.empty⟩, ⟨2, b, ByteArray.empty⟩] (nb op x y) = if ok64 (nres op a b) then some ⟨2, nres op a b, ByteArray.empty⟩ else none := by
      rcases hop with ⟨rfl | rfl | rfl, rfl, rfl⟩ | ⟨rfl, rfl, rfl⟩ <;> rfl
    simp only [valsV, h1, Option.bind_some, List.nil_append, List.cons_append, h2]
    split <;> rfl
  unfold EvV
  rw [hk, if_pos rfl, hv]
  split <;> rfl
end Go.Proofs.Ytfgmlgflfagdjaa.ev
