/- Contract: number. -/
import Derived.Test.YtfgmlgflfagdjaaK4
namespace Go.Proofs.Ytfgmlgflfagdjaa.lx
open Go.ChangeShapes Go.WideShapes Go.ChangeAt Go.RowKit Go.Proofs.Ytfgmlgflfagdjaa.lib
set_option linter.unusedVariables false

theorem tw_take (p : UInt8 → Bool) : ∀ l : List UInt8, l.take (l.takeWhile p).length = l.takeWhile p ∧ l.drop (l.takeWhile p).length = l.dropWhile p
  | [] => ⟨rfl, rfl⟩
  | c :: l => by
    have ih := tw_take p l
    cases hp : p c with
    | true => simp only [List.takeWhile, List.dropWhile, hp, List.length_cons, List.take_succ_cons, List.drop_succ_cons]; exact ⟨by rw [ih.1], ih.2⟩
    | false => simp [List.takeWhile, List.dropWhile, hp]
theorem digits_has (c : UInt8) : (⟨#[48, 49, 50, 51, 52, 53, 54, 55, 56, 57]⟩ : ByteArray).data.toList.contains c = digB c := by
  have h := all_bytes (fun c => (⟨#[48, 49, 50, 51, 52, 53, 54, 55, 56, 57]⟩ : ByteArray).data.toList.contains c == digB c) (by decide +kernel) c
  simpa using h
theorem numL_step (T : List UInt8) (pos : Nat) (y : Int) (h : pos < T.length) : numL (T.drop pos) y = if (9223372036854775807 - ((T[pos].toNat : Int) - 48)) / 10 < y then none else numL (T.drop (pos + 1)) (10 * y + ((T[pos].toNat : Int) - 48)) := by
  rw [List.drop_eq_getElem_cons h, numL]

end Go.Proofs.Ytfgmlgflfagdjaa.lx
