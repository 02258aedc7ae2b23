/- The walk of LexTexts. -/
import Derived.Test.YtfgmlgflfagdjaaK9
namespace Go.Proofs.Ytfgmlgflfagdjaa.lx
open Go.ChangeShapes Go.WideShapes Go.ChangeAt Go.RowKit Go.Proofs.Ytfgmlgflfagdjaa.lib
set_option linter.unusedVariables false

theorem app_mk (a b : List UInt8) : (ByteArray.mk a.toArray) ++ (ByteArray.mk b.toArray) = ⟨(a ++ b).toArray⟩ := by
  apply ByteArray.ext
  simp
theorem ext_one (s : ByteArray) (l : List UInt8) (hs : s = ⟨l.toArray⟩) (k : Nat) (h : k < l.length) : s.extract k (k + 1) = ⟨[l[k]].toArray⟩ := by
  subst hs
  apply ByteArray.ext
  apply Array.ext'
  rw [ByteArray.data_extract, Array.toList_extract]
  simp only [List.extract_eq_drop_take', List.toList_toArray]
  rw [List.take_succ_eq_append_getElem h, List.drop_append_of_le_length (by simp; omega), List.drop_of_length_le (by simp; omega)]
  rfl
theorem dbl_snoc : ∀ (l : List UInt8) (c : UInt8), dbl (l ++ [c]) = if c = 39 then dbl l ++ [39, 39] else dbl l ++ [c]
  | [], c => by
    show dbl [c] = _
    unfold dbl
    split <;> rfl
  | x :: l, c => by
    have ih := dbl_snoc l c
    rw [List.cons_append]
    unfold dbl
    rw [ih]
    repeat' split
    all_goals simp
theorem dbl_len : ∀ l : List UInt8, (dbl l).length ≤ 2 * l.length
  | [] => Nat.le_refl _
  | c :: l => by
    have ih := dbl_len l
    unfold dbl
    split <;> simp <;> omega

theorem words_quo (l : List UInt8) (h : l.length ≤ 100) : wordsL (quo l) = if 60 < l.length then (5, []) else (0, [⟨3, 0, l⟩, endW]) := by
  have ht := textL_dbl l [] [] (fun c q e => by cases e)
  rw [List.nil_append] at ht
  have hl := dbl_len l
  have hlen : ¬ 600 < (quo l).length := by unfold quo; simp; omega
  have hst : stepL (quo l) = textSt (textL (dbl l ++ [39]) []) := by
    unfold quo
    rw [stepL, if_neg (by decide), if_neg (by decide), if_neg (by decide), if_pos rfl]
  unfold wordsL
  rw [if_neg hlen]
  rw [ht] at hst
  by_cases h6 : 60 < l.length
  · rw [if_pos h6] at hst ⊢
    rw [lexL_err [] (by unfold quo; simp) (e := 5) hst]
    rfl
  · rw [if_neg h6] at hst ⊢
    rw [lexL_put [] (w := ⟨3, 0, l⟩) (r := []) hst, lexL_nil]
    rfl
theorem textL_none : ∀ (l acc : List UInt8), l.contains 39 = false → textL l acc = (6, [], [])
  | [], acc, _ => textL_nil acc
  | c :: l, acc, h => by
    rw [List.contains_cons, Bool.or_eq_false_iff] at h
    have hc : c ≠ 39 := fun e => by rw [e] at h; exact absurd h.1 (by decide)
    rw [textL_other c l acc hc]
    exact textL_none l _ h.2
theorem words_open (l : List UInt8) (h : l.length ≤ 100) (hc : l.contains 39 = false) : wordsL (39 :: l) = (6, []) := by
  have hst : stepL (39 :: l) = .err 6 := by
    rw [stepL, if_neg (by decide), if_neg (by decide), if_neg (by decide), if_pos rfl, textL_none l [] hc]
    rfl
  unfold wordsL
  rw [if_neg (by simp; omega), lexL_err [] (by simp) hst]
  rfl

def WordsA (e : Int) (w : World) (r : Ending) (w' : World) : Prop := ∃ A n c, r = .returned (.tuple #[.slice A n c, .int .i64 e]) ∧ Below w.heap.size w w'
end Go.Proofs.Ytfgmlgflfagdjaa.lx
