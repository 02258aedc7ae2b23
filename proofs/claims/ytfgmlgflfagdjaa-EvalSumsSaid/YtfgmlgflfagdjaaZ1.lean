/- EvalSums, plain: what the four texts are read as, and what they are worth. -/
import Derived.Test.YtfgmlgflfagdjaaY12
import Derived.Test.YtfgmlgflfagdjaaO2
namespace Go.Proofs.Ytfgmlgflfagdjaa.ps
open Go.ChangeShapes Go.WideShapes Go.ChangeAt Go.RowKit Go.Proofs.Ytfgmlgflfagdjaa.lib Go.Proofs.Ytfgmlgflfagdjaa.val Go.Proofs.Ytfgmlgflfagdjaa.lx Go.Proofs.Ytfgmlgflfagdjaa.ev
set_option linter.unusedVariables false

theorem step_digs (n : Nat) (r : List UInt8) (hn : (n : Int) ≤ 9223372036854775807) (hr : ∀ c q, r = c :: q → digB c = false) : stepL (digs n ++ r) = .put ⟨2, n, []⟩ r := by
  obtain ⟨hd, hne⟩ := digs_dig n
  have hx := digs_num n hn
  generalize digs n = l at *
  cases l with
  | nil => exact absurd rfl hne
  | cons c t =>
    have hc : digB c = true := hd c (List.mem_cons_self ..)
    have hk := dig_cases c
    rw [hc] at hk
    simp at hk
    obtain ⟨e1, e2⟩ := tw_split digB (c :: t) r hd hr
    rw [List.cons_append] at e1 e2 ⊢
    rw [stepL, if_neg (by rw [hk.1.1]; decide), if_neg (by rw [hk.1.2]; decide), if_pos hc, e1, e2, hx]
    rfl
theorem lex_digs (n : Nat) (r : List UInt8) (out : List Wd) (hn : n ≤ 9223372036854775807) (hr : ∀ c q, r = c :: q → digB c = false) : lexL (digs n ++ r) out = lexL r (out ++ [⟨2, n, []⟩]) :=
  lexL_put out (step_digs n r (by omega) hr)
/-- a sign behind which no sign of two begins -/
theorem step_sign (c : UInt8) (r : List UInt8) (h1 : signB c = true) (h2 : twoB (c :: r) = false) : stepL (c :: r) = .put ⟨4, 0, [c]⟩ r := by
  have hk := sign_cases c
  rw [h1] at hk
  simp at hk
  obtain ⟨⟨⟨b1, b2⟩, b3⟩, b4⟩ := hk
  rw [stepL, if_neg (by rw [b1]; decide), if_neg (by rw [b2]; decide), if_neg (by rw [b3]; decide), if_neg b4, if_neg (by rw [h2]; decide), if_pos h1]
theorem lex_sign (c : UInt8) (r : List UInt8) (out : List Wd) (h1 : signB c = true) (h2 : twoB (c :: r) = false) : lexL (c :: r) out = lexL r (out ++ [⟨4, 0, [c]⟩]) := lexL_put out (step_sign c r h1 h2)
theorem lex_blank (r : List UInt8) (out : List Wd) : lexL (32 :: r) out = lexL r out := lexL_skip out rfl
theorem two_paren (r : List UInt8) : twoB (40 :: r) = false := by cases r <;> rfl
theorem words_of {l : List UInt8} {W : List Wd} (hl : l.length ≤ 600) (h : lexL l [] = (0, W)) : wordsL l = (0, W ++ [endW]) := by
  unfold wordsL
  rw [if_neg (by omega), h, if_pos rfl]
def wN (n : Nat) : Wd := ⟨2, n, []⟩
def wS (c : UInt8) : Wd := ⟨4, 0, [c]⟩
theorem nodig {r : List UInt8} : ∀ c q, (32 :: r : List UInt8) = c :: q → digB c = false := fun c q e => by injection e with e _; subst e; rfl
theorem nodig2 {r : List UInt8} : ∀ c q, (41 :: r : List UInt8) = c :: q → digB c = false := fun c q e => by injection e with e _; subst e; rfl
theorem nodig0 : ∀ c q, ([] : List UInt8) = c :: q → digB c = false := fun c q e => by cases e
def sumT (i : Nat) (a b c : Nat) : List UInt8 := match i with
  | 0 => digs a ++ (32 :: 43 :: 32 :: (digs b ++ (32 :: 42 :: 32 :: (digs c ++ []))))
  | 1 => 40 :: (digs a ++ (32 :: 45 :: 32 :: (digs b ++ (41 :: 32 :: 42 :: 32 :: (digs c ++ [])))))
  | 2 => 45 :: 32 :: (digs a ++ (32 :: 45 :: 32 :: (digs b ++ (32 :: 45 :: 32 :: (digs c ++ [])))))
  | _ => digs a ++ (32 :: 42 :: 32 :: 45 :: 32 :: (digs b ++ (32 :: 43 :: 32 :: (digs c ++ []))))
def sumW (i : Nat) (a b c : Nat) : List Wd := match i with
  | 0 => [wN a, wS 43, wN b, wS 42, wN c]
  | 1 => [wS 40, wN a, wS 45, wN b, wS 41, wS 42, wN c]
  | 2 => [wS 45, wN a, wS 45, wN b, wS 45, wN c]
  | _ => [wN a, wS 42, wS 45, wN b, wS 43, wN c]
theorem sum_words (i a b c : Nat) (ha : a < 1048576) (hb : b < 1048576) (hc : c < 1048576) (hi : i < 4) : wordsL (sumT i a b c) = (0, sumW i a b c ++ [endW]) := by
  have la := digs_19 a (by omega)
  have lb := digs_19 b (by omega)
  have lc := digs_19 c (by omega)
  have : i = 0 ∨ i = 1 ∨ i = 2 ∨ i = 3 := by omega
  rcases this with rfl | rfl | rfl | rfl
  · refine words_of (by simp [sumT]; omega) ?_
    unfold sumT
    simp only
    rw [lex_digs a _ _ (by omega) nodig, lex_blank, lex_sign _ _ _ rfl rfl, lex_blank, lex_digs b _ _ (by omega) nodig, lex_blank, lex_sign _ _ _ rfl rfl, lex_blank, lex_digs c _ _ (by omega) nodig0, lexL_nil]
    rfl
  · refine words_of (by simp [sumT]; omega) ?_
    unfold sumT
    simp only
    rw [lex_sign _ _ _ rfl (two_paren _), lex_digs a _ _ (by omega) nodig, lex_blank, lex_sign _ _ _ rfl rfl, lex_blank, lex_digs b _ _ (by omega) nodig2, lex_sign _ _ _ rfl rfl, lex_blank, lex_sign _ _ _ rfl rfl, lex_blank, lex_digs c _ _ (by omega) nodig0, lexL_nil]
    rfl
  · refine words_of (by simp [sumT]; omega) ?_
    unfold sumT
    simp only
    rw [lex_sign _ _ _ rfl rfl, lex_blank, lex_digs a _ _ (by omega) nodig, lex_blank, lex_sign _ _ _ rfl rfl, lex_blank, lex_digs b _ _ (by omega) nodig, lex_blank, lex_sign _ _ _ rfl rfl, lex_blank, lex_digs c _ _ (by omega) nodig0, lexL_nil]
    rfl
  · refine words_of (by simp [sumT]; omega) ?_
    unfold sumT
    simp only
    rw [lex_digs a _ _ (by omega) nodig, lex_blank, lex_sign _ _ _ rfl rfl, lex_blank, lex_sign _ _ _ rfl rfl, lex_blank, lex_digs b _ _ (by omega) nodig, lex_blank, lex_sign _ _ _ rfl rfl, lex_blank, lex_digs c _ _ (by omega) nodig0, lexL_nil]
    rfl
def num2 (a : Nat) : Nd := nv ⟨2, (a : Int), ByteArray.empty⟩
def sumE (i a b c : Nat) : List Nd := match i with
  | 0 => [num2 a, num2 b, num2 c, nb 16 1 2, nb 14 0 3]
  | 1 => [num2 a, num2 b, nb 15 0 1, num2 c, nb 16 2 3]
  | 2 => [num2 a, nb 4 0 0, num2 b, nb 15 1 2, num2 c, nb 15 3 4]
  | _ => [num2 a, num2 b, nb 4 1 0, nb 16 0 2, num2 c, nb 14 3 4]
theorem sum_pr0 (a b c : Nat) : outP (endP (sumW 0 a b c ++ [endW]) (exprP (sumW 0 a b c ++ [endW]) ⟨0, 0, []⟩).2) = (0, sumE 0 a b c) := by kernel_rfl
theorem sum_pr1 (a b c : Nat) : outP (endP (sumW 1 a b c ++ [endW]) (exprP (sumW 1 a b c ++ [endW]) ⟨0, 0, []⟩).2) = (0, sumE 1 a b c) := by kernel_rfl
theorem sum_pr2 (a b c : Nat) : outP (endP (sumW 2 a b c ++ [endW]) (exprP (sumW 2 a b c ++ [endW]) ⟨0, 0, []⟩).2) = (0, sumE 2 a b c) := by kernel_rfl
theorem sum_pr3 (a b c : Nat) : outP (endP (sumW 3 a b c ++ [endW]) (exprP (sumW 3 a b c ++ [endW]) ⟨0, 0, []⟩).2) = (0, sumE 3 a b c) := by kernel_rfl
theorem sum_expr (i a b c : Nat) (ha : a < 1048576) (hb : b < 1048576) (hc : c < 1048576) (hi : i < 4) : exprL (sumT i a b c) = (0, sumE i a b c) := by
  unfold exprL
  rw [sum_words i a b c ha hb hc hi, if_neg (by simp)]
  have : i = 0 ∨ i = 1 ∨ i = 2 ∨ i = 3 := by omega
  rcases this with rfl | rfl | rfl | rfl
  · exact sum_pr0 a b c
  · exact sum_pr1 a b c
  · exact sum_pr2 a b c
  · exact sum_pr3 a b c
end Go.Proofs.Ytfgmlgflfagdjaa.ps
