/- What words a text has, as plain Lean: no program in sight. -/
import Derived.Test.YtfnceamkephpjaaGreatLib
namespace Go.Proofs.YtfnceamkephpjaaGreat.lx
set_option linter.unusedVariables false

/-- a word: its kind, its number, its text -/
structure Wd where
  k : Int
  n : Int
  s : List UInt8

def blankB (c : UInt8) : Bool := c == 32 || c == 9 || c == 10
def letB (c : UInt8) : Bool := decide (97 ≤ c.toNat) && decide (c.toNat ≤ 122)
def digB (c : UInt8) : Bool := decide (48 ≤ c.toNat) && decide (c.toNat ≤ 57)
def nameB (c : UInt8) : Bool := letB c || digB c || c == 95
def signB (c : UInt8) : Bool := [(40 : UInt8), 41, 44, 46, 42, 61, 60, 62, 43, 45].contains c
def numL : List UInt8 → Int → Option Int
  | [], x => some x
  | c :: r, x => if (9223372036854775807 - ((c.toNat : Int) - 48)) / 10 < x then none else numL r (10 * x + ((c.toNat : Int) - 48))
/-- a text behind its first sign: what is wrong, the text, what is left -/
def textL : List UInt8 → List UInt8 → Int × List UInt8 × List UInt8
  | [], _ => (6, [], [])
  | [c], acc => if c = 39 then (if 60 < acc.length then (5, [], []) else (0, acc, [])) else (6, [], [])
  | c :: d :: r, acc => if c = 39 then (if d = 39 then textL r (acc ++ [39]) else if 60 < acc.length then (5, [], []) else (0, acc, d :: r)) else textL (d :: r) (acc ++ [c])
def twoB : List UInt8 → Bool
  | a :: b :: _ => (a == 60 && b == 62) || (a == 60 && b == 61) || (a == 62 && b == 61)
  | _ => false
inductive St
  | skip (r : List UInt8)
  | put (w : Wd) (r : List UInt8)
  | err (e : Int)
def numSt (x : Option Int) (r : List UInt8) : St := match x with
  | some x => .put ⟨2, x, []⟩ r
  | none => .err 11
def textSt (p : Int × List UInt8 × List UInt8) : St := if p.1 = 0 then .put ⟨3, 0, p.2.1⟩ p.2.2 else .err p.1
def stepL : List UInt8 → St
  | [] => .err 6
  | c :: r =>
    if blankB c = true then .skip r else if letB c = true then .put ⟨1, 0, (c :: r).takeWhile nameB⟩ ((c :: r).dropWhile nameB) else
    if digB c = true then numSt (numL ((c :: r).takeWhile digB) 0) ((c :: r).dropWhile digB) else if c = 39 then textSt (textL r []) else
    if twoB (c :: r) = true then .put ⟨4, 0, (c :: r).take 2⟩ ((c :: r).drop 2) else if signB c = true then .put ⟨4, 0, [c]⟩ r else .err 6
def goL : Nat → List UInt8 → List Wd → Int × List Wd
  | _, [], out => (0, out)
  | 0, _ :: _, _ => (6, [])
  | f + 1, c :: l, out => match stepL (c :: l) with
    | .skip r => goL f r out
    | .put w r => goL f r (out ++ [w])
    | .err e => (e, [])
def lexL (l : List UInt8) (out : List Wd) : Int × List Wd := goL l.length l out
def endW : Wd := ⟨0, 0, []⟩
def wordsL (s : List UInt8) : Int × List Wd := if 600 < s.length then (5, []) else if (lexL s []).1 = 0 then (0, (lexL s []).2 ++ [endW]) else ((lexL s []).1, [])

theorem dw_len (p : UInt8 → Bool) : ∀ l : List UInt8, (l.dropWhile p).length ≤ l.length
  | [] => Nat.le_refl _
  | c :: l => by
    unfold List.dropWhile
    split
    · exact Nat.le_trans (dw_len p l) (Nat.le_succ _)
    · exact Nat.le_refl _
theorem dw_lt (p : UInt8 → Bool) (c : UInt8) (l : List UInt8) (h : p c = true) : ((c :: l).dropWhile p).length < (c :: l).length := by
  rw [List.dropWhile_cons_of_pos h]
  exact Nat.lt_succ_of_le (dw_len p l)
theorem textL_len : ∀ (l acc : List UInt8), (textL l acc).2.2.length ≤ l.length
  | [], acc => Nat.le_refl _
  | [c], acc => by
    unfold textL
    repeat' split
    all_goals simp
  | c :: d :: r, acc => by
    unfold textL
    split
    · split
      · exact Nat.le_trans (textL_len r _) (by simp only [List.length_cons]; omega)
      · split
        · simp
        · simp
    · exact Nat.le_trans (textL_len (d :: r) _) (by simp only [List.length_cons]; omega)
def St.lt (n : Nat) : St → Prop
  | .skip r => r.length < n
  | .put _ r => r.length < n
  | .err _ => True
theorem stepL_lt (c : UInt8) (l : List UInt8) : (stepL (c :: l)).lt (c :: l).length := by
  rw [stepL]
  by_cases h1 : blankB c = true
  · rw [if_pos h1]; exact Nat.lt_succ_self _
  rw [if_neg h1]
  by_cases h2 : letB c = true
  · rw [if_pos h2]; exact dw_lt nameB c l (by unfold nameB; rw [h2]; rfl)
  rw [if_neg h2]
  by_cases h3 : digB c = true
  · rw [if_pos h3]
    unfold numSt
    split
    · exact dw_lt digB c l h3
    · trivial
  rw [if_neg h3]
  by_cases h4 : c = 39
  · rw [if_pos h4]
    unfold textSt
    split
    · exact Nat.lt_succ_of_le (textL_len l [])
    · trivial
  rw [if_neg h4]
  by_cases h5 : twoB (c :: l) = true
  · rw [if_pos h5]
    show ((c :: l).drop 2).length < _
    rw [List.length_drop]
    simp only [List.length_cons]
    omega
  rw [if_neg h5]
  by_cases h6 : signB c = true
  · rw [if_pos h6]; exact Nat.lt_succ_self _
  · rw [if_neg h6]; trivial
theorem goL_fuel : ∀ (f g : Nat) (l : List UInt8) (out : List Wd), l.length ≤ f → l.length ≤ g → goL f l out = goL g l out
  | f, g, [], out, _, _ => by cases f <;> cases g <;> rfl
  | 0, g, c :: l, out, h, _ => absurd h (by simp)
  | f + 1, 0, c :: l, out, _, h => absurd h (by simp)
  | f + 1, g + 1, c :: l, out, hf, hg => by
    have hl := stepL_lt c l
    unfold goL
    generalize stepL (c :: l) = s at *
    cases s with
    | skip r => exact goL_fuel f g r out (by simp only [St.lt, List.length_cons] at *; omega) (by simp only [St.lt, List.length_cons] at *; omega)
    | put w r => exact goL_fuel f g r _ (by simp only [St.lt, List.length_cons] at *; omega) (by simp only [St.lt, List.length_cons] at *; omega)
    | err e => rfl
theorem lexL_nil (out : List Wd) : lexL [] out = (0, out) := rfl
theorem lexL_skip {l r : List UInt8} (out : List Wd) (h : stepL l = .skip r) : lexL l out = lexL r out := by
  cases l with
  | nil => cases h
  | cons c l =>
    have hl := stepL_lt c l
    rw [h] at hl
    show goL (l.length + 1) (c :: l) out = _
    unfold goL
    rw [h]
    exact goL_fuel _ _ _ _ (Nat.le_of_lt_succ hl) (Nat.le_refl _)
theorem lexL_put {l r : List UInt8} {w : Wd} (out : List Wd) (h : stepL l = .put w r) : lexL l out = lexL r (out ++ [w]) := by
  cases l with
  | nil => cases h
  | cons c l =>
    have hl := stepL_lt c l
    rw [h] at hl
    show goL (l.length + 1) (c :: l) out = _
    unfold goL
    rw [h]
    exact goL_fuel _ _ _ _ (Nat.le_of_lt_succ hl) (Nat.le_refl _)
theorem lexL_err {l : List UInt8} {e : Int} (out : List Wd) (hl : l ≠ []) (h : stepL l = .err e) : lexL l out = (e, []) := by
  cases l with
  | nil => exact absurd rfl hl
  | cons c l =>
    show goL (l.length + 1) (c :: l) out = _
    unfold goL
    rw [h]
theorem St.shorter {l : List UInt8} (hl : l ≠ []) : (stepL l).lt l.length := by
  cases l with
  | nil => exact absurd rfl hl
  | cons c l => exact stepL_lt c l
end Go.Proofs.YtfnceamkephpjaaGreat.lx
