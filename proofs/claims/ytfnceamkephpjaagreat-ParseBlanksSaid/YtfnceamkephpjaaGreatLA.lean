/- Plain: the words of a text in pieces; blanks of another form. -/
import Derived.Test.YtfnceamkephpjaaGreatMP18
namespace Go.Proofs.YtfnceamkephpjaaGreat.pg
open Go.Proofs.YtfnceamkephpjaaGreat.lx
set_option linter.unusedVariables false

theorem blank_cases {c : UInt8} (h : blankB c = true) : c = 32 ∨ c = 9 ∨ c = 10 := by
  unfold blankB at h
  simpa [or_assoc] using h
theorem blank_name {c : UInt8} (h : blankB c = true) : nameB c = false := by rcases blank_cases h with rfl | rfl | rfl <;> decide
theorem blank_dig {c : UInt8} (h : blankB c = true) : digB c = false := by rcases blank_cases h with rfl | rfl | rfl <;> decide
theorem tw_app {p : UInt8 → Bool} (hp : ∀ c, blankB c = true → p c = false) {r : List UInt8} (hr : Free r) : ∀ l : List UInt8, (l ++ r).takeWhile p = l.takeWhile p ∧ (l ++ r).dropWhile p = l.dropWhile p ++ r
  | [] => by
    cases r with
    | nil => exact ⟨rfl, rfl⟩
    | cons c q =>
      have := hp c (hr c q rfl)
      simp [List.takeWhile, List.dropWhile, this]
  | c :: l => by
    obtain ⟨h1, h2⟩ := tw_app hp hr l
    cases hc : p c <;> simp [List.takeWhile, List.dropWhile, hc, h1, h2]
theorem textL_app {r : List UInt8} (hr : Free r) : ∀ (l acc : List UInt8), (textL l acc).1 = 0 → textL (l ++ r) acc = (0, (textL l acc).2.1, (textL l acc).2.2 ++ r)
  | [], acc, h => absurd h (by simp [textL])
  | [c], acc, h => by
    by_cases hc : c = 39
    · subst hc
      by_cases h60 : 60 < acc.length
      · simp [textL, h60] at h
      · cases r with
        | nil => simp [textL, h60]
        | cons d q =>
          have hd : d ≠ 39 := by rcases blank_cases (hr d q rfl) with rfl | rfl | rfl <;> decide
          simp [textL, h60, hd]
    · simp [textL, hc] at h
  | c :: d :: l, acc, h => by
    simp only [List.cons_append]
    unfold textL at h ⊢
    by_cases hc : c = 39
    · by_cases hd : d = 39
      · simp only [if_pos hc, if_pos hd] at h ⊢
        exact textL_app hr l _ h
      · by_cases h60 : 60 < acc.length
        · simp only [if_pos hc, if_neg hd, if_pos h60] at h
          exact absurd h (by decide)
        · simp only [if_pos hc, if_neg hd, if_neg h60]
          rfl
    · simp only [if_neg hc] at h ⊢
      exact textL_app hr (d :: l) _ h
theorem two_app {r : List UInt8} (hr : Free r) (c : UInt8) : ∀ l : List UInt8, twoB (c :: (l ++ r)) = twoB (c :: l)
  | [] => by
    cases r with
    | nil => rfl
    | cons d q => rcases blank_cases (hr d q rfl) with rfl | rfl | rfl <;> simp [twoB]
  | d :: l => rfl
/-- a step, with more behind -/
def moreSt (r : List UInt8) : St → St
  | .skip a => .skip (a ++ r)
  | .put w a => .put w (a ++ r)
  | .err e => .err e
def isErr : St → Bool
  | .err _ => true
  | _ => false
theorem step_app {r : List UInt8} (hr : Free r) (c : UInt8) (l : List UInt8) (h : isErr (stepL (c :: l)) = false) : stepL (c :: (l ++ r)) = moreSt r (stepL (c :: l)) := by
  obtain ⟨n1, n2⟩ := tw_app (p := nameB) (fun c => blank_name) hr (c :: l)
  obtain ⟨d1, d2⟩ := tw_app (p := digB) (fun c => blank_dig) hr (c :: l)
  rw [List.cons_append] at n1 n2 d1 d2
  rw [stepL] at h ⊢
  rw [stepL, n1, n2, d1, d2, two_app hr c l]
  by_cases h1 : blankB c = true
  · rw [if_pos h1, if_pos h1]; rfl
  rw [if_neg h1] at h ⊢
  rw [if_neg h1]
  by_cases h2 : letB c = true
  · rw [if_pos h2, if_pos h2]; rfl
  rw [if_neg h2] at h ⊢
  rw [if_neg h2]
  by_cases h3 : digB c = true
  · rw [if_pos h3, if_pos h3]
    rw [if_pos h3] at h
    cases hn : numL (List.takeWhile digB (c :: l)) 0 with
    | none => rw [hn] at h; exact absurd h (by simp [numSt, isErr])
    | some x => rfl
  rw [if_neg h3] at h ⊢
  rw [if_neg h3]
  by_cases h4 : c = 39
  · rw [if_pos h4, if_pos h4]
    rw [if_pos h4] at h
    by_cases h0 : (textL l []).1 = 0
    · rw [textL_app hr l [] h0]
      unfold textSt
      rw [if_pos h0, if_pos rfl]
      rfl
    · unfold textSt at h
      rw [if_neg h0] at h
      exact absurd h (by simp [isErr])
  rw [if_neg h4] at h ⊢
  rw [if_neg h4]
  by_cases h5 : twoB (c :: l) = true
  · rw [if_pos h5, if_pos h5]
    cases l with
    | nil => exact absurd h5 (by simp [twoB])
    | cons d l => rfl
  rw [if_neg h5] at h ⊢
  rw [if_neg h5]
  by_cases h6 : signB c = true
  · rw [if_pos h6, if_pos h6]; rfl
  · rw [if_neg h6] at h
    exact absurd h (by simp [isErr])
theorem lex_err_ne {c : UInt8} {l : List UInt8} {out : List Wd} (h : (lexL (c :: l) out).1 = 0) (hg : ∀ e, stepL (c :: l) = .err e → e ≠ 0) : isErr (stepL (c :: l)) = false := by
  cases hs : stepL (c :: l) with
  | err e =>
    rw [lexL_err out (by simp) hs] at h
    exact absurd h (hg e hs)
  | skip r => rfl
  | put w r => rfl
theorem textL_ne : ∀ (l acc : List UInt8), (textL l acc).1 = 0 ∨ (textL l acc).1 = 5 ∨ (textL l acc).1 = 6
  | [], acc => .inr (.inr rfl)
  | [c], acc => by
    unfold textL
    repeat' split
    all_goals simp
  | c :: d :: l, acc => by
    unfold textL
    split
    · split
      · exact textL_ne l _
      · split <;> simp
    · exact textL_ne (d :: l) _
theorem step_err (c : UInt8) (l : List UInt8) (e : Int) (h : stepL (c :: l) = .err e) : e ≠ 0 := by
  rw [stepL] at h
  split at h
  · cases h
  split at h
  · cases h
  split at h
  · unfold numSt at h
    split at h
    · cases h
    · injection h with h; rw [← h]; decide
  split at h
  · unfold textSt at h
    split at h
    · cases h
    · injection h with h; rw [← h]; assumption
  split at h
  · cases h
  split at h
  · cases h
  · injection h with h; rw [← h]; decide
theorem lex_app_n {r : List UInt8} (hr : Free r) : ∀ (n : Nat) (l : List UInt8) (out : List Wd), l.length ≤ n → (lexL l out).1 = 0 → lexL (l ++ r) out = lexL r (lexL l out).2
  | n, [], out, _, _ => rfl
  | 0, c :: l, out, hn, _ => absurd hn (by simp)
  | n + 1, c :: l, out, hn, h => by
    have he := lex_err_ne h (step_err c l)
    have hs := step_app hr c l he
    have hl := stepL_lt c l
    rw [List.cons_append]
    cases hst : stepL (c :: l) with
    | err e => rw [hst] at he; cases he
    | skip a =>
      rw [hst] at hs hl
      rw [lexL_skip out hst] at h ⊢
      rw [lexL_skip out hs]
      exact lex_app_n hr n a out (by simp only [St.lt, List.length_cons] at hl hn; omega) h
    | put w a =>
      rw [hst] at hs hl
      rw [lexL_put out hst] at h ⊢
      rw [lexL_put out hs]
      exact lex_app_n hr n a _ (by simp only [St.lt, List.length_cons] at hl hn; omega) h
theorem lex_out_n : ∀ (n : Nat) (l : List UInt8) (out : List Wd), l.length ≤ n → (lexL l []).1 = 0 → lexL l out = (0, out ++ (lexL l []).2)
  | n, [], out, _, _ => by rw [lexL_nil, lexL_nil, List.append_nil]
  | 0, c :: l, out, hn, _ => absurd hn (by simp)
  | n + 1, c :: l, out, hn, h => by
    have he := lex_err_ne h (step_err c l)
    have hl := stepL_lt c l
    cases hst : stepL (c :: l) with
    | err e => rw [hst] at he; cases he
    | skip a =>
      rw [hst] at hl
      rw [lexL_skip [] hst] at h ⊢
      rw [lexL_skip out hst]
      exact lex_out_n n a out (by simp only [St.lt, List.length_cons] at hl hn; omega) h
    | put w a =>
      rw [hst] at hl
      have ha : a.length ≤ n := by simp only [St.lt, List.length_cons] at hl hn; omega
      rw [lexL_put [] hst] at h ⊢
      rw [lexL_put out hst]
      have h0 : (lexL a []).1 = 0 := by
        cases hz : stepL (c :: l) with
        | err e => rw [hz] at he; cases he
        | _ => exact lex_zero n a _ ha h
      rw [lex_out_n n a _ ha h0, lex_out_n n a ([] ++ [w]) ha h0]
      simp
where lex_zero : ∀ (n : Nat) (l : List UInt8) (out : List Wd), l.length ≤ n → (lexL l out).1 = 0 → (lexL l []).1 = 0
  | n, [], out, _, _ => rfl
  | 0, c :: l, out, hn, _ => absurd hn (by simp)
  | n + 1, c :: l, out, hn, h => by
    have he := lex_err_ne h (step_err c l)
    have hl := stepL_lt c l
    cases hst : stepL (c :: l) with
    | err e => rw [hst] at he; cases he
    | skip a =>
      rw [hst] at hl
      rw [lexL_skip out hst] at h
      rw [lexL_skip [] hst]
      exact lex_zero n a out (by simp only [St.lt, List.length_cons] at hl hn; omega) h
    | put w a =>
      rw [hst] at hl
      have ha : a.length ≤ n := by simp only [St.lt, List.length_cons] at hl hn; omega
      rw [lexL_put out hst] at h
      rw [lexL_put [] hst]
      have h0 := lex_zero n a _ ha h
      rw [lex_out_n n a _ ha h0]
/-- a piece of a text, with a blank (or nothing) behind it -/
theorem lex_seg {l r : List UInt8} {ws : List Wd} (out : List Wd) (h : lexL l [] = (0, ws)) (hr : Free r) : lexL (l ++ r) out = lexL r (out ++ ws) := by
  have h0 : (lexL l []).1 = 0 := by rw [h]
  have h1 := lex_out_n l.length l out (Nat.le_refl _) h0
  rw [h] at h1
  rw [lex_app_n hr l.length l out (Nat.le_refl _) (by rw [h1]), h1]
theorem lex_last {l : List UInt8} {ws : List Wd} (out : List Wd) (h : lexL l [] = (0, ws)) : lexL l out = (0, out ++ ws) := by
  have h1 := lex_out_n l.length l out (Nat.le_refl _) (by rw [h])
  rw [h] at h1
  exact h1
theorem free_nil : Free [] := fun c q h => by cases h
theorem free_app {l r : List UInt8} (hl : Free l) (hr : Free r) : Free (l ++ r) := by
  cases l with
  | nil => exact hr
  | cons c q => intro x y e; injection e with e _; subst e; exact hl _ q rfl
end Go.Proofs.YtfnceamkephpjaaGreat.pg
