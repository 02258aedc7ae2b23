/- Words that are written again: plain laws. -/
import Derived.Test.YtfnceamkephpjaaGreatL1
namespace Go.Proofs.YtfnceamkephpjaaGreat.lx
set_option linter.unusedVariables false

/-- a word that a text may have -/
def Good (w : Wd) : Prop :=
  (w.k = 1 ∧ w.n = 0 ∧ (∃ c r, w.s = c :: r ∧ letB c = true) ∧ ∀ c ∈ w.s, nameB c = true) ∨ (w.k = 2 ∧ w.s = [] ∧ 0 ≤ w.n ∧ w.n ≤ 9223372036854775807) ∨ (w.k = 3 ∧ w.n = 0 ∧ w.s.length ≤ 60) ∨
    (w.k = 4 ∧ w.n = 0 ∧ ((∃ c, w.s = [c] ∧ signB c = true) ∨ ∃ a b, w.s = [a, b] ∧ twoB [a, b] = true))

theorem tw_all (p : UInt8 → Bool) : ∀ l : List UInt8, ∀ c ∈ l.takeWhile p, p c = true
  | [], c, h => by simp at h
  | x :: l, c, h => by
    unfold List.takeWhile at h
    cases hp : p x with
    | true =>
      rw [hp] at h
      rcases List.mem_cons.1 h with rfl | h
      · exact hp
      · exact tw_all p l c h
    | false => rw [hp] at h; cases h
theorem tw_split (p : UInt8 → Bool) : ∀ (a : List UInt8) (r : List UInt8), (∀ c ∈ a, p c = true) → (∀ c q, r = c :: q → p c = false) → (a ++ r).takeWhile p = a ∧ (a ++ r).dropWhile p = r
  | [], r, _, h => by
    cases r with
    | nil => exact ⟨rfl, rfl⟩
    | cons c q =>
      have := h c q rfl
      simp [this]
  | x :: a, r, ha, h => by
    have hx := ha x (List.mem_cons_self ..)
    have ih := tw_split p a r (fun c hc => ha c (List.mem_cons_of_mem _ hc)) h
    simp only [List.cons_append, List.takeWhile, List.dropWhile, hx]
    exact ⟨by rw [ih.1], ih.2⟩
theorem digB_bd {c : UInt8} (h : digB c = true) : 48 ≤ c.toNat ∧ c.toNat ≤ 57 := by
  unfold digB at h
  simpa using h
theorem numL_bd : ∀ (l : List UInt8) (x y : Int), (∀ c ∈ l, digB c = true) → 0 ≤ x → x ≤ 9223372036854775807 → numL l x = some y → 0 ≤ y ∧ y ≤ 9223372036854775807
  | [], x, y, _, h0, h1, h => by
    injection h with h
    subst h
    exact ⟨h0, h1⟩
  | c :: r, x, y, hd, h0, h1, h => by
    have hc := digB_bd (hd c (List.mem_cons_self ..))
    unfold numL at h
    split at h
    · cases h
    · exact numL_bd r _ y (fun c hc => hd c (List.mem_cons_of_mem _ hc)) (by omega) (by omega) h
theorem textL_short : ∀ (l acc : List UInt8), (textL l acc).1 = 0 → (textL l acc).2.1.length ≤ 60
  | [], acc, h => absurd h (by unfold textL; decide)
  | [c], acc, h => by
    unfold textL at h ⊢
    split
    · split
      · rename_i h1 h2; rw [if_pos h1, if_pos h2] at h; cases h
      · exact Nat.le_of_not_lt (by assumption)
    · rename_i h1; rw [if_neg h1] at h; cases h
  | c :: d :: r, acc, h => by
    unfold textL at h ⊢
    split
    · rename_i h1
      rw [if_pos h1] at h
      split
      · rename_i h2
        rw [if_pos h2] at h
        exact textL_short r _ h
      · rename_i h2
        rw [if_neg h2] at h
        split
        · rename_i h3; rw [if_pos h3] at h; cases h
        · exact Nat.le_of_not_lt (by assumption)
    · rename_i h1
      rw [if_neg h1] at h
      exact textL_short (d :: r) _ h
theorem stepL_good {l r : List UInt8} {w : Wd} (h : stepL l = .put w r) : Good w := by
  cases l with
  | nil => cases h
  | cons c l =>
    rw [stepL] at h
    by_cases h1 : blankB c = true
    · rw [if_pos h1] at h; cases h
    rw [if_neg h1] at h
    by_cases h2 : letB c = true
    · rw [if_pos h2] at h
      injection h with h _
      subst h
      have hn : nameB c = true := by unfold nameB; rw [h2]; rfl
      exact .inl ⟨rfl, rfl, ⟨c, l.takeWhile nameB, by simp [List.takeWhile, hn], h2⟩, tw_all nameB _⟩
    rw [if_neg h2] at h
    by_cases h3 : digB c = true
    · rw [if_pos h3] at h
      unfold numSt at h
      cases hx : numL ((c :: l).takeWhile digB) 0 with
      | none => rw [hx] at h; cases h
      | some x =>
        rw [hx] at h
        injection h with h _
        subst h
        have := numL_bd _ 0 x (tw_all digB _) (by omega) (by omega) hx
        exact .inr (.inl ⟨rfl, rfl, this.1, this.2⟩)
    rw [if_neg h3] at h
    by_cases h4 : c = 39
    · rw [if_pos h4] at h
      unfold textSt at h
      split at h
      · rename_i h0
        injection h with h _
        subst h
        exact .inr (.inr (.inl ⟨rfl, rfl, textL_short l [] h0⟩))
      · cases h
    rw [if_neg h4] at h
    by_cases h5 : twoB (c :: l) = true
    · rw [if_pos h5] at h
      injection h with h _
      subst h
      cases l with
      | nil => cases h5
      | cons d q => exact .inr (.inr (.inr ⟨rfl, rfl, .inr ⟨c, d, rfl, h5⟩⟩))
    rw [if_neg h5] at h
    by_cases h6 : signB c = true
    · rw [if_pos h6] at h
      injection h with h _
      subst h
      exact .inr (.inr (.inr ⟨rfl, rfl, .inl ⟨c, rfl, h6⟩⟩))
    · rw [if_neg h6] at h; cases h
theorem goL_good : ∀ (f : Nat) (l : List UInt8) (out : List Wd), (∀ w ∈ out, Good w) → (goL f l out).1 = 0 → ∀ w ∈ (goL f l out).2, Good w
  | 0, [], out, ho, _ => ho
  | f + 1, [], out, ho, _ => ho
  | 0, c :: l, out, _, h => by cases h
  | f + 1, c :: l, out, ho, h => by
    unfold goL at h ⊢
    cases hs : stepL (c :: l) with
    | skip r => rw [hs] at h; exact goL_good f r out ho h
    | put w r =>
      rw [hs] at h
      refine goL_good f r _ (fun x hx => ?_) h
      rcases List.mem_append.1 hx with hx | hx
      · exact ho x hx
      · rw [List.mem_singleton.1 hx]; exact stepL_good hs
    | err e => intro w hw; cases hw
theorem lexL_good (l : List UInt8) (h : (lexL l []).1 = 0) : ∀ w ∈ (lexL l []).2, Good w := goL_good _ l [] (fun _ h => by cases h) h

/-- a number's signs -/
def digs (n : Nat) : List UInt8 := if h : 10 ≤ n then digs (n / 10) ++ [UInt8.ofNat (48 + n % 10)] else [UInt8.ofNat (48 + n)]
termination_by n
decreasing_by omega
def dbl : List UInt8 → List UInt8
  | [] => []
  | c :: r => if c = 39 then 39 :: 39 :: dbl r else c :: dbl r
def quo (s : List UInt8) : List UInt8 := 39 :: (dbl s ++ [39])
def rend (w : Wd) : List UInt8 := if w.k = 1 ∨ w.k = 4 then w.s else if w.k = 2 then digs w.n.toNat else if w.k = 3 then quo w.s else []

theorem numL_append : ∀ (a b : List UInt8) (x : Int), numL (a ++ b) x = (numL a x).bind (numL b)
  | [], b, x => rfl
  | c :: a, b, x => by
    rw [List.cons_append]
    unfold numL
    split
    · rfl
    · exact numL_append a b _
theorem dig_nat (d : Nat) (h : d < 10) : (UInt8.ofNat (48 + d)).toNat = 48 + d := by
  rw [UInt8.toNat_ofNat']
  exact Nat.mod_eq_of_lt (by omega)
theorem numL_one (d : Nat) (h : d < 10) (x : Int) (hx : 10 * x + d ≤ 9223372036854775807) : numL [UInt8.ofNat (48 + d)] x = some (10 * x + d) := by
  have hd := dig_nat d h
  unfold numL
  rw [if_neg (by omega)]
  unfold numL
  congr 1
  omega
theorem digs_num : ∀ (n : Nat), (n : Int) ≤ 9223372036854775807 → numL (digs n) 0 = some (n : Int) := by
  intro n
  induction n using Nat.strongRecOn with
  | ind n ih =>
    intro hn
    rw [digs]
    split
    · rw [numL_append, ih (n / 10) (by omega) (by omega)]
      show numL [UInt8.ofNat (48 + n % 10)] ((n / 10 : Nat) : Int) = _
      rw [numL_one _ (by omega) _ (by omega)]
      congr 1
      omega
    · rw [numL_one n (by omega) 0 (by omega)]
      congr 1
      omega
theorem digs_dig : ∀ (n : Nat), (∀ c ∈ digs n, digB c = true) ∧ digs n ≠ [] := by
  intro n
  induction n using Nat.strongRecOn with
  | ind n ih =>
    rw [digs]
    split
    · refine ⟨fun c hc => ?_, by simp⟩
      rcases List.mem_append.1 hc with hc | hc
      · exact (ih (n / 10) (by omega)).1 c hc
      · rw [List.mem_singleton.1 hc]
        have := dig_nat (n % 10) (by omega)
        unfold digB
        simp
        omega
    · refine ⟨fun c hc => ?_, by simp⟩
      rw [List.mem_singleton.1 hc]
      have := dig_nat n (by omega)
      unfold digB
      simp
      omega
theorem textL_dbl : ∀ (s rest acc : List UInt8), (∀ c q, rest = c :: q → c ≠ 39) → textL (dbl s ++ 39 :: rest) acc = if 60 < (acc ++ s).length then (5, [], []) else (0, acc ++ s, rest)
  | [], rest, acc, h => by
    show textL (39 :: rest) acc = _
    rw [List.append_nil]
    cases rest with
    | nil => unfold textL; rw [if_pos rfl]
    | cons d q => unfold textL; rw [if_pos rfl, if_neg (h d q rfl)]
  | c :: s, rest, acc, h => by
    have e : acc ++ c :: s = (acc ++ [c]) ++ s := by simp
    by_cases hc : c = 39
    · subst hc
      have ih := textL_dbl s rest (acc ++ [39]) h
      show textL (39 :: 39 :: (dbl s ++ 39 :: rest)) acc = _
      unfold textL
      rw [if_pos rfl, if_pos rfl, ih, e]
    · have ih := textL_dbl s rest (acc ++ [c]) h
      unfold dbl
      rw [if_neg hc, e, ← ih]
      show textL (c :: (dbl s ++ 39 :: rest)) acc = _
      cases hq : dbl s ++ 39 :: rest with
      | nil => simp at hq
      | cons d q => conv => lhs; unfold textL
                    rw [if_neg hc]

theorem all_bytes (p : UInt8 → Bool) (h : (List.range 256).all (fun n => p (UInt8.ofNat n)) = true) (c : UInt8) : p c = true := by
  have := List.all_eq_true.1 h c.toNat (List.mem_range.2 c.toNat_lt)
  simpa using this
theorem let_cases (c : UInt8) : (!letB c || (!blankB c && nameB c)) = true := all_bytes (fun c => !letB c || (!blankB c && nameB c)) (by decide +kernel) c
theorem dig_cases (c : UInt8) : (!digB c || (!blankB c && !letB c && nameB c)) = true := all_bytes (fun c => !digB c || (!blankB c && !letB c && nameB c)) (by decide +kernel) c
theorem sign_cases (c : UInt8) : (!signB c || (!blankB c && !letB c && !digB c && c != 39)) = true := all_bytes (fun c => !signB c || (!blankB c && !letB c && !digB c && c != 39)) (by decide +kernel) c
theorem blank_cases (c : UInt8) : (!blankB c || (!letB c && !digB c && !nameB c && c != 39 && c != 62 && c != 61)) = true := all_bytes (fun c => !blankB c || (!letB c && !digB c && !nameB c && c != 39 && c != 62 && c != 61)) (by decide +kernel) c
theorem two_sign {a b : UInt8} (h : twoB [a, b] = true) : signB a = true := by
  unfold twoB at h
  simp at h
  rcases h with (⟨rfl, _⟩ | ⟨rfl, _⟩) | ⟨rfl, _⟩ <;> rfl

/-- what a blank, or nothing, stands behind -/
def Free (r : List UInt8) : Prop := ∀ c q, r = c :: q → blankB c = true
theorem step_rend (w : Wd) (r : List UInt8) (hw : Good w) (hr : Free r) : stepL (rend w ++ r) = .put w r := by
  obtain ⟨k, n, s⟩ := w
  have hnb : ∀ c q, r = c :: q → nameB c = false ∧ digB c = false ∧ c ≠ 39 ∧ c ≠ 62 ∧ c ≠ 61 := fun c q e => by
    have h1 := blank_cases c
    rw [hr c q e] at h1
    simp at h1
    obtain ⟨⟨⟨⟨⟨_, h2⟩, h3⟩, h4⟩, h5⟩, h6⟩ := h1
    exact ⟨h3, h2, h4, h5, h6⟩
  rcases hw with ⟨hk, hn, ⟨c, q, hs, hc⟩, ha⟩ | ⟨hk, hs, h0, h1⟩ | ⟨hk, hn, hs⟩ | ⟨hk, hn, h⟩
  · simp only at hk hn hs ha
    subst hk hn hs
    have hl := let_cases c
    rw [hc] at hl
    simp at hl
    obtain ⟨e1, e2⟩ := tw_split nameB (c :: q) r ha (fun x y e => (hnb x y e).1)
    show stepL (c :: q ++ r) = _
    rw [List.cons_append] at e1 e2 ⊢
    rw [stepL]
    rw [if_neg (by rw [hl.1]; decide), if_pos hc, e1, e2]
  · simp only at hk hs h0 h1
    subst hk hs
    obtain ⟨hd, hne⟩ := digs_dig n.toNat
    have hv := digs_num n.toNat (by omega)
    show stepL (digs n.toNat ++ r) = _
    obtain ⟨e1, e2⟩ := tw_split digB (digs n.toNat) r hd (fun x y e => (hnb x y e).2.1)
    cases hq : digs n.toNat with
    | nil => exact absurd hq hne
    | cons c q =>
      rw [hq] at hd e1 e2 hv
      have hc := hd c (List.mem_cons_self ..)
      have hl := dig_cases c
      rw [hc] at hl
      simp at hl
      rw [List.cons_append] at e1 e2 ⊢
      rw [stepL]
      rw [if_neg (by rw [hl.1.1]; decide), if_neg (by rw [hl.1.2]; decide), if_pos hc, e1, e2, hv]
      show St.put _ _ = _
      rw [Int.toNat_of_nonneg h0]
  · simp only at hk hn hs
    subst hk hn
    have ht := textL_dbl s r [] (fun x y e => (hnb x y e).2.2.1)
    rw [List.nil_append, if_neg (by omega)] at ht
    show stepL (39 :: (dbl s ++ [39] ++ r)) = _
    rw [List.append_assoc]
    rw [stepL]
    rw [if_neg (by decide), if_neg (by decide), if_neg (by decide), if_pos rfl]
    show textSt (textL (dbl s ++ 39 :: r) []) = _
    rw [ht]
    rfl
  · simp only at hk hn h
    subst hk hn
    rcases h with ⟨c, rfl, hc⟩ | ⟨a, b, rfl, hab⟩
    · have hl := sign_cases c
      rw [hc] at hl
      simp at hl
      obtain ⟨⟨⟨h1, h2⟩, h3⟩, h4⟩ := hl
      have ht : twoB (c :: r) = false := by
        cases r with
        | nil => rfl
        | cons d q =>
          obtain ⟨_, _, _, h5, h6⟩ := hnb d q rfl
          unfold twoB
          simp [h5, h6]
      show stepL (c :: r) = _
      rw [stepL]
      rw [if_neg (by rw [h1]; decide), if_neg (by rw [h2]; decide), if_neg (by rw [h3]; decide), if_neg h4, if_neg (by rw [ht]; decide), if_pos hc]
    · have hc := two_sign hab
      have hl := sign_cases a
      rw [hc] at hl
      simp at hl
      obtain ⟨⟨⟨h1, h2⟩, h3⟩, h4⟩ := hl
      have ht : twoB (a :: b :: r) = true := hab
      show stepL (a :: b :: r) = _
      rw [stepL]
      rw [if_neg (by rw [h1]; decide), if_neg (by rw [h2]; decide), if_neg (by rw [h3]; decide), if_neg h4, if_pos ht]
      rfl
theorem step_blank (c : UInt8) (r : List UInt8) (h : blankB c = true) : stepL (c :: r) = .skip r := by
  rw [stepL]
  rw [if_pos h]
theorem lex_blanks : ∀ (g r : List UInt8) (out : List Wd), (∀ c ∈ g, blankB c = true) → lexL (g ++ r) out = lexL r out
  | [], r, out, _ => rfl
  | c :: g, r, out, h => by
    rw [List.cons_append, lexL_skip out (step_blank c _ (h c (List.mem_cons_self ..)))]
    exact lex_blanks g r out (fun c hc => h c (List.mem_cons_of_mem _ hc))
/-- words behind blanks, and some blanks at the end -/
def spread : List (List UInt8 × Wd) → List UInt8
  | [] => []
  | (g, w) :: r => g ++ (rend w ++ spread r)
theorem spread_free : ∀ (l : List (List UInt8 × Wd)), (∀ p ∈ l, p.1 ≠ [] ∧ ∀ c ∈ p.1, blankB c = true) → Free (spread l)
  | [], _ => fun c q h => by cases h
  | (g, w) :: r, h => fun c q e => by
    obtain ⟨h1, h2⟩ := h _ (List.mem_cons_self ..)
    cases g with
    | nil => exact absurd rfl h1
    | cons x g =>
      unfold spread at e
      injection e with e _
      subst e
      exact h2 _ (List.mem_cons_self ..)
theorem lex_spread : ∀ (l : List (List UInt8 × Wd)) (out : List Wd) (z : List UInt8), (∀ p ∈ l, p.1 ≠ [] ∧ (∀ c ∈ p.1, blankB c = true) ∧ Good p.2) → (∀ c ∈ z, blankB c = true) → lexL (spread l ++ z) out = (0, out ++ l.map (·.2))
  | [], out, z, _, hz => by
    have := lex_blanks z [] out hz
    rw [List.append_nil] at this
    show lexL z out = _
    rw [this, lexL_nil]
    simp
  | (g, w) :: r, out, z, h, hz => by
    obtain ⟨h1, h2, h3⟩ := h _ (List.mem_cons_self ..)
    have hf : Free (spread r ++ z) := by
      have h0 := spread_free r (fun p hp => ⟨(h p (List.mem_cons_of_mem _ hp)).1, (h p (List.mem_cons_of_mem _ hp)).2.1⟩)
      intro c q e
      cases hs : spread r with
      | nil => rw [hs] at e; exact hz c (by rw [List.nil_append] at e; rw [e]; exact List.mem_cons_self ..)
      | cons x y =>
        rw [hs] at e
        injection e with e _
        subst e
        exact h0 _ y hs
    unfold spread
    rw [List.append_assoc, lex_blanks g _ out h2, List.append_assoc, lexL_put out (step_rend w _ h3 hf), lex_spread r _ z (fun p hp => h p (List.mem_cons_of_mem _ hp)) hz]
    simp
end Go.Proofs.YtfnceamkephpjaaGreat.lx
