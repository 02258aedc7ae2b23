/- Plain: the texts of the laws' Sql, whole; other blanks between their pieces. Printed by genbl2.py. -/
import Derived.Test.YtfnceamkephpjaaGreatBlPlain
namespace Go.Proofs.YtfnceamkephpjaaGreat.pg
open Go.Proofs.YtfnceamkephpjaaGreat.lx
set_option linter.unusedVariables false

/-- a text whose blanks are others -/
inductive Bl : List UInt8 → List UInt8 → Prop
  | nil : Bl [] []
  | ch {c : UInt8} {l m : List UInt8} (hc : c ≠ 32) (h : Bl l m) : Bl (c :: l) (c :: m)
  | sp {g l m : List UInt8} (hn : g ≠ []) (hg : g.length ≤ 3) (hb : ∀ c ∈ g, blankB c = true) (h : Bl l m) : Bl (32 :: l) (g ++ m)
theorem Bl.app {a b s r : List UInt8} (h : Bl a s) (h2 : Bl b r) : Bl (a ++ b) (s ++ r) := by
  induction h with
  | nil => exact h2
  | ch hc _ ih => exact .ch hc ih
  | sp hn hg hb _ ih => rw [List.append_assoc]; exact .sp hn hg hb ih
theorem Bl.one {c : UInt8} (hc : c ≠ 32) : Bl [c] [c] := .ch hc .nil
theorem Bl.blank {g : List UInt8} (hn : g ≠ []) (hg : g.length ≤ 3) (hb : ∀ c ∈ g, blankB c = true) : Bl [32] g := by
  have := Bl.sp hn hg hb .nil
  rwa [List.append_nil] at this
theorem Bl.refl : ∀ l : List UInt8, Bl l l
  | [] => .nil
  | c :: l => by
    by_cases hc : c = 32
    · subst hc
      exact Bl.sp (g := [32]) (by simp) (by simp) (by decide) (Bl.refl l)
    · exact .ch hc (Bl.refl l)
theorem Bl.inv : ∀ {a b s : List UInt8}, Bl (a ++ b) s → ∃ s1 s2, s = s1 ++ s2 ∧ Bl a s1 ∧ Bl b s2
  | [], b, s, h => ⟨[], s, rfl, .nil, h⟩
  | c :: a, b, s, h => by
    rw [List.cons_append] at h
    generalize he : c :: (a ++ b) = l at h
    cases h with
    | nil => cases he
    | ch hc h =>
      injection he with e1 e2
      subst e1 e2
      obtain ⟨s1, s2, rfl, h1, h2⟩ := Bl.inv h
      exact ⟨c :: s1, s2, rfl, .ch hc h1, h2⟩
    | sp hn hg hb h =>
      injection he with e1 e2
      subst e1 e2
      obtain ⟨s1, s2, rfl, h1, h2⟩ := Bl.inv h
      exact ⟨_ ++ s1, s2, by simp, .sp hn hg hb h1, h2⟩
theorem Bl.plain : ∀ {a s : List UInt8}, (32 : UInt8) ∉ a → Bl a s → s = a
  | [], s, h, hb => by cases hb; rfl
  | c :: a, s, h, hb => by
    generalize he : c :: a = l at hb
    cases hb with
    | nil => cases he
    | ch hc hb =>
      injection he with e1 e2
      subst e1 e2
      rw [Bl.plain (fun x => h (List.mem_cons_of_mem _ x)) hb]
    | sp hn hg hb' hb =>
      injection he with e1 e2
      subst e1
      exact absurd (List.mem_cons_self ..) h
theorem Bl.inv_sp {l s : List UInt8} (h : Bl (32 :: l) s) : ∃ g m, s = g ++ m ∧ g ≠ [] ∧ g.length ≤ 3 ∧ (∀ c ∈ g, blankB c = true) ∧ Bl l m := by
  generalize he : 32 :: l = k at h
  cases h with
  | nil => cases he
  | ch hc h =>
    injection he with e1 e2
    exact absurd e1.symm hc
  | sp hn hg hb h =>
    injection he with e1 e2
    subst e2
    exact ⟨_, _, rfl, hn, hg, hb, h⟩
/-- pieces with a blank between -/
def joinT : List Pc → List UInt8
  | [] => []
  | [p] => p.1
  | p :: q :: r => p.1 ++ 32 :: joinT (q :: r)
theorem join_app : ∀ (l m : List Pc), l ≠ [] → m ≠ [] → joinT (l ++ m) = joinT l ++ 32 :: joinT m
  | [], m, h, _ => absurd rfl h
  | [p], [], _, h => absurd rfl h
  | [p], q :: m, _, _ => rfl
  | p :: q :: l, m, _, hm => by
    have := join_app (q :: l) m (by simp) hm
    simp only [List.cons_append] at this ⊢
    rw [joinT, this, joinT]
    simp
theorem free_blank {g r : List UInt8} (hn : g ≠ []) (hb : ∀ c ∈ g, blankB c = true) : Free (g ++ r) := by
  cases g with
  | nil => exact absurd rfl hn
  | cons c g => exact fun d q e => by injection e with e _; subst e; exact hb _ (List.mem_cons_self ..)
theorem lex_bl : ∀ (l : List Pc), AllGood l → ∀ (s : List UInt8) (out : List Wd), Bl (joinT l) s → lexL s out = (0, out ++ wordsP l)
  | [], hg, s, out, h => by
    cases h
    rw [lexL_nil]
    simp [wordsP]
  | [p], hg, s, out, h => by
    obtain ⟨h1, h2⟩ := hg p (List.mem_cons_self ..)
    rw [Bl.plain h2 h, lex_last out h1]
    simp [wordsP]
  | p :: q :: r, hg, s, out, h => by
    obtain ⟨h1, h2⟩ := hg p (List.mem_cons_self ..)
    obtain ⟨s1, s2, rfl, hb1, hb2⟩ := Bl.inv (a := p.1) (b := 32 :: joinT (q :: r)) h
    rw [Bl.plain h2 hb1]
    obtain ⟨g, m, rfl, hn, _, hbl, hb3⟩ := hb2.inv_sp
    rw [lex_seg out h1 (free_blank hn hbl), lex_blanks g m _ hbl, lex_bl (q :: r) (fun x hx => hg x (List.mem_cons_of_mem _ hx)) m _ hb3]
    simp [wordsP]
theorem bl_len : ∀ (l : List Pc), AllGood l → (∀ p ∈ l, p.1.length ≤ 12) → ∀ (s : List UInt8), Bl (joinT l) s → s.length ≤ 15 * l.length
  | [], hg, hl, s, h => by cases h; simp
  | [p], hg, hl, s, h => by
    obtain ⟨h1, h2⟩ := hg p (List.mem_cons_self ..)
    rw [Bl.plain h2 h]
    have := hl p (List.mem_cons_self ..)
    simp
    omega
  | p :: q :: r, hg, hl, s, h => by
    obtain ⟨h1, h2⟩ := hg p (List.mem_cons_self ..)
    obtain ⟨s1, s2, rfl, hb1, hb2⟩ := Bl.inv (a := p.1) (b := 32 :: joinT (q :: r)) h
    rw [Bl.plain h2 hb1]
    obtain ⟨g, m, rfl, hn, hg3, hbl, hb3⟩ := hb2.inv_sp
    have h3 := bl_len (q :: r) (fun x hx => hg x (List.mem_cons_of_mem _ hx)) (fun x hx => hl x (List.mem_cons_of_mem _ hx)) m hb3
    have h4 := hl p (List.mem_cons_self ..)
    simp only [List.length_append, List.length_cons] at h3 ⊢
    omega
def sqlT (n k t x y s : Nat) : List UInt8 := joinT (sqlP n k t x y s)
theorem dg2_len (n : Nat) : (dg2 n).length ≤ 2 := by
  unfold dg2
  split <;> simp
theorem short_nil : ∀ p ∈ ([] : List Pc), p.1.length ≤ 12 := fun p h => by cases h
theorem short_cons {p : Pc} {l : List Pc} (h : p.1.length ≤ 12) (hl : ∀ q ∈ l, q.1.length ≤ 12) : ∀ q ∈ p :: l, q.1.length ≤ 12 := fun q hq => by
  rcases List.mem_cons.1 hq with rfl | hq
  · exact h
  · exact hl q hq
theorem short_app {l m : List Pc} (h : ∀ q ∈ l, q.1.length ≤ 12) (hl : ∀ q ∈ m, q.1.length ≤ 12) : ∀ q ∈ l ++ m, q.1.length ≤ 12 := fun q hq => by
  rcases List.mem_append.1 hq with hq | hq
  · exact h q hq
  · exact hl q hq
theorem s0 : (p0).1.length ≤ 12 := by decide
theorem s1 : (p1).1.length ≤ 12 := by decide
theorem s2 : (p2).1.length ≤ 12 := by decide
theorem s3 (x : Nat) : (p3 x).1.length ≤ 12 := by have := dg2_len x; simp only [p3]; omega
theorem s4 : (p4).1.length ≤ 12 := by decide
theorem s5 : (p5).1.length ≤ 12 := by decide
theorem s6 : (p6).1.length ≤ 12 := by decide
theorem s7 : (p7).1.length ≤ 12 := by decide
theorem s8 : (p8).1.length ≤ 12 := by decide
theorem s9 : (p9).1.length ≤ 12 := by decide
theorem s10 : (p10).1.length ≤ 12 := by decide
theorem s11 : (p11).1.length ≤ 12 := by decide
theorem s12 (x : Nat) : (p12 x).1.length ≤ 12 := by have := dg2_len x; simp only [p12, List.length_append, List.length_cons, List.length_nil]; omega
theorem s13 : (p13).1.length ≤ 12 := by decide
theorem s14 : (p14).1.length ≤ 12 := by decide
theorem s15 : (p15).1.length ≤ 12 := by decide
theorem s16 : (p16).1.length ≤ 12 := by decide
theorem s17 : (p17).1.length ≤ 12 := by decide
theorem s18 : (p18).1.length ≤ 12 := by decide
theorem s19 : (p19).1.length ≤ 12 := by decide
theorem s20 : (p20).1.length ≤ 12 := by decide
theorem s21 : (p21).1.length ≤ 12 := by decide
theorem s22 : (p22).1.length ≤ 12 := by decide
theorem s23 (t : Nat) : (p23 t).1.length ≤ 12 := by simp [p23, tnm]
theorem s24 : (p24).1.length ≤ 12 := by decide
theorem s25 (x : Nat) : (p25 x).1.length ≤ 12 := by have := dg2_len x; simp only [p25, List.length_append, List.length_cons, List.length_nil]; omega
theorem s26 (y : Nat) : (p26 y).1.length ≤ 12 := by have := dg2_len y; simp only [p26, List.length_append, List.length_cons, List.length_nil]; omega
theorem s27 (x : Nat) : (p27 x).1.length ≤ 12 := by have := dg2_len x; simp only [p27, List.length_append, List.length_cons, List.length_nil]; omega
theorem s28 (y : Nat) : (p28 y).1.length ≤ 12 := by have := dg2_len y; simp only [p28, List.length_append, List.length_cons, List.length_nil]; omega
theorem s29 : (p29).1.length ≤ 12 := by decide
theorem s30 : (p30).1.length ≤ 12 := by decide
theorem s31 : (p31).1.length ≤ 12 := by decide
theorem s32 (y : Nat) : (p32 y).1.length ≤ 12 := by have := dg2_len y; simp only [p32, List.length_append, List.length_cons, List.length_nil]; omega
theorem s33 (y : Nat) : (p33 y).1.length ≤ 12 := by have := dg2_len y; simp only [p33]; omega
theorem s34 : (p34).1.length ≤ 12 := by decide
theorem s35 : (p35).1.length ≤ 12 := by decide
theorem s36 : (p36).1.length ≤ 12 := by decide
theorem s37 : (p37).1.length ≤ 12 := by decide
theorem s38 : (p38).1.length ≤ 12 := by decide
theorem s39 : (p39).1.length ≤ 12 := by decide
theorem s40 : (p40).1.length ≤ 12 := by decide
theorem s41 : (p41).1.length ≤ 12 := by decide
theorem s42 : (p42).1.length ≤ 12 := by decide
theorem s43 : (p43).1.length ≤ 12 := by decide
theorem s44 : (p44).1.length ≤ 12 := by decide
theorem s45 : (p45).1.length ≤ 12 := by decide
theorem s46 : (p46).1.length ≤ 12 := by decide
theorem s47 : (p47).1.length ≤ 12 := by decide
theorem s48 : (p48).1.length ≤ 12 := by decide
theorem s49 : (p49).1.length ≤ 12 := by decide
theorem s50 : (p50).1.length ≤ 12 := by decide
theorem s51 : (p51).1.length ≤ 12 := by decide
theorem s52 : (p52).1.length ≤ 12 := by decide
theorem s53 : (p53).1.length ≤ 12 := by decide
theorem s54 : (p54).1.length ≤ 12 := by decide
theorem s55 : (p55).1.length ≤ 12 := by decide
theorem s56 : (p56).1.length ≤ 12 := by decide
theorem s57 : (p57).1.length ≤ 12 := by decide
theorem s58 (t : Nat) : (p58 t).1.length ≤ 12 := by simp [p58, tnm]
theorem s59 (t : Nat) : (p59 t).1.length ≤ 12 := by simp [p59, tnm]
theorem s60 (t : Nat) : (p60 t).1.length ≤ 12 := by simp [p60, tnm]
theorem s61 (t : Nat) : (p61 t).1.length ≤ 12 := by simp [p61, tnm]
theorem s62 : (p62).1.length ≤ 12 := by decide
theorem s63 (s : Nat) : (p63 s).1.length ≤ 12 := by have := dg2_len s; simp only [p63, List.length_append, List.length_cons, List.length_nil]; omega
theorem s64 : (p64).1.length ≤ 12 := by decide
theorem s65 : (p65).1.length ≤ 12 := by decide
theorem s66 : (p66).1.length ≤ 12 := by decide
theorem s67 : (p67).1.length ≤ 12 := by decide
theorem s68 (x : Nat) : (p68 x).1.length ≤ 12 := by have := dg2_len x; simp only [p68, List.length_append, List.length_cons, List.length_nil]; omega
theorem s69 : (p69).1.length ≤ 12 := by decide
theorem wh_short (k x : Nat) : (∀ p ∈ whP k x, p.1.length ≤ 12) ∧ (whP k x).length ≤ 9 := by
  unfold whP
  by_cases h0 : k = 0
  · rw [if_pos h0]; exact ⟨short_nil, by simp⟩
  rw [if_neg h0]
  by_cases h1 : k = 1
  · rw [if_pos h1]; exact ⟨(short_cons (s0) (short_cons (s1) (short_cons (s2) (short_cons (s3 x) short_nil)))), by simp⟩
  rw [if_neg h1]
  by_cases h2 : k = 2
  · rw [if_pos h2]; exact ⟨(short_cons (s0) (short_cons (s1) (short_cons (s4) (short_cons (s3 x) (short_cons (s5) (short_cons (s6) (short_cons (s7) (short_cons (s8) short_nil)))))))), by simp⟩
  rw [if_neg h2]
  by_cases h3 : k = 3
  · rw [if_pos h3]; exact ⟨(short_cons (s0) (short_cons (s9) (short_cons (s10) (short_cons (s11) (short_cons (s12 x) (short_cons (s13) (short_cons (s6) (short_cons (s2) (short_cons (s14) short_nil))))))))), by simp⟩
  rw [if_neg h3]
  by_cases h4 : k = 4
  · rw [if_pos h4]; exact ⟨(short_cons (s0) (short_cons (s1) (short_cons (s15) (short_cons (s16) (short_cons (s17) (short_cons (s3 x) (short_cons (s18) (short_cons (s19) short_nil)))))))), by simp⟩
  rw [if_neg h4]
  exact ⟨(short_cons (s0) (short_cons (s6) (short_cons (s11) (short_cons (s20) short_nil)))), by simp⟩
set_option maxRecDepth 10000 in
theorem sql_short (n k t x y s : Nat) : (∀ p ∈ sqlP n k t x y s, p.1.length ≤ 12) ∧ (sqlP n k t x y s).length ≤ 22 := by
  have hw := wh_short k x
  obtain ⟨hw1, hw2⟩ := hw
  unfold sqlP
  by_cases h0 : n = 0
  · rw [if_pos h0]; exact ⟨(short_cons (s21) (short_cons (s22) (short_cons (s23 t) (short_cons (s24) (short_cons (s25 x) (short_cons (s26 y) short_nil)))))), by simp⟩
  rw [if_neg h0]
  by_cases h1 : n = 1
  · rw [if_pos h1]; exact ⟨(short_cons (s21) (short_cons (s22) (short_cons (s23 t) (short_cons (s24) (short_cons (s25 x) (short_cons (s26 y) short_nil)))))), by simp⟩
  rw [if_neg h1]
  by_cases h2 : n = 2
  · rw [if_pos h2]; exact ⟨(short_cons (s21) (short_cons (s22) (short_cons (s23 t) (short_cons (s24) (short_cons (s25 x) (short_cons (s26 y) short_nil)))))), by simp⟩
  rw [if_neg h2]
  by_cases h3 : n = 3
  · rw [if_pos h3]; exact ⟨(short_cons (s21) (short_cons (s22) (short_cons (s23 t) (short_cons (s24) (short_cons (s27 x) (short_cons (s15) (short_cons (s28 y) (short_cons (s29) short_nil)))))))), by simp⟩
  rw [if_neg h3]
  by_cases h4 : n = 4
  · rw [if_pos h4]; exact ⟨(short_app (short_cons (s30) (short_cons (s23 t) (short_cons (s31) (short_cons (s6) (short_cons (s2) (short_cons (s32 y) short_nil)))))) hw1), by simp only [List.length_append, List.length_cons, List.length_nil]; omega⟩
  rw [if_neg h4]
  by_cases h5 : n = 5
  · rw [if_pos h5]; exact ⟨(short_app (short_cons (s30) (short_cons (s23 t) (short_cons (s31) (short_cons (s1) (short_cons (s2) (short_cons (s1) (short_cons (s15) (short_cons (s33 y) short_nil)))))))) hw1), by simp only [List.length_append, List.length_cons, List.length_nil]; omega⟩
  rw [if_neg h5]
  by_cases h6 : n = 6
  · rw [if_pos h6]; exact ⟨(short_app (short_cons (s30) (short_cons (s23 t) (short_cons (s31) (short_cons (s1) (short_cons (s2) (short_cons (s34) (short_cons (s35) (short_cons (s6) (short_cons (s2) (short_cons (s8) short_nil)))))))))) hw1), by simp only [List.length_append, List.length_cons, List.length_nil]; omega⟩
  rw [if_neg h6]
  by_cases h7 : n = 7
  · rw [if_pos h7]; exact ⟨(short_app (short_cons (s36) (short_cons (s37) (short_cons (s23 t) short_nil))) hw1), by simp only [List.length_append, List.length_cons, List.length_nil]; omega⟩
  rw [if_neg h7]
  by_cases h8 : n = 8
  · rw [if_pos h8]; exact ⟨(short_app (short_cons (s36) (short_cons (s37) (short_cons (s23 t) short_nil))) hw1), by simp only [List.length_append, List.length_cons, List.length_nil]; omega⟩
  rw [if_neg h8]
  by_cases h9 : n = 9
  · rw [if_pos h9]; exact ⟨(short_app (short_cons (s38) (short_cons (s18) (short_cons (s37) (short_cons (s23 t) short_nil)))) hw1), by simp only [List.length_append, List.length_cons, List.length_nil]; omega⟩
  rw [if_neg h9]
  by_cases h10 : n = 10
  · rw [if_pos h10]; exact ⟨(short_app (short_app (short_cons (s38) (short_cons (s35) (short_cons (s6) (short_cons (s37) (short_cons (s23 t) short_nil))))) hw1) (short_cons (s39) (short_cons (s40) (short_cons (s6) (short_cons (s41) (short_cons (s42) (short_cons (s3 x) short_nil))))))), by simp only [List.length_append, List.length_cons, List.length_nil]; omega⟩
  rw [if_neg h10]
  by_cases h11 : n = 11
  · rw [if_pos h11]; exact ⟨(short_app (short_cons (s38) (short_cons (s43) (short_cons (s44) (short_cons (s45) (short_cons (s46) (short_cons (s37) (short_cons (s23 t) short_nil))))))) hw1), by simp only [List.length_append, List.length_cons, List.length_nil]; omega⟩
  rw [if_neg h11]
  by_cases h12 : n = 12
  · rw [if_pos h12]; exact ⟨(short_cons (s38) (short_cons (s47) (short_cons (s48) (short_cons (s37) (short_cons (s23 t) (short_cons (s49) (short_cons (s40) (short_cons (s6) (short_cons (s39) (short_cons (s40) (short_cons (s6) short_nil))))))))))), by simp⟩
  rw [if_neg h12]
  by_cases h13 : n = 13
  · rw [if_pos h13]; exact ⟨(short_cons (s38) (short_cons (s50) (short_cons (s51) (short_cons (s37) (short_cons (s52) (short_cons (s53) (short_cons (s54) (short_cons (s55) (short_cons (s56) (short_cons (s2) (short_cons (s57) short_nil))))))))))), by simp⟩
  rw [if_neg h13]
  by_cases h14 : n = 14
  · rw [if_pos h14]; exact ⟨(short_cons (s38) (short_cons (s58 t) (short_cons (s37) (short_cons (s23 t) (short_cons (s53) (short_cons (s59 t) (short_cons (s55) (short_cons (s58 t) (short_cons (s11) (short_cons (s60 t) (short_cons (s0) (short_cons (s61 t) (short_cons (s7) (short_cons (s8) short_nil)))))))))))))), by simp⟩
  rw [if_neg h14]
  by_cases h15 : n = 15
  · rw [if_pos h15]; exact ⟨(short_cons (s38) (short_cons (s1) (short_cons (s18) (short_cons (s33 y) (short_cons (s34) (short_cons (s16) (short_cons (s37) (short_cons (s23 t) (short_cons (s39) (short_cons (s40) (short_cons (s1) (short_cons (s41) short_nil)))))))))))), by simp⟩
  rw [if_neg h15]
  by_cases h16 : n = 16
  · rw [if_pos h16]; exact ⟨(short_cons (s62) (short_cons (s63 s) short_nil)), by simp⟩
  rw [if_neg h16]
  by_cases h17 : n = 17
  · rw [if_pos h17]; exact ⟨(short_cons (s64) (short_cons (s65) (short_cons (s63 s) short_nil))), by simp⟩
  rw [if_neg h17]
  by_cases h18 : n = 18
  · rw [if_pos h18]; exact ⟨(short_cons (s64) short_nil), by simp⟩
  rw [if_neg h18]
  by_cases h19 : n = 19
  · rw [if_pos h19]; exact ⟨(short_cons (s66) short_nil), by simp⟩
  rw [if_neg h19]
  by_cases h20 : n = 20
  · rw [if_pos h20]; exact ⟨(short_cons (s66) short_nil), by simp⟩
  rw [if_neg h20]
  by_cases h21 : n = 21
  · rw [if_pos h21]; exact ⟨(short_cons (s38) (short_cons (s46) (short_cons (s37) (short_cons (s23 t) (short_cons (s49) (short_cons (s40) (short_cons (s1) (short_cons (s42) (short_cons (s67) short_nil))))))))), by simp⟩
  rw [if_neg h21]
  by_cases h22 : n = 22
  · rw [if_pos h22]; exact ⟨(short_cons (s21) (short_cons (s22) (short_cons (s23 t) (short_cons (s24) (short_cons (s68 x) short_nil))))), by simp⟩
  rw [if_neg h22]
  exact ⟨(short_app (short_cons (s38) (short_cons (s69) (short_cons (s37) (short_cons (s23 t) short_nil)))) hw1), by simp only [List.length_append, List.length_cons, List.length_nil]; omega⟩
/-- whatever blanks: the words, and what is read -/
theorem sql_words {n k t x y s : Nat} (ht : t < 3) (hx : x < 30) (hy : y < 30) (hs : s < 3) {u : List UInt8} (h : Bl (sqlT n k t x y s) u) : wordsL u = (0, wordsP (sqlP n k t x y s) ++ [endW]) := by
  have hg := sql_good n k t x y s ht hx hy hs
  obtain ⟨h1, h2⟩ := sql_short n k t x y s
  have h3 := bl_len _ hg h1 u h
  have := lex_bl _ hg u [] h
  rw [List.nil_append] at this
  exact words_at (by omega) this
theorem sql_len {n k t x y s : Nat} (ht : t < 3) (hx : x < 30) (hy : y < 30) (hs : s < 3) {u : List UInt8} (h : Bl (sqlT n k t x y s) u) : u.length ≤ 330 := by
  have hg := sql_good n k t x y s ht hx hy hs
  obtain ⟨h1, h2⟩ := sql_short n k t x y s
  have h3 := bl_len _ hg h1 u h
  omega
theorem sql_read {n k t x y s : Nat} (hn : n < 24) (hk : k < 6) (ht : t < 3) (hx : x < 30) (hy : y < 30) (hs : s < 3) : ∃ st, ∀ u, Bl (sqlT n k t x y s) u → stmtL u = (0, st) := by
  have h0 := sql_ok n k t x y s hn hk ht hs
  refine ⟨(stmtW (wordsP (sqlP n k t x y s) ++ [endW])).2, fun u hu => ?_⟩
  unfold stmtL
  rw [sql_words ht hx hy hs hu]
  simp only [if_pos]
  exact Prod.ext h0 rfl
/-- the text of a where, as it stands behind -/
def whT (k x : Nat) : List UInt8 := if k = 0 then [] else 32 :: joinT (whP k x)
theorem join_wh (l : List Pc) (hl : l ≠ []) (k x : Nat) : joinT (l ++ whP k x) = joinT l ++ whT k x := by
  unfold whT
  by_cases hk : k = 0
  · rw [if_pos hk, hk]
    simp [whP]
  · rw [if_neg hk]
    refine join_app l _ hl ?_
    unfold whP
    rw [if_neg hk]
    by_cases h1 : k = 1
    · rw [if_pos h1]; simp
    rw [if_neg h1]
    by_cases h2 : k = 2
    · rw [if_pos h2]; simp
    rw [if_neg h2]
    by_cases h3 : k = 3
    · rw [if_pos h3]; simp
    rw [if_neg h3]
    by_cases h4 : k = 4
    · rw [if_pos h4]; simp
    rw [if_neg h4]
    simp
theorem sqlT0 (k t x y s : Nat) : sqlT 0 k t x y s = [105, 110, 115, 101, 114, 116, 32, 105, 110, 116, 111, 32] ++ tnm t ++ [32, 118, 97, 108, 117, 101, 115, 32, 40] ++ dg2 x ++ [44, 32, 39, 118] ++ dg2 y ++ [39, 41] := by
  have e : sqlP 0 k t x y s = [p21, p22, p23 t, p24, p25 x, p26 y] := rfl
  unfold sqlT
  rw [e]
  simp [joinT, p21, p22, p23, p24, p25, p26]
theorem sqlT1 (k t x y s : Nat) : sqlT 1 k t x y s = [105, 110, 115, 101, 114, 116, 32, 105, 110, 116, 111, 32] ++ tnm t ++ [32, 118, 97, 108, 117, 101, 115, 32, 40] ++ dg2 x ++ [44, 32, 39, 118] ++ dg2 y ++ [39, 41] := by
  have e : sqlP 1 k t x y s = [p21, p22, p23 t, p24, p25 x, p26 y] := rfl
  unfold sqlT
  rw [e]
  simp [joinT, p21, p22, p23, p24, p25, p26]
theorem sqlT2 (k t x y s : Nat) : sqlT 2 k t x y s = [105, 110, 115, 101, 114, 116, 32, 105, 110, 116, 111, 32] ++ tnm t ++ [32, 118, 97, 108, 117, 101, 115, 32, 40] ++ dg2 x ++ [44, 32, 39, 118] ++ dg2 y ++ [39, 41] := by
  have e : sqlP 2 k t x y s = [p21, p22, p23 t, p24, p25 x, p26 y] := rfl
  unfold sqlT
  rw [e]
  simp [joinT, p21, p22, p23, p24, p25, p26]
theorem sqlT3 (k t x y s : Nat) : sqlT 3 k t x y s = [105, 110, 115, 101, 114, 116, 32, 105, 110, 116, 111, 32] ++ tnm t ++ [32, 118, 97, 108, 117, 101, 115, 32, 40] ++ dg2 x ++ [32, 43, 32] ++ dg2 y ++ [44, 32, 110, 117, 108, 108, 41] := by
  have e : sqlP 3 k t x y s = [p21, p22, p23 t, p24, p27 x, p15, p28 y, p29] := rfl
  unfold sqlT
  rw [e]
  simp [joinT, p15, p21, p22, p23, p24, p27, p28, p29]
theorem sqlT4 (k t x y s : Nat) : sqlT 4 k t x y s = [117, 112, 100, 97, 116, 101, 32] ++ tnm t ++ [32, 115, 101, 116, 32, 98, 32, 61, 32, 39, 119] ++ dg2 y ++ [39] ++ whT k x := by
  have e : sqlP 4 k t x y s = [p30, p23 t, p31, p6, p2, p32 y] ++ whP k x := rfl
  unfold sqlT
  rw [e]
  rw [join_wh _ (by simp)]
  simp [joinT, p2, p6, p23, p30, p31, p32]
theorem sqlT5 (k t x y s : Nat) : sqlT 5 k t x y s = [117, 112, 100, 97, 116, 101, 32] ++ tnm t ++ [32, 115, 101, 116, 32, 97, 32, 61, 32, 97, 32, 43, 32] ++ dg2 y ++ whT k x := by
  have e : sqlP 5 k t x y s = [p30, p23 t, p31, p1, p2, p1, p15, p33 y] ++ whP k x := rfl
  unfold sqlT
  rw [e]
  rw [join_wh _ (by simp)]
  simp [joinT, p1, p2, p15, p23, p30, p31, p33]
theorem sqlT6 (k t x y s : Nat) : sqlT 6 k t x y s = [117, 112, 100, 97, 116, 101, 32] ++ tnm t ++ [32, 115, 101, 116, 32, 97, 32, 61, 32, 45, 32, 97, 44, 32, 98, 32, 61, 32, 110, 117, 108, 108] ++ whT k x := by
  have e : sqlP 6 k t x y s = [p30, p23 t, p31, p1, p2, p34, p35, p6, p2, p8] ++ whP k x := rfl
  unfold sqlT
  rw [e]
  rw [join_wh _ (by simp)]
  simp [joinT, p1, p2, p6, p8, p23, p30, p31, p34, p35]
theorem sqlT7 (k t x y s : Nat) : sqlT 7 k t x y s = [100, 101, 108, 101, 116, 101, 32, 102, 114, 111, 109, 32] ++ tnm t ++ whT k x := by
  have e : sqlP 7 k t x y s = [p36, p37, p23 t] ++ whP k x := rfl
  unfold sqlT
  rw [e]
  rw [join_wh _ (by simp)]
  simp [joinT, p23, p36, p37]
theorem sqlT8 (k t x y s : Nat) : sqlT 8 k t x y s = [100, 101, 108, 101, 116, 101, 32, 102, 114, 111, 109, 32] ++ tnm t ++ whT k x := by
  have e : sqlP 8 k t x y s = [p36, p37, p23 t] ++ whP k x := rfl
  unfold sqlT
  rw [e]
  rw [join_wh _ (by simp)]
  simp [joinT, p23, p36, p37]
theorem sqlT9 (k t x y s : Nat) : sqlT 9 k t x y s = [115, 101, 108, 101, 99, 116, 32, 42, 32, 102, 114, 111, 109, 32] ++ tnm t ++ whT k x := by
  have e : sqlP 9 k t x y s = [p38, p18, p37, p23 t] ++ whP k x := rfl
  unfold sqlT
  rw [e]
  rw [join_wh _ (by simp)]
  simp [joinT, p18, p23, p37, p38]
theorem sqlT10 (k t x y s : Nat) : sqlT 10 k t x y s = [115, 101, 108, 101, 99, 116, 32, 97, 44, 32, 98, 32, 102, 114, 111, 109, 32] ++ tnm t ++ whT k x ++ [32, 111, 114, 100, 101, 114, 32, 98, 121, 32, 98, 32, 100, 101, 115, 99, 32, 108, 105, 109, 105, 116, 32] ++ dg2 x := by
  have e : sqlP 10 k t x y s = [p38, p35, p6, p37, p23 t] ++ whP k x ++ [p39, p40, p6, p41, p42, p3 x] := rfl
  unfold sqlT
  rw [e]
  rw [join_app _ _ (by simp) (by simp), join_wh _ (by simp)]
  simp [joinT, p3, p6, p23, p35, p37, p38, p39, p40, p41, p42]
theorem sqlT11 (k t x y s : Nat) : sqlT 11 k t x y s = [115, 101, 108, 101, 99, 116, 32, 99, 111, 117, 110, 116, 40, 42, 41, 44, 32, 115, 117, 109, 40, 97, 41, 44, 32, 109, 105, 110, 40, 98, 41, 44, 32, 109, 97, 120, 40, 97, 41, 32, 102, 114, 111, 109, 32] ++ tnm t ++ whT k x := by
  have e : sqlP 11 k t x y s = [p38, p43, p44, p45, p46, p37, p23 t] ++ whP k x := rfl
  unfold sqlT
  rw [e]
  rw [join_wh _ (by simp)]
  simp [joinT, p23, p37, p38, p43, p44, p45, p46]
theorem sqlT12 (k t x y s : Nat) : sqlT 12 k t x y s = [115, 101, 108, 101, 99, 116, 32, 98, 44, 32, 99, 111, 117, 110, 116, 40, 42, 41, 32, 102, 114, 111, 109, 32] ++ tnm t ++ [32, 103, 114, 111, 117, 112, 32, 98, 121, 32, 98, 32, 111, 114, 100, 101, 114, 32, 98, 121, 32, 98] := by
  have e : sqlP 12 k t x y s = [p38, p47, p48, p37, p23 t, p49, p40, p6, p39, p40, p6] := rfl
  unfold sqlT
  rw [e]
  simp [joinT, p6, p23, p37, p38, p39, p40, p47, p48, p49]
theorem sqlT13 (k t x y s : Nat) : sqlT 13 k t x y s = [115, 101, 108, 101, 99, 116, 32, 116, 97, 46, 97, 44, 32, 116, 98, 46, 98, 32, 102, 114, 111, 109, 32, 116, 97, 32, 106, 111, 105, 110, 32, 116, 98, 32, 111, 110, 32, 116, 97, 46, 97, 32, 61, 32, 116, 98, 46, 97] := by
  have e : sqlP 13 k t x y s = [p38, p50, p51, p37, p52, p53, p54, p55, p56, p2, p57] := rfl
  unfold sqlT
  rw [e]
  simp [joinT, p2, p37, p38, p50, p51, p52, p53, p54, p55, p56, p57]
theorem sqlT14 (k t x y s : Nat) : sqlT 14 k t x y s = [115, 101, 108, 101, 99, 116, 32] ++ tnm t ++ [46, 97, 32, 102, 114, 111, 109, 32] ++ tnm t ++ [32, 106, 111, 105, 110, 32] ++ tnm ((t + 1) % 3) ++ [32, 111, 110, 32] ++ tnm t ++ [46, 97, 32, 60, 32] ++ tnm ((t + 1) % 3) ++ [46, 97, 32, 119, 104, 101, 114, 101, 32] ++ tnm t ++ [46, 98, 32, 105, 115, 32, 110, 117, 108, 108] := by
  have e : sqlP 14 k t x y s = [p38, p58 t, p37, p23 t, p53, p59 t, p55, p58 t, p11, p60 t, p0, p61 t, p7, p8] := rfl
  unfold sqlT
  rw [e]
  simp [joinT, p0, p7, p8, p11, p23, p37, p38, p53, p55, p58, p59, p60, p61]
theorem sqlT15 (k t x y s : Nat) : sqlT 15 k t x y s = [115, 101, 108, 101, 99, 116, 32, 97, 32, 42, 32] ++ dg2 y ++ [32, 45, 32, 49, 32, 102, 114, 111, 109, 32] ++ tnm t ++ [32, 111, 114, 100, 101, 114, 32, 98, 121, 32, 97, 32, 100, 101, 115, 99] := by
  have e : sqlP 15 k t x y s = [p38, p1, p18, p33 y, p34, p16, p37, p23 t, p39, p40, p1, p41] := rfl
  unfold sqlT
  rw [e]
  simp [joinT, p1, p16, p18, p23, p33, p34, p37, p38, p39, p40, p41]
theorem sqlT16 (k t x y s : Nat) : sqlT 16 k t x y s = [115, 97, 118, 101, 112, 111, 105, 110, 116, 32, 115] ++ dg2 s := by
  have e : sqlP 16 k t x y s = [p62, p63 s] := rfl
  unfold sqlT
  rw [e]
  simp [joinT, p62, p63]
theorem sqlT17 (k t x y s : Nat) : sqlT 17 k t x y s = [114, 111, 108, 108, 98, 97, 99, 107, 32, 116, 111, 32, 115] ++ dg2 s := by
  have e : sqlP 17 k t x y s = [p64, p65, p63 s] := rfl
  unfold sqlT
  rw [e]
  simp [joinT, p63, p64, p65]
theorem sqlT18 (k t x y s : Nat) : sqlT 18 k t x y s = [114, 111, 108, 108, 98, 97, 99, 107] := by
  have e : sqlP 18 k t x y s = [p64] := rfl
  unfold sqlT
  rw [e]
  simp [joinT, p64]
theorem sqlT19 (k t x y s : Nat) : sqlT 19 k t x y s = [98, 101, 103, 105, 110] := by
  have e : sqlP 19 k t x y s = [p66] := rfl
  unfold sqlT
  rw [e]
  simp [joinT, p66]
theorem sqlT20 (k t x y s : Nat) : sqlT 20 k t x y s = [98, 101, 103, 105, 110] := by
  have e : sqlP 20 k t x y s = [p66] := rfl
  unfold sqlT
  rw [e]
  simp [joinT, p66]
theorem sqlT21 (k t x y s : Nat) : sqlT 21 k t x y s = [115, 101, 108, 101, 99, 116, 32, 109, 97, 120, 40, 97, 41, 32, 102, 114, 111, 109, 32] ++ tnm t ++ [32, 103, 114, 111, 117, 112, 32, 98, 121, 32, 97, 32, 108, 105, 109, 105, 116, 32, 51] := by
  have e : sqlP 21 k t x y s = [p38, p46, p37, p23 t, p49, p40, p1, p42, p67] := rfl
  unfold sqlT
  rw [e]
  simp [joinT, p1, p23, p37, p38, p40, p42, p46, p49, p67]
theorem sqlT22 (k t x y s : Nat) : sqlT 22 k t x y s = [105, 110, 115, 101, 114, 116, 32, 105, 110, 116, 111, 32] ++ tnm t ++ [32, 118, 97, 108, 117, 101, 115, 32, 40] ++ dg2 x ++ [41] := by
  have e : sqlP 22 k t x y s = [p21, p22, p23 t, p24, p68 x] := rfl
  unfold sqlT
  rw [e]
  simp [joinT, p21, p22, p23, p24, p68]
theorem sqlT23 (k t x y s : Nat) : sqlT 23 k t x y s = [115, 101, 108, 101, 99, 116, 32, 99, 32, 102, 114, 111, 109, 32] ++ tnm t ++ whT k x := by
  have e : sqlP 23 k t x y s = [p38, p69, p37, p23 t] ++ whP k x := rfl
  unfold sqlT
  rw [e]
  rw [join_wh _ (by simp)]
  simp [joinT, p23, p37, p38, p69]
theorem whT0 (x : Nat) : whT 0 x = [] := by
  simp [whT]
theorem whT1 (x : Nat) : whT 1 x = [32, 119, 104, 101, 114, 101, 32, 97, 32, 61, 32] ++ dg2 x := by
  simp [whT, whP, joinT, p0, p1, p2, p3]
theorem whT2 (x : Nat) : whT 2 x = [32, 119, 104, 101, 114, 101, 32, 97, 32, 62, 32] ++ dg2 x ++ [32, 97, 110, 100, 32, 98, 32, 105, 115, 32, 110, 117, 108, 108] := by
  simp [whT, whP, joinT, p0, p1, p3, p4, p5, p6, p7, p8]
theorem whT3 (x : Nat) : whT 3 x = [32, 119, 104, 101, 114, 101, 32, 110, 111, 116, 32, 40, 97, 32, 60, 32] ++ dg2 x ++ [41, 32, 111, 114, 32, 98, 32, 61, 32, 39, 99, 39] := by
  simp [whT, whP, joinT, p0, p2, p6, p9, p10, p11, p12, p13, p14]
theorem whT4 (x : Nat) : whT 4 x = [32, 119, 104, 101, 114, 101, 32, 97, 32, 43, 32, 49, 32, 60, 61, 32] ++ dg2 x ++ [32, 42, 32, 50] := by
  simp [whT, whP, joinT, p0, p1, p3, p15, p16, p17, p18, p19]
theorem whT5 (x : Nat) : whT 5 x = [32, 119, 104, 101, 114, 101, 32, 98, 32, 60, 32, 39, 100, 39] := by
  simp [whT, whP, joinT, p0, p6, p11, p20]
end Go.Proofs.YtfnceamkephpjaaGreat.pg
