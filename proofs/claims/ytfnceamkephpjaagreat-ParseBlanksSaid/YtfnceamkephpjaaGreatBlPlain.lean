/- Plain: the texts of the laws' Sql. Printed by genbl.py. -/
import Derived.Test.YtfnceamkephpjaaGreatQ1
import Derived.Test.YtfnceamkephpjaaGreatLA
namespace Go.Proofs.YtfnceamkephpjaaGreat.pg
open Go.Proofs.YtfnceamkephpjaaGreat.lx
set_option linter.unusedVariables false

instance : DecidableEq Wd := fun a b => decidable_of_iff (a.k = b.k ∧ (a.n = b.n ∧ a.s = b.s)) ⟨fun ⟨h1, h2, h3⟩ => by
  obtain ⟨_, _, _⟩ := a
  obtain ⟨_, _, _⟩ := b
  simp only at h1 h2 h3
  subst h1 h2 h3
  rfl, fun h => by subst h; exact ⟨rfl, rfl, rfl⟩⟩
def dg2 (n : Nat) : List UInt8 := if n < 10 then [UInt8.ofNat (48 + n)] else [UInt8.ofNat (48 + n / 10), UInt8.ofNat (48 + n % 10)]
theorem digs_dg2 (n : Nat) (h : n < 100) : digs n = dg2 n := by
  unfold dg2
  by_cases h1 : n < 10
  · rw [if_pos h1, digs_small n h1]
  · rw [if_neg h1, digs_big n (by omega), digs_small _ (by omega), digs_small _ (by omega)]
    rfl
def tnm (t : Nat) : List UInt8 := [116, UInt8.ofNat (97 + t)]
/-- a piece and its words -/
abbrev Pc := List UInt8 × List Wd
def Good (p : Pc) : Prop := lexL p.1 [] = (0, p.2) ∧ (32 : UInt8) ∉ p.1
instance (p : Pc) : Decidable (Good p) := inferInstanceAs (Decidable (_ ∧ _))
def AllGood (l : List Pc) : Prop := ∀ p ∈ l, Good p
theorem good_nil : AllGood [] := fun p h => by cases h
theorem good_cons {p : Pc} {l : List Pc} (h : Good p) (hl : AllGood l) : AllGood (p :: l) := fun q hq => by
  rcases List.mem_cons.1 hq with rfl | hq
  · exact h
  · exact hl q hq
theorem good_app {l m : List Pc} (hl : AllGood l) (hm : AllGood m) : AllGood (l ++ m) := fun q hq => by
  rcases List.mem_append.1 hq with hq | hq
  · exact hl q hq
  · exact hm q hq
def p0 : Pc := ([119, 104, 101, 114, 101], [⟨1, 0, [119, 104, 101, 114, 101]⟩])
def p1 : Pc := ([97], [⟨1, 0, [97]⟩])
def p2 : Pc := ([61], [⟨4, 0, [61]⟩])
def p3 (x : Nat) : Pc := (dg2 x, [⟨2, (x : Nat), []⟩])
def p4 : Pc := ([62], [⟨4, 0, [62]⟩])
def p5 : Pc := ([97, 110, 100], [⟨1, 0, [97, 110, 100]⟩])
def p6 : Pc := ([98], [⟨1, 0, [98]⟩])
def p7 : Pc := ([105, 115], [⟨1, 0, [105, 115]⟩])
def p8 : Pc := ([110, 117, 108, 108], [⟨1, 0, [110, 117, 108, 108]⟩])
def p9 : Pc := ([110, 111, 116], [⟨1, 0, [110, 111, 116]⟩])
def p10 : Pc := ([40, 97], [⟨4, 0, [40]⟩, ⟨1, 0, [97]⟩])
def p11 : Pc := ([60], [⟨4, 0, [60]⟩])
def p12 (x : Nat) : Pc := (((dg2 x) ++ [41]), [⟨2, (x : Nat), []⟩, ⟨4, 0, [41]⟩])
def p13 : Pc := ([111, 114], [⟨1, 0, [111, 114]⟩])
def p14 : Pc := ([39, 99, 39], [⟨3, 0, [99]⟩])
def p15 : Pc := ([43], [⟨4, 0, [43]⟩])
def p16 : Pc := ([49], [⟨2, 1, []⟩])
def p17 : Pc := ([60, 61], [⟨4, 0, [60, 61]⟩])
def p18 : Pc := ([42], [⟨4, 0, [42]⟩])
def p19 : Pc := ([50], [⟨2, 2, []⟩])
def p20 : Pc := ([39, 100, 39], [⟨3, 0, [100]⟩])
def p21 : Pc := ([105, 110, 115, 101, 114, 116], [⟨1, 0, [105, 110, 115, 101, 114, 116]⟩])
def p22 : Pc := ([105, 110, 116, 111], [⟨1, 0, [105, 110, 116, 111]⟩])
def p23 (t : Nat) : Pc := (tnm t, [⟨1, 0, tnm t⟩])
def p24 : Pc := ([118, 97, 108, 117, 101, 115], [⟨1, 0, [118, 97, 108, 117, 101, 115]⟩])
def p25 (x : Nat) : Pc := (([40] ++ (dg2 x) ++ [44]), [⟨4, 0, [40]⟩, ⟨2, (x : Nat), []⟩, ⟨4, 0, [44]⟩])
def p26 (y : Nat) : Pc := (([39, 118] ++ (dg2 y) ++ [39, 41]), [⟨3, 0, ([118] ++ (dg2 y))⟩, ⟨4, 0, [41]⟩])
def p27 (x : Nat) : Pc := (([40] ++ (dg2 x)), [⟨4, 0, [40]⟩, ⟨2, (x : Nat), []⟩])
def p28 (y : Nat) : Pc := (((dg2 y) ++ [44]), [⟨2, (y : Nat), []⟩, ⟨4, 0, [44]⟩])
def p29 : Pc := ([110, 117, 108, 108, 41], [⟨1, 0, [110, 117, 108, 108]⟩, ⟨4, 0, [41]⟩])
def p30 : Pc := ([117, 112, 100, 97, 116, 101], [⟨1, 0, [117, 112, 100, 97, 116, 101]⟩])
def p31 : Pc := ([115, 101, 116], [⟨1, 0, [115, 101, 116]⟩])
def p32 (y : Nat) : Pc := (([39, 119] ++ (dg2 y) ++ [39]), [⟨3, 0, ([119] ++ (dg2 y))⟩])
def p33 (y : Nat) : Pc := (dg2 y, [⟨2, (y : Nat), []⟩])
def p34 : Pc := ([45], [⟨4, 0, [45]⟩])
def p35 : Pc := ([97, 44], [⟨1, 0, [97]⟩, ⟨4, 0, [44]⟩])
def p36 : Pc := ([100, 101, 108, 101, 116, 101], [⟨1, 0, [100, 101, 108, 101, 116, 101]⟩])
def p37 : Pc := ([102, 114, 111, 109], [⟨1, 0, [102, 114, 111, 109]⟩])
def p38 : Pc := ([115, 101, 108, 101, 99, 116], [⟨1, 0, [115, 101, 108, 101, 99, 116]⟩])
def p39 : Pc := ([111, 114, 100, 101, 114], [⟨1, 0, [111, 114, 100, 101, 114]⟩])
def p40 : Pc := ([98, 121], [⟨1, 0, [98, 121]⟩])
def p41 : Pc := ([100, 101, 115, 99], [⟨1, 0, [100, 101, 115, 99]⟩])
def p42 : Pc := ([108, 105, 109, 105, 116], [⟨1, 0, [108, 105, 109, 105, 116]⟩])
def p43 : Pc := ([99, 111, 117, 110, 116, 40, 42, 41, 44], [⟨1, 0, [99, 111, 117, 110, 116]⟩, ⟨4, 0, [40]⟩, ⟨4, 0, [42]⟩, ⟨4, 0, [41]⟩, ⟨4, 0, [44]⟩])
def p44 : Pc := ([115, 117, 109, 40, 97, 41, 44], [⟨1, 0, [115, 117, 109]⟩, ⟨4, 0, [40]⟩, ⟨1, 0, [97]⟩, ⟨4, 0, [41]⟩, ⟨4, 0, [44]⟩])
def p45 : Pc := ([109, 105, 110, 40, 98, 41, 44], [⟨1, 0, [109, 105, 110]⟩, ⟨4, 0, [40]⟩, ⟨1, 0, [98]⟩, ⟨4, 0, [41]⟩, ⟨4, 0, [44]⟩])
def p46 : Pc := ([109, 97, 120, 40, 97, 41], [⟨1, 0, [109, 97, 120]⟩, ⟨4, 0, [40]⟩, ⟨1, 0, [97]⟩, ⟨4, 0, [41]⟩])
def p47 : Pc := ([98, 44], [⟨1, 0, [98]⟩, ⟨4, 0, [44]⟩])
def p48 : Pc := ([99, 111, 117, 110, 116, 40, 42, 41], [⟨1, 0, [99, 111, 117, 110, 116]⟩, ⟨4, 0, [40]⟩, ⟨4, 0, [42]⟩, ⟨4, 0, [41]⟩])
def p49 : Pc := ([103, 114, 111, 117, 112], [⟨1, 0, [103, 114, 111, 117, 112]⟩])
def p50 : Pc := ([116, 97, 46, 97, 44], [⟨1, 0, [116, 97]⟩, ⟨4, 0, [46]⟩, ⟨1, 0, [97]⟩, ⟨4, 0, [44]⟩])
def p51 : Pc := ([116, 98, 46, 98], [⟨1, 0, [116, 98]⟩, ⟨4, 0, [46]⟩, ⟨1, 0, [98]⟩])
def p52 : Pc := ([116, 97], [⟨1, 0, [116, 97]⟩])
def p53 : Pc := ([106, 111, 105, 110], [⟨1, 0, [106, 111, 105, 110]⟩])
def p54 : Pc := ([116, 98], [⟨1, 0, [116, 98]⟩])
def p55 : Pc := ([111, 110], [⟨1, 0, [111, 110]⟩])
def p56 : Pc := ([116, 97, 46, 97], [⟨1, 0, [116, 97]⟩, ⟨4, 0, [46]⟩, ⟨1, 0, [97]⟩])
def p57 : Pc := ([116, 98, 46, 97], [⟨1, 0, [116, 98]⟩, ⟨4, 0, [46]⟩, ⟨1, 0, [97]⟩])
def p58 (t : Nat) : Pc := (((tnm t) ++ [46, 97]), [⟨1, 0, tnm t⟩, ⟨4, 0, [46]⟩, ⟨1, 0, [97]⟩])
def p59 (t : Nat) : Pc := (tnm ((t + 1) % 3), [⟨1, 0, tnm ((t + 1) % 3)⟩])
def p60 (t : Nat) : Pc := (((tnm ((t + 1) % 3)) ++ [46, 97]), [⟨1, 0, tnm ((t + 1) % 3)⟩, ⟨4, 0, [46]⟩, ⟨1, 0, [97]⟩])
def p61 (t : Nat) : Pc := (((tnm t) ++ [46, 98]), [⟨1, 0, tnm t⟩, ⟨4, 0, [46]⟩, ⟨1, 0, [98]⟩])
def p62 : Pc := ([115, 97, 118, 101, 112, 111, 105, 110, 116], [⟨1, 0, [115, 97, 118, 101, 112, 111, 105, 110, 116]⟩])
def p63 (s : Nat) : Pc := (([115] ++ (dg2 s)), [⟨1, 0, ([115] ++ (dg2 s))⟩])
def p64 : Pc := ([114, 111, 108, 108, 98, 97, 99, 107], [⟨1, 0, [114, 111, 108, 108, 98, 97, 99, 107]⟩])
def p65 : Pc := ([116, 111], [⟨1, 0, [116, 111]⟩])
def p66 : Pc := ([98, 101, 103, 105, 110], [⟨1, 0, [98, 101, 103, 105, 110]⟩])
def p67 : Pc := ([51], [⟨2, 3, []⟩])
def p68 (x : Nat) : Pc := (([40] ++ (dg2 x) ++ [41]), [⟨4, 0, [40]⟩, ⟨2, (x : Nat), []⟩, ⟨4, 0, [41]⟩])
def p69 : Pc := ([99], [⟨1, 0, [99]⟩])
def whP (k x : Nat) : List Pc := if k = 0 then [] else if k = 1 then [p0, p1, p2, p3 x] else if k = 2 then [p0, p1, p4, p3 x, p5, p6, p7, p8] else if k = 3 then [p0, p9, p10, p11, p12 x, p13, p6, p2, p14] else if k = 4 then [p0, p1, p15, p16, p17, p3 x, p18, p19] else [p0, p6, p11, p20]
def sqlP (n k t x y s : Nat) : List Pc := if n = 0 then [p21, p22, p23 t, p24, p25 x, p26 y] else if n = 1 then [p21, p22, p23 t, p24, p25 x, p26 y] else if n = 2 then [p21, p22, p23 t, p24, p25 x, p26 y] else if n = 3 then [p21, p22, p23 t, p24, p27 x, p15, p28 y, p29] else if n = 4 then [p30, p23 t, p31, p6, p2, p32 y] ++ whP k x else if n = 5 then [p30, p23 t, p31, p1, p2, p1, p15, p33 y] ++ whP k x else if n = 6 then [p30, p23 t, p31, p1, p2, p34, p35, p6, p2, p8] ++ whP k x else if n = 7 then [p36, p37, p23 t] ++ whP k x else if n = 8 then [p36, p37, p23 t] ++ whP k x else if n = 9 then [p38, p18, p37, p23 t] ++ whP k x else if n = 10 then [p38, p35, p6, p37, p23 t] ++ whP k x ++ [p39, p40, p6, p41, p42, p3 x] else if n = 11 then [p38, p43, p44, p45, p46, p37, p23 t] ++ whP k x else if n = 12 then [p38, p47, p48, p37, p23 t, p49, p40, p6, p39, p40, p6] else if n = 13 then [p38, p50, p51, p37, p52, p53, p54, p55, p56, p2, p57] else if n = 14 then [p38, p58 t, p37, p23 t, p53, p59 t, p55, p58 t, p11, p60 t, p0, p61 t, p7, p8] else if n = 15 then [p38, p1, p18, p33 y, p34, p16, p37, p23 t, p39, p40, p1, p41] else if n = 16 then [p62, p63 s] else if n = 17 then [p64, p65, p63 s] else if n = 18 then [p64] else if n = 19 then [p66] else if n = 20 then [p66] else if n = 21 then [p38, p46, p37, p23 t, p49, p40, p1, p42, p67] else if n = 22 then [p21, p22, p23 t, p24, p68 x] else [p38, p69, p37, p23 t] ++ whP k x

def wordsP (l : List Pc) : List Wd := l.flatMap (·.2)
/-- it is read -/
def ok0 (l : List Pc) : Int := (stmtW (wordsP l ++ [endW])).1
theorem g0 : Good p0 := by decide +kernel
theorem g1 : Good p1 := by decide +kernel
theorem g2 : Good p2 := by decide +kernel
theorem g3_ : ∀ x, x < 30 → Good (p3 x) := by decide +kernel
theorem g4 : Good p4 := by decide +kernel
theorem g5 : Good p5 := by decide +kernel
theorem g6 : Good p6 := by decide +kernel
theorem g7 : Good p7 := by decide +kernel
theorem g8 : Good p8 := by decide +kernel
theorem g9 : Good p9 := by decide +kernel
theorem g10 : Good p10 := by decide +kernel
theorem g11 : Good p11 := by decide +kernel
theorem g12_ : ∀ x, x < 30 → Good (p12 x) := by decide +kernel
theorem g13 : Good p13 := by decide +kernel
theorem g14 : Good p14 := by decide +kernel
theorem g15 : Good p15 := by decide +kernel
theorem g16 : Good p16 := by decide +kernel
theorem g17 : Good p17 := by decide +kernel
theorem g18 : Good p18 := by decide +kernel
theorem g19 : Good p19 := by decide +kernel
theorem g20 : Good p20 := by decide +kernel
theorem g21 : Good p21 := by decide +kernel
theorem g22 : Good p22 := by decide +kernel
theorem g23_ : ∀ t, t < 3 → Good (p23 t) := by decide +kernel
theorem g24 : Good p24 := by decide +kernel
theorem g25_ : ∀ x, x < 30 → Good (p25 x) := by decide +kernel
theorem g26_ : ∀ y, y < 30 → Good (p26 y) := by decide +kernel
theorem g27_ : ∀ x, x < 30 → Good (p27 x) := by decide +kernel
theorem g28_ : ∀ y, y < 30 → Good (p28 y) := by decide +kernel
theorem g29 : Good p29 := by decide +kernel
theorem g30 : Good p30 := by decide +kernel
theorem g31 : Good p31 := by decide +kernel
theorem g32_ : ∀ y, y < 30 → Good (p32 y) := by decide +kernel
theorem g33_ : ∀ y, y < 30 → Good (p33 y) := by decide +kernel
theorem g34 : Good p34 := by decide +kernel
theorem g35 : Good p35 := by decide +kernel
theorem g36 : Good p36 := by decide +kernel
theorem g37 : Good p37 := by decide +kernel
theorem g38 : Good p38 := by decide +kernel
theorem g39 : Good p39 := by decide +kernel
theorem g40 : Good p40 := by decide +kernel
theorem g41 : Good p41 := by decide +kernel
theorem g42 : Good p42 := by decide +kernel
theorem g43 : Good p43 := by decide +kernel
theorem g44 : Good p44 := by decide +kernel
theorem g45 : Good p45 := by decide +kernel
theorem g46 : Good p46 := by decide +kernel
theorem g47 : Good p47 := by decide +kernel
theorem g48 : Good p48 := by decide +kernel
theorem g49 : Good p49 := by decide +kernel
theorem g50 : Good p50 := by decide +kernel
theorem g51 : Good p51 := by decide +kernel
theorem g52 : Good p52 := by decide +kernel
theorem g53 : Good p53 := by decide +kernel
theorem g54 : Good p54 := by decide +kernel
theorem g55 : Good p55 := by decide +kernel
theorem g56 : Good p56 := by decide +kernel
theorem g57 : Good p57 := by decide +kernel
theorem g58_ : ∀ t, t < 3 → Good (p58 t) := by decide +kernel
theorem g59_ : ∀ t, t < 3 → Good (p59 t) := by decide +kernel
theorem g60_ : ∀ t, t < 3 → Good (p60 t) := by decide +kernel
theorem g61_ : ∀ t, t < 3 → Good (p61 t) := by decide +kernel
theorem g62 : Good p62 := by decide +kernel
theorem g63_ : ∀ s, s < 3 → Good (p63 s) := by decide +kernel
theorem g64 : Good p64 := by decide +kernel
theorem g65 : Good p65 := by decide +kernel
theorem g66 : Good p66 := by decide +kernel
theorem g67 : Good p67 := by decide +kernel
theorem g68_ : ∀ x, x < 30 → Good (p68 x) := by decide +kernel
theorem g69 : Good p69 := by decide +kernel
theorem wh_good (k x : Nat) (hx : x < 30) : AllGood (whP k x) := by
  unfold whP
  by_cases h0 : k = 0
  · rw [if_pos h0]; exact good_nil
  rw [if_neg h0]
  by_cases h1 : k = 1
  · rw [if_pos h1]; exact (good_cons g0 (good_cons g1 (good_cons g2 (good_cons (g3_ x hx) good_nil))))
  rw [if_neg h1]
  by_cases h2 : k = 2
  · rw [if_pos h2]; exact (good_cons g0 (good_cons g1 (good_cons g4 (good_cons (g3_ x hx) (good_cons g5 (good_cons g6 (good_cons g7 (good_cons g8 good_nil))))))))
  rw [if_neg h2]
  by_cases h3 : k = 3
  · rw [if_pos h3]; exact (good_cons g0 (good_cons g9 (good_cons g10 (good_cons g11 (good_cons (g12_ x hx) (good_cons g13 (good_cons g6 (good_cons g2 (good_cons g14 good_nil)))))))))
  rw [if_neg h3]
  by_cases h4 : k = 4
  · rw [if_pos h4]; exact (good_cons g0 (good_cons g1 (good_cons g15 (good_cons g16 (good_cons g17 (good_cons (g3_ x hx) (good_cons g18 (good_cons g19 good_nil))))))))
  rw [if_neg h4]
  exact (good_cons g0 (good_cons g6 (good_cons g11 (good_cons g20 good_nil))))
set_option maxRecDepth 10000 in
theorem sql_good (n k t x y s : Nat) (ht : t < 3) (hx : x < 30) (hy : y < 30) (hs : s < 3) : AllGood (sqlP n k t x y s) := by
  unfold sqlP
  by_cases h0 : n = 0
  · rw [if_pos h0]; exact (good_cons g21 (good_cons g22 (good_cons (g23_ t ht) (good_cons g24 (good_cons (g25_ x hx) (good_cons (g26_ y hy) good_nil))))))
  rw [if_neg h0]
  by_cases h1 : n = 1
  · rw [if_pos h1]; exact (good_cons g21 (good_cons g22 (good_cons (g23_ t ht) (good_cons g24 (good_cons (g25_ x hx) (good_cons (g26_ y hy) good_nil))))))
  rw [if_neg h1]
  by_cases h2 : n = 2
  · rw [if_pos h2]; exact (good_cons g21 (good_cons g22 (good_cons (g23_ t ht) (good_cons g24 (good_cons (g25_ x hx) (good_cons (g26_ y hy) good_nil))))))
  rw [if_neg h2]
  by_cases h3 : n = 3
  · rw [if_pos h3]; exact (good_cons g21 (good_cons g22 (good_cons (g23_ t ht) (good_cons g24 (good_cons (g27_ x hx) (good_cons g15 (good_cons (g28_ y hy) (good_cons g29 good_nil))))))))
  rw [if_neg h3]
  by_cases h4 : n = 4
  · rw [if_pos h4]; exact (good_app (good_cons g30 (good_cons (g23_ t ht) (good_cons g31 (good_cons g6 (good_cons g2 (good_cons (g32_ y hy) good_nil)))))) (wh_good k x hx))
  rw [if_neg h4]
  by_cases h5 : n = 5
  · rw [if_pos h5]; exact (good_app (good_cons g30 (good_cons (g23_ t ht) (good_cons g31 (good_cons g1 (good_cons g2 (good_cons g1 (good_cons g15 (good_cons (g33_ y hy) good_nil)))))))) (wh_good k x hx))
  rw [if_neg h5]
  by_cases h6 : n = 6
  · rw [if_pos h6]; exact (good_app (good_cons g30 (good_cons (g23_ t ht) (good_cons g31 (good_cons g1 (good_cons g2 (good_cons g34 (good_cons g35 (good_cons g6 (good_cons g2 (good_cons g8 good_nil)))))))))) (wh_good k x hx))
  rw [if_neg h6]
  by_cases h7 : n = 7
  · rw [if_pos h7]; exact (good_app (good_cons g36 (good_cons g37 (good_cons (g23_ t ht) good_nil))) (wh_good k x hx))
  rw [if_neg h7]
  by_cases h8 : n = 8
  · rw [if_pos h8]; exact (good_app (good_cons g36 (good_cons g37 (good_cons (g23_ t ht) good_nil))) (wh_good k x hx))
  rw [if_neg h8]
  by_cases h9 : n = 9
  · rw [if_pos h9]; exact (good_app (good_cons g38 (good_cons g18 (good_cons g37 (good_cons (g23_ t ht) good_nil)))) (wh_good k x hx))
  rw [if_neg h9]
  by_cases h10 : n = 10
  · rw [if_pos h10]; exact (good_app (good_app (good_cons g38 (good_cons g35 (good_cons g6 (good_cons g37 (good_cons (g23_ t ht) good_nil))))) (wh_good k x hx)) (good_cons g39 (good_cons g40 (good_cons g6 (good_cons g41 (good_cons g42 (good_cons (g3_ x hx) good_nil)))))))
  rw [if_neg h10]
  by_cases h11 : n = 11
  · rw [if_pos h11]; exact (good_app (good_cons g38 (good_cons g43 (good_cons g44 (good_cons g45 (good_cons g46 (good_cons g37 (good_cons (g23_ t ht) good_nil))))))) (wh_good k x hx))
  rw [if_neg h11]
  by_cases h12 : n = 12
  · rw [if_pos h12]; exact (good_cons g38 (good_cons g47 (good_cons g48 (good_cons g37 (good_cons (g23_ t ht) (good_cons g49 (good_cons g40 (good_cons g6 (good_cons g39 (good_cons g40 (good_cons g6 good_nil)))))))))))
  rw [if_neg h12]
  by_cases h13 : n = 13
  · rw [if_pos h13]; exact (good_cons g38 (good_cons g50 (good_cons g51 (good_cons g37 (good_cons g52 (good_cons g53 (good_cons g54 (good_cons g55 (good_cons g56 (good_cons g2 (good_cons g57 good_nil)))))))))))
  rw [if_neg h13]
  by_cases h14 : n = 14
  · rw [if_pos h14]; exact (good_cons g38 (good_cons (g58_ t ht) (good_cons g37 (good_cons (g23_ t ht) (good_cons g53 (good_cons (g59_ t ht) (good_cons g55 (good_cons (g58_ t ht) (good_cons g11 (good_cons (g60_ t ht) (good_cons g0 (good_cons (g61_ t ht) (good_cons g7 (good_cons g8 good_nil))))))))))))))
  rw [if_neg h14]
  by_cases h15 : n = 15
  · rw [if_pos h15]; exact (good_cons g38 (good_cons g1 (good_cons g18 (good_cons (g33_ y hy) (good_cons g34 (good_cons g16 (good_cons g37 (good_cons (g23_ t ht) (good_cons g39 (good_cons g40 (good_cons g1 (good_cons g41 good_nil))))))))))))
  rw [if_neg h15]
  by_cases h16 : n = 16
  · rw [if_pos h16]; exact (good_cons g62 (good_cons (g63_ s hs) good_nil))
  rw [if_neg h16]
  by_cases h17 : n = 17
  · rw [if_pos h17]; exact (good_cons g64 (good_cons g65 (good_cons (g63_ s hs) good_nil)))
  rw [if_neg h17]
  by_cases h18 : n = 18
  · rw [if_pos h18]; exact (good_cons g64 good_nil)
  rw [if_neg h18]
  by_cases h19 : n = 19
  · rw [if_pos h19]; exact (good_cons g66 good_nil)
  rw [if_neg h19]
  by_cases h20 : n = 20
  · rw [if_pos h20]; exact (good_cons g66 good_nil)
  rw [if_neg h20]
  by_cases h21 : n = 21
  · rw [if_pos h21]; exact (good_cons g38 (good_cons g46 (good_cons g37 (good_cons (g23_ t ht) (good_cons g49 (good_cons g40 (good_cons g1 (good_cons g42 (good_cons g67 good_nil)))))))))
  rw [if_neg h21]
  by_cases h22 : n = 22
  · rw [if_pos h22]; exact (good_cons g21 (good_cons g22 (good_cons (g23_ t ht) (good_cons g24 (good_cons (g68_ x hx) good_nil)))))
  rw [if_neg h22]
  exact (good_app (good_cons g38 (good_cons g69 (good_cons g37 (good_cons (g23_ t ht) good_nil)))) (wh_good k x hx))
theorem st0 (k t x y s : Nat) (ht : t < 3) : ok0 (sqlP 0 k t x y s) = 0 := by
  obtain rfl | rfl | rfl : t = 0 ∨ t = 1 ∨ t = 2 := by omega
  all_goals kernel_rfl
theorem st3 (k t x y s : Nat) (ht : t < 3) : ok0 (sqlP 3 k t x y s) = 0 := by
  obtain rfl | rfl | rfl : t = 0 ∨ t = 1 ∨ t = 2 := by omega
  all_goals kernel_rfl
theorem st4 (k t x y s : Nat) (hk : k < 6) (ht : t < 3) : ok0 (sqlP 4 k t x y s) = 0 := by
  obtain rfl | rfl | rfl | rfl | rfl | rfl : k = 0 ∨ k = 1 ∨ k = 2 ∨ k = 3 ∨ k = 4 ∨ k = 5 := by omega
  all_goals (obtain rfl | rfl | rfl : t = 0 ∨ t = 1 ∨ t = 2 := by omega)
  all_goals kernel_rfl
theorem st5 (k t x y s : Nat) (hk : k < 6) (ht : t < 3) : ok0 (sqlP 5 k t x y s) = 0 := by
  obtain rfl | rfl | rfl | rfl | rfl | rfl : k = 0 ∨ k = 1 ∨ k = 2 ∨ k = 3 ∨ k = 4 ∨ k = 5 := by omega
  all_goals (obtain rfl | rfl | rfl : t = 0 ∨ t = 1 ∨ t = 2 := by omega)
  all_goals kernel_rfl
theorem st6 (k t x y s : Nat) (hk : k < 6) (ht : t < 3) : ok0 (sqlP 6 k t x y s) = 0 := by
  obtain rfl | rfl | rfl | rfl | rfl | rfl : k = 0 ∨ k = 1 ∨ k = 2 ∨ k = 3 ∨ k = 4 ∨ k = 5 := by omega
  all_goals (obtain rfl | rfl | rfl : t = 0 ∨ t = 1 ∨ t = 2 := by omega)
  all_goals kernel_rfl
theorem st7 (k t x y s : Nat) (hk : k < 6) (ht : t < 3) : ok0 (sqlP 7 k t x y s) = 0 := by
  obtain rfl | rfl | rfl | rfl | rfl | rfl : k = 0 ∨ k = 1 ∨ k = 2 ∨ k = 3 ∨ k = 4 ∨ k = 5 := by omega
  all_goals (obtain rfl | rfl | rfl : t = 0 ∨ t = 1 ∨ t = 2 := by omega)
  all_goals kernel_rfl
theorem st9 (k t x y s : Nat) (hk : k < 6) (ht : t < 3) : ok0 (sqlP 9 k t x y s) = 0 := by
  obtain rfl | rfl | rfl | rfl | rfl | rfl : k = 0 ∨ k = 1 ∨ k = 2 ∨ k = 3 ∨ k = 4 ∨ k = 5 := by omega
  all_goals (obtain rfl | rfl | rfl : t = 0 ∨ t = 1 ∨ t = 2 := by omega)
  all_goals kernel_rfl
theorem st10 (k t x y s : Nat) (hk : k < 6) (ht : t < 3) : ok0 (sqlP 10 k t x y s) = 0 := by
  obtain rfl | rfl | rfl | rfl | rfl | rfl : k = 0 ∨ k = 1 ∨ k = 2 ∨ k = 3 ∨ k = 4 ∨ k = 5 := by omega
  all_goals (obtain rfl | rfl | rfl : t = 0 ∨ t = 1 ∨ t = 2 := by omega)
  all_goals kernel_rfl
theorem st11 (k t x y s : Nat) (hk : k < 6) (ht : t < 3) : ok0 (sqlP 11 k t x y s) = 0 := by
  obtain rfl | rfl | rfl | rfl | rfl | rfl : k = 0 ∨ k = 1 ∨ k = 2 ∨ k = 3 ∨ k = 4 ∨ k = 5 := by omega
  all_goals (obtain rfl | rfl | rfl : t = 0 ∨ t = 1 ∨ t = 2 := by omega)
  all_goals kernel_rfl
theorem st12 (k t x y s : Nat) (ht : t < 3) : ok0 (sqlP 12 k t x y s) = 0 := by
  obtain rfl | rfl | rfl : t = 0 ∨ t = 1 ∨ t = 2 := by omega
  all_goals kernel_rfl
theorem st13 (k t x y s : Nat) : ok0 (sqlP 13 k t x y s) = 0 := by
  kernel_rfl
theorem st14 (k t x y s : Nat) (ht : t < 3) : ok0 (sqlP 14 k t x y s) = 0 := by
  obtain rfl | rfl | rfl : t = 0 ∨ t = 1 ∨ t = 2 := by omega
  all_goals kernel_rfl
theorem st15 (k t x y s : Nat) (ht : t < 3) : ok0 (sqlP 15 k t x y s) = 0 := by
  obtain rfl | rfl | rfl : t = 0 ∨ t = 1 ∨ t = 2 := by omega
  all_goals kernel_rfl
theorem st16 (k t x y s : Nat) (hs : s < 3) : ok0 (sqlP 16 k t x y s) = 0 := by
  obtain rfl | rfl | rfl : s = 0 ∨ s = 1 ∨ s = 2 := by omega
  all_goals kernel_rfl
theorem st17 (k t x y s : Nat) (hs : s < 3) : ok0 (sqlP 17 k t x y s) = 0 := by
  obtain rfl | rfl | rfl : s = 0 ∨ s = 1 ∨ s = 2 := by omega
  all_goals kernel_rfl
theorem st18 (k t x y s : Nat) : ok0 (sqlP 18 k t x y s) = 0 := by
  kernel_rfl
theorem st19 (k t x y s : Nat) : ok0 (sqlP 19 k t x y s) = 0 := by
  kernel_rfl
theorem st21 (k t x y s : Nat) (ht : t < 3) : ok0 (sqlP 21 k t x y s) = 0 := by
  obtain rfl | rfl | rfl : t = 0 ∨ t = 1 ∨ t = 2 := by omega
  all_goals kernel_rfl
theorem st22 (k t x y s : Nat) (ht : t < 3) : ok0 (sqlP 22 k t x y s) = 0 := by
  obtain rfl | rfl | rfl : t = 0 ∨ t = 1 ∨ t = 2 := by omega
  all_goals kernel_rfl
theorem st23 (k t x y s : Nat) (hk : k < 6) (ht : t < 3) : ok0 (sqlP 23 k t x y s) = 0 := by
  obtain rfl | rfl | rfl | rfl | rfl | rfl : k = 0 ∨ k = 1 ∨ k = 2 ∨ k = 3 ∨ k = 4 ∨ k = 5 := by omega
  all_goals (obtain rfl | rfl | rfl : t = 0 ∨ t = 1 ∨ t = 2 := by omega)
  all_goals kernel_rfl
theorem sql_ok (n k t x y s : Nat) (hn : n < 24) (hk : k < 6) (ht : t < 3) (hs : s < 3) : ok0 (sqlP n k t x y s) = 0 := by
  by_cases h0 : n = 0
  · rw [h0]; exact st0 k t x y s ht
  by_cases h1 : n = 1
  · rw [h1]; exact st0 k t x y s ht
  by_cases h2 : n = 2
  · rw [h2]; exact st0 k t x y s ht
  by_cases h3 : n = 3
  · rw [h3]; exact st3 k t x y s ht
  by_cases h4 : n = 4
  · rw [h4]; exact st4 k t x y s hk ht
  by_cases h5 : n = 5
  · rw [h5]; exact st5 k t x y s hk ht
  by_cases h6 : n = 6
  · rw [h6]; exact st6 k t x y s hk ht
  by_cases h7 : n = 7
  · rw [h7]; exact st7 k t x y s hk ht
  by_cases h8 : n = 8
  · rw [h8]; exact st7 k t x y s hk ht
  by_cases h9 : n = 9
  · rw [h9]; exact st9 k t x y s hk ht
  by_cases h10 : n = 10
  · rw [h10]; exact st10 k t x y s hk ht
  by_cases h11 : n = 11
  · rw [h11]; exact st11 k t x y s hk ht
  by_cases h12 : n = 12
  · rw [h12]; exact st12 k t x y s ht
  by_cases h13 : n = 13
  · rw [h13]; exact st13 k t x y s
  by_cases h14 : n = 14
  · rw [h14]; exact st14 k t x y s ht
  by_cases h15 : n = 15
  · rw [h15]; exact st15 k t x y s ht
  by_cases h16 : n = 16
  · rw [h16]; exact st16 k t x y s hs
  by_cases h17 : n = 17
  · rw [h17]; exact st17 k t x y s hs
  by_cases h18 : n = 18
  · rw [h18]; exact st18 k t x y s
  by_cases h19 : n = 19
  · rw [h19]; exact st19 k t x y s
  by_cases h20 : n = 20
  · rw [h20]; exact st19 k t x y s
  by_cases h21 : n = 21
  · rw [h21]; exact st21 k t x y s ht
  by_cases h22 : n = 22
  · rw [h22]; exact st22 k t x y s ht
  by_cases h23 : n = 23
  · rw [h23]; exact st23 k t x y s hk ht
  omega
end Go.Proofs.YtfnceamkephpjaaGreat.pg
