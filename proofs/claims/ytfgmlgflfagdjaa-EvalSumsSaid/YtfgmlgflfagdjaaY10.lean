/- The document's parser: expr. Printed by geny.py. -/
import Derived.Test.YtfgmlgflfagdjaaY9
namespace Go.Proofs.Ytfgmlgflfagdjaa.ps
open Go.ChangeShapes Go.WideShapes Go.ChangeAt Go.RowKit Go.Proofs.Ytfgmlgflfagdjaa.lib Go.Proofs.Ytfgmlgflfagdjaa.val Go.Proofs.Ytfgmlgflfagdjaa.lx Go.Proofs.Ytfgmlgflfagdjaa.ev
set_option linter.unusedVariables false

theorem stepL_small {l r : List UInt8} {w : Wd} (h : stepL l = .put w r) : w.s.length ≤ l.length + 60 := by
  cases l with
  | nil => cases h
  | cons c l =>
    rw [stepL] at h
    by_cases h1 : blankB c = true
    · rw [if_pos h1] at h; cases h
    rw [if_neg h1] at h
    by_cases h2 : letB c = true
    · rw [if_pos h2] at h
      injection h with h _
      subst h
      have := tw_bound nameB (c :: l)
      show ((c :: l).takeWhile nameB).length ≤ _
      omega
    rw [if_neg h2] at h
    by_cases h3 : digB c = true
    · rw [if_pos h3] at h
      unfold numSt at h
      split at h
      · injection h with h _; subst h; exact Nat.zero_le _
      · cases h
    rw [if_neg h3] at h
    by_cases h4 : c = 39
    · rw [if_pos h4] at h
      unfold textSt at h
      split at h
      · rename_i h0
        injection h with h _
        subst h
        have := textL_short l [] h0
        show (textL l []).2.1.length ≤ _
        omega
      · cases h
    rw [if_neg h4] at h
    by_cases h5 : twoB (c :: l) = true
    · rw [if_pos h5] at h
      injection h with h _
      subst h
      show ((c :: l).take 2).length ≤ _
      have := List.length_take_le 2 (c :: l)
      omega
    rw [if_neg h5] at h
    by_cases h6 : signB c = true
    · rw [if_pos h6] at h
      injection h with h _
      subst h
      show 1 ≤ _
      omega
    · rw [if_neg h6] at h; cases h
theorem goL_small : ∀ (f : Nat) (l : List UInt8) (out : List Wd) (B : Nat), l.length + 60 ≤ B → (∀ w ∈ out, w.s.length ≤ B) → ∀ w ∈ (goL f l out).2, w.s.length ≤ B
  | 0, [], out, B, _, ho => ho
  | f + 1, [], out, B, _, ho => ho
  | 0, c :: l, out, B, _, _ => fun w hw => by cases hw
  | f + 1, c :: l, out, B, hB, ho => by
    have hl := stepL_lt c l
    unfold goL
    cases hs : stepL (c :: l) with
    | skip r =>
      rw [hs] at hl
      simp only [St.lt] at hl
      exact goL_small f r out B (by omega) ho
    | put w r =>
      rw [hs] at hl
      simp only [St.lt] at hl
      refine goL_small f r _ B (by omega) (fun x hx => ?_)
      rcases List.mem_append.1 hx with hx | hx
      · exact ho x hx
      · rw [List.mem_singleton.1 hx]
        have := stepL_small hs
        omega
    | err e => intro w hw; cases hw
theorem goL_count' : ∀ (f : Nat) (l : List UInt8) (out : List Wd), (goL f l out).2.length ≤ out.length + l.length
  | 0, [], out => by show out.length ≤ _; simp
  | f + 1, [], out => by show out.length ≤ _; simp
  | 0, c :: l, out => by show 0 ≤ _; omega
  | f + 1, c :: l, out => by
    have hl := stepL_lt c l
    unfold goL
    cases hs : stepL (c :: l) with
    | skip r =>
      rw [hs] at hl
      have := goL_count' f r out
      simp only [St.lt, List.length_cons] at *
      omega
    | put w r =>
      rw [hs] at hl
      have := goL_count' f r (out ++ [w])
      simp only [St.lt, List.length_cons, List.length_append, List.length_nil] at *
      omega
    | err e => show 0 ≤ _; omega
/-- what Words says of a text that has words -/
def exprP (W : List Wd) (p : Ps) : Int × Ps := pr W (W.length * 9 + 9) 0 ⟨p.at_, p.err, []⟩
set_option maxRecDepth 1000000 in
set_option maxHeartbeats 4000000 in
theorem pexpr_ {w0 w : World} {g : Nat} {W : List Wd} {Aw : Option Addr} {cw : Nat} {p : Ps} {Ae : Option Addr} {ce : Nat} (h : PrB w0 w g W Aw cw p Ae ce) :
    Calls Try.prog 32 #[.pointer (some ⟨g, 0, none⟩)] w fun e w' => ∃ A c, e = .returned (.slice A (exprP W p).2.e.length c) ∧ PrB w0 w' g W Aw cw (exprP W p).2 A c := by
  have h5 : PrB w0 (w.setCell ⟨g, 3, none⟩ (.slice none 0 0)) g W Aw cw ⟨p.at_, p.err, []⟩ none 0 :=
    ⟨h.below.setCell (Nat.le_refl _) _, h.hg, h.row, by simpa using h.blk.set_ 3 (.slice none 0 0), World.ownsRow_nil _ _ _ _, h.lt, Nat.zero_le _, h.wok, h.wl, h.ws⟩
  have HC := Lib.hid ((rules_ W (W.length * 9 + 9)).1 w0 _ g Aw cw ⟨p.at_, p.err, []⟩ ⟨_, _, h5⟩ (by show (W.length - p.at_) * 9 + (9 - 0) ≤ _; omega))
  have q := four h.blk (Below.refl _ _)
  have f3 := h.blk.frozen 3
  clear h5 h
  obtain ⟨R, hR⟩ : ∃ R, exprP W p = R := ⟨_, rfl⟩
  have HC := HC.out
  rw [show pr W (W.length * 9 + 9) 0 ⟨p.at_, p.err, []⟩ = R from hR] at HC
  rw [hR]
  have HC := Lib.hid HC
  clear hR
  go_enter Try.func32, Try.ntmps32
  go_wp2_with fail
  clear q f3
  refine (HC.out).mono ?_
  rintro e w3 ⟨rfl, A3, c3, h3⟩
  have q := four h3.blk (Below.refl _ _)
  have H3 := Lib.hid h3
  clear h3
  go_wp2
  go_ret
  exact ⟨A3, c3, rfl, H3.out⟩
end Go.Proofs.Ytfgmlgflfagdjaa.ps
