/- Statements: row (something done for each of a row, parted by commas). -/
import Derived.Test.YtfnceamkephpjaaGreatQ3
namespace Go.Proofs.YtfnceamkephpjaaGreat.pg
open Go.ChangeShapes Go.WideShapes Go.ChangeAt Go.RowKit Go.Proofs.YtfnceamkephpjaaGreat.lib Go.Proofs.YtfnceamkephpjaaGreat.lx
set_option linter.unusedVariables false

theorem okIs_err {W : List Wd} {s : List UInt8} {p : Pp} (h : p.err ≠ 0) : okIs W s p = false := by
  unfold okIs
  rw [cur_err h]; rfl
theorem Pr.ecell {w : World} {g : Nat} {W : List Wd} {b : Nat} {p : Pp} (h : Pr w g W b p) : w.cell? ⟨g, 1, none⟩ = some (.int .i64 p.err) := by
  obtain ⟨a, n, c, y⟩ := h
  exact y.blk.cell 1
set_option maxRecDepth 100000 in
set_option maxHeartbeats 4000000 in
theorem row_ {σ : Type} (fs : Nat) (c0 c1 : Value) (W : List Wd) (do_ : σ → Pp → σ × Pp) (I : Nat → σ → Pp → World → Prop) (g b : Nat)
    (hent : ∀ args w, (callFunc fs args).run Tryz.prog w = .ok (.enter fs args) w)
    (hI : ∀ n s p w, I n s p w → Pr w g W b p) (hstep : ∀ n s p q w w', I n s p w → Pr w' g W b q → w.grownBy w' (some g) → I n s q w')
    (hdo : ∀ n s p w, n ≤ 6 → I n s p w → Calls Tryz.prog fs #[c0, c1] w fun e w' => e = .returned (.tuple #[]) ∧ I (n + 1) (do_ s p).1 (do_ s p).2 w')
    (s : σ) (p : Pp) (w : World) (h : I 0 s p w) :
    Calls Tryz.prog 50 #[.pointer (some ⟨g, 0, none⟩), .func (.func fs) #[] #[c0, c1]] w fun e w' => e = .returned (.tuple #[]) ∧ ∃ n, I n (rowAll W do_ s p).1 (rowAll W do_ s p).2 w' := by
  have HI := Lib.hid hI
  have HST := Lib.hid hstep
  have HDO := Lib.hid hdo
  obtain ⟨R, hR⟩ : ∃ R, rowAll W do_ s p = R := ⟨_, rfl⟩
  have hr := (show rowAll W do_ s p = match do_ s p with | (s', q) => rowP W do_ 6 1 s' q from rfl).symm.trans hR
  rw [hR]
  have hc := hdo 0 s p w (by omega) h
  obtain ⟨⟨s0, p0⟩, h0⟩ : ∃ X, do_ s p = X := ⟨_, rfl⟩
  rw [h0] at hr hc
  simp only at hr hc
  have HR := Lib.hid hr
  have HC := Lib.hid hc
  clear hI hstep hdo hR hr hc h0 h
  go_enter Tryz.func50, Tryz.ntmps50
  go_wp2_with fail
  refine (HC.out).mono ?_
  rintro e w2 ⟨rfl, h2⟩
  go_wp2_with fail
  go_loopw [4] (fun nv wr => ∃ (n : Nat) (s : σ) (q : Pp), nv = .int .i64 n ∧ 1 ≤ n ∧ n ≤ 6 ∧ Hid (R = rowP W do_ (7 - n) n s q) ∧ I n s q wr) (fun nv _ => 7 - (intOf nv).toNat)
  case atStart => exact ⟨1, s0, p0, rfl, by omega, by omega, Lib.hid HR.out.symm, h2⟩
  case round =>
    clear h2
    obtain ⟨n, s1, q, rfl, hn1, hn6, HL, hq⟩ := hrel
    have hpr := HI.out _ _ _ _ hq
    have hec := hpr.ecell
    have HQ := Lib.hid hq
    obtain ⟨m, hm⟩ : ∃ m, 7 - n = m + 1 := ⟨6 - n, by omega⟩
    have hl := HL.out
    rw [hm] at hl
    have hl2 := hl.trans (show rowP W do_ (m + 1) n s1 q = if okIs W [44] q = true then (if 6 ≤ n then (s1, failP 4 (stepP q)) else match do_ s1 (stepP q) with | (s', q') => rowP W do_ m (n + 1) s' q') else (s1, q) from rfl)
    have HL2 := Lib.hid hl2
    have HIS := Lib.hid (pis_ [44] hpr)
    have HER := Lib.hid (fun (e : q.err ≠ 0) => okIs_err (W := W) (s := [44]) e)
    replace HIS := HIS.out
    unfold isP at HIS
    obtain ⟨ok, hok⟩ : ∃ ok, okIs W [44] q = ok := ⟨_, rfl⟩
    replace HL2 := HL2.out
    replace HER := HER.out
    rw [hok] at HIS HL2 HER
    replace HIS := Lib.hid HIS
    replace HL2 := Lib.hid HL2
    replace HER := Lib.hid HER
    have HM := Lib.hid hm
    clear hl hl2 hok hpr hq hm
    by_cases he : q.err = 0
    case neg =>
      have hd : (q.err == 0) = false := by simpa using he
      obtain rfl : ok = false := HER.out he
      obtain rfl : R = (s1, q) := by rw [HL2.out, if_neg (by simp)]
      clear he
      go_wp2
      first | go_end0 | refine bodyPost_ret (results_none rfl _ _ _) rfl ?_
      exact ⟨rfl, _, HQ.out⟩
    have hd : (q.err == 0) = true := by simpa using he
    clear he
    go_wp2_with fail
    refine (HIS.out).mono ?_
    rintro e w3 ⟨rfl, h3, hg3⟩
    clear hec
    cases ok with
    | false =>
      obtain rfl : R = (s1, q) := by rw [HL2.out, if_neg (by simp)]
      have H3 := Lib.hid (HST.out _ _ _ _ _ _ HQ.out (show Pr w3 g W b q from h3) hg3)
      clear h3 hg3
      go_wp2
      first | go_end0 | refine bodyPost_ret (results_none rfl _ _ _) rfl ?_
      exact ⟨rfl, _, H3.out⟩
    | true =>
      have H3 := Lib.hid (HST.out _ _ _ _ _ _ HQ.out (show Pr w3 g W b (stepP q) from h3) hg3)
      replace HL2 := HL2.out
      rw [if_pos rfl] at HL2
      clear h3 hg3
      rcases Nat.lt_or_ge n 6 with hlt | hge
      case inr =>
        rw [if_pos hge] at HL2
        subst HL2
        have hd6 : decide ((6 : Int) ≤ (n : Int)) = true := by simp; omega
        have HF := Lib.hid (pfail_ 4 (HI.out _ _ _ _ H3.out))
        clear hge
        go_wp2_with fail
        refine (HF.out).mono ?_
        rintro e w4 ⟨rfl, h4, hg4⟩
        have H4 := Lib.hid (HST.out _ _ _ _ _ _ H3.out h4 hg4)
        clear h4 hg4
        go_wp2
        first | go_end0 | refine bodyPost_ret (results_none rfl _ _ _) rfl ?_
        exact ⟨rfl, _, H4.out⟩
      have hd6 : decide ((6 : Int) ≤ (n : Int)) = false := by simp; omega
      rw [if_neg (by omega)] at HL2
      have hc := HDO.out n _ _ _ hn6 H3.out
      obtain ⟨⟨s2, q2⟩, hs2⟩ : ∃ X, do_ s1 (stepP q) = X := ⟨_, rfl⟩
      rw [hs2] at HL2 hc
      simp only at HL2 hc
      have HL3 := Lib.hid HL2
      have HC2 := Lib.hid hc
      clear HL2 hc hs2
      go_wp2_with fail
      refine (HC2.out).mono ?_
      rintro e w4 ⟨rfl, h4⟩
      have H4 := Lib.hid h4
      clear h4
      go_wp2
      go_roundw
      case rel => exact ⟨n + 1, s2, q2, by go_num, by omega, by omega, Lib.hid (by rw [show 7 - (n + 1) = m by have := HM.out; omega]; exact HL3.out), H4.out⟩
      case measure => simp [intOf]; omega
end Go.Proofs.YtfnceamkephpjaaGreat.pg
