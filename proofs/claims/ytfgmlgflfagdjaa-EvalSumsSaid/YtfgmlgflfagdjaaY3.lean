/- The document's parser: must. Printed by geny.py. -/
import Derived.Test.YtfgmlgflfagdjaaY2
namespace Go.Proofs.Ytfgmlgflfagdjaa.ps
open Go.ChangeShapes Go.WideShapes Go.ChangeAt Go.RowKit Go.Proofs.Ytfgmlgflfagdjaa.lib Go.Proofs.Ytfgmlgflfagdjaa.val Go.Proofs.Ytfgmlgflfagdjaa.lx Go.Proofs.Ytfgmlgflfagdjaa.ev
set_option linter.unusedVariables false

set_option maxRecDepth 1000000 in
set_option maxHeartbeats 4000000 in
theorem pmust_ (s : List UInt8) (A : Option Addr) (c : Nat) {w0 w : World} {g : Nat} {W : List Wd} {Aw : Option Addr} {cw : Nat} {p : Ps} {Ae : Option Addr} {ce : Nat} (h : PrB w0 w g W Aw cw p Ae ce) (hr : Row w 0 A 1 c [.string ⟨s.toArray⟩]) :
    Calls Try.prog 88 #[.pointer (some ⟨g, 0, none⟩), .slice A 1 c] w fun e w' => e = .returned (.tuple #[]) ∧ PrB w0 w' g W Aw cw (mustP W s p) Ae ce := by
  have H := Lib.hid h
  obtain ⟨b, o, rfl, _, _, _⟩ := hr.some_ (by decide)
  have q0 := hr.at_ (i := 0) (u := .string ⟨s.toArray⟩) rfl
  simp only [Nat.add_zero] at q0
  have HIS := Lib.hid (pis_ s h)
  have HM := Lib.hid (show mustP W s p = if okIs W s p = true then stepP p else failP 6 p from rfl)
  obtain ⟨okb, hok⟩ : ∃ b, okIs W s p = b := ⟨_, rfl⟩
  have HIS := HIS.out
  have HM := HM.out
  rw [hok] at HIS HM
  have HIS := Lib.hid HIS
  have HM := Lib.hid HM
  clear h hr hok
  go_enter Try.func88, Try.ntmps88
  go_wp2_with fail
  go_loopw [4] (fun i w' => (i = .int .i64 0 ∧ w = w') ∨ (i = .int .i64 1 ∧ PrB w0 w' g W Aw cw (mustP W s p) Ae ce)) (fun i _ => 1 - (intOf i).toNat)
  case atStart => exact .inl ⟨rfl, rfl⟩
  case round =>
    rcases hrel with ⟨rfl, rfl⟩ | ⟨rfl, h2⟩
    · go_wp2_with fail
      refine (HIS.out).mono ?_
      rintro e w2 ⟨rfl, h2⟩
      clear q0
      cases okb with
      | true =>
        have h3 : PrB w0 w2 g W Aw cw (mustP W s p) Ae ce := by rw [HM.out, if_pos rfl]; exact h2
        have H3 := Lib.hid h3
        clear h2 h3
        go_wp2
        go_roundw
        case rel => exact .inr ⟨rfl, H3.out⟩
        case measure => simp [intOf]
      | false =>
        have h3 : PrB w0 w2 g W Aw cw p Ae ce := h2
        have HF := Lib.hid (pfail_ 6 h3)
        clear h2 h3
        go_wp2_with fail
        refine (HF.out).mono ?_
        rintro e w3 ⟨rfl, h4⟩
        have h3 : PrB w0 w3 g W Aw cw (mustP W s p) Ae ce := by rw [HM.out, if_neg (by simp)]; exact h4
        have H3 := Lib.hid h3
        clear h4 h3
        go_wp2
        go_roundw
        case rel => exact .inr ⟨rfl, H3.out⟩
        case measure => simp [intOf]
    · have H2 := Lib.hid h2
      clear h2 q0
      go_wp2
      first | go_end0 | refine bodyPost_ret (results_none rfl _ _ _) rfl ?_
      exact ⟨rfl, H2.out⟩
end Go.Proofs.Ytfgmlgflfagdjaa.ps
