/- What the walks of the table's laws share. -/
import Derived.Test.YtnlmbjmgmofeiaaTv
import Derived.Test.YtnlmbjmgmofeiaaT14
namespace Go.Proofs.Ytnlmbjmgmofeiaa.tb
open Go.ChangeShapes Go.WideShapes Go.ChangeAt Go.RowKit Go.Proofs.Ytnlmbjmgmofeiaa.lib Go.Proofs.Ytnlmbjmgmofeiaa.val
set_option linter.unusedVariables false

theorem small_of {cs : List Col} {r : List V} (h : fitsL cs r = 0) : Small r := by
  intro v hv
  obtain ⟨i, hi, hv⟩ := List.getElem_of_mem hv
  obtain ⟨cc, _, hch, _⟩ := fits_at h (by rw [List.getElem?_eq_getElem hi, hv])
  have := (chk_form hch).2.2.2.2.2
  unfold maxLen; omega
theorem cmp_eq {a b : V} (h : cmpV a b = 0) : a = b := by
  have h := (cmpV_zero a b).1 h
  obtain ⟨a0, a1, a2⟩ := a
  obtain ⟨b0, b1, b2⟩ := b
  unfold vEq at h
  simp only [Bool.and_eq_true, beq_iff_eq, beqBA] at h
  obtain ⟨h1, h2, h3⟩ := h
  subst h1 h2 h3
  rfl
/-- what a row is, that was made to fit -/
structure RowI (S : Sch) (r : List V) (kv : V) : Prop where
  fit : fitsL S.cols r = 0
  small : Small r
  key : r[S.key]? = some kv
  keyOf : keyOf S.key r = kv
  chk : vchk kv = 0
theorem row_i {S : Sch} (hS : SOk S) (x : Int) : ∃ kv, RowI S (fitL S.cols x) kv := by
  have hf := fit_fits hS.kinds x
  obtain ⟨kv, h1, h2, h3⟩ := key_chk hS.key hf
  exact ⟨kv, hf, small_of hf, h1, h2, h3⟩
theorem RowI.len {S : Sch} {r : List V} {kv : V} (h : RowI S r kv) : r.length = S.cols.length := fits_len h.fit
/-- a table made of what a block holds -/
theorem TabR.of {w : World} {S : Sch} {rows : List (List V)} {A A' : Option Addr} {n c n' c' : Nat} (hC : Cs w 0 A n c S.cols) (hR : Rs w 0 A' n' c' rows) (hF : Fine A') : TabR w 0 (.agg (tabA S A n c A' n' c')) S rows := ⟨_, _, _, _, _, _, rfl, hC, hR, hF⟩
end Go.Proofs.Ytnlmbjmgmofeiaa.tb
