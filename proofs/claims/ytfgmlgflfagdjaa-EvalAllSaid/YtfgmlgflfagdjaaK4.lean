/- Contracts: Index, Contains (of strings), sign. -/
import Derived.Test.YtfgmlgflfagdjaaK3
namespace Go.Proofs.Ytfgmlgflfagdjaa.lx
open Go.ChangeShapes Go.WideShapes Go.ChangeAt Go.RowKit Go.Proofs.Ytfgmlgflfagdjaa.lib
set_option linter.unusedVariables false

theorem beqBA (a b : ByteArray) : (a == b) = true ↔ a = b := by
  constructor
  · intro h
    apply ByteArray.ext
    exact eq_of_beq (α := Array UInt8) h
  · rintro rfl
    exact beq_self_eq_true a.data
theorem mk_beq (l m : List UInt8) : ((⟨l.toArray⟩ : ByteArray) == ⟨m.toArray⟩) = (l == m) := by
  rw [Bool.eq_iff_iff, beqBA, beq_iff_eq]
  constructor
  · intro h
    have := congrArg (fun b : ByteArray => b.data.toList) h
    simpa using this
  · rintro rfl; rfl
theorem tl_beq (a b : ByteArray) : (a.toList == b.toList) = (a == b) := by
  rw [Bool.eq_iff_iff, beqBA, beq_iff_eq, ByteArray.toList_eq, ByteArray.toList_eq]
  exact ⟨fun h => bytes_inj h, fun h => by rw [h]⟩
def hasB (xs : List ByteArray) (s : ByteArray) : Bool := xs.any (fun x => s == x)
def SomeIdx (p : Bool) (w : World) (e : Ending) (w' : World) : Prop := ∃ k : Int, e = .returned (.int .i64 k) ∧ decide (0 ≤ k) = p ∧ w = w'
theorem take_mk (l : List UInt8) (n : Nat) : (ByteArray.mk l.toArray).extract 0 n = ⟨(l.take n).toArray⟩ := by
  apply ByteArray.ext
  rw [ByteArray.data_extract]
  simp
theorem two_has (a b : UInt8) (r : List UInt8) : hasB [(⟨#[60, 62]⟩ : ByteArray), ⟨#[60, 61]⟩, ⟨#[62, 61]⟩] ⟨((a :: b :: r).take 2).toArray⟩ = twoB (a :: b :: r) := by
  have e : ∀ x y : UInt8, ((⟨((a :: b :: r).take 2).toArray⟩ : ByteArray) == ⟨#[x, y]⟩) = (a == x && b == y) := by
    intro x y
    have := mk_beq ((a :: b :: r).take 2) [x, y]
    simpa using this
  unfold twoB hasB
  simp only [List.any_cons, List.any_nil, e, Bool.or_false]
  rw [Bool.or_assoc]

def two1 (p : Bool) : Nat := if p then 2 else 1
theorem three_str {w : World} {b : Nat} {t : TypeId} (h : Blk w b t #[.string ⟨#[60, 62]⟩, .string ⟨#[60, 61]⟩, .string ⟨#[62, 61]⟩]) : ∀ (i : Nat) x, [(⟨#[60, 62]⟩ : ByteArray), ⟨#[60, 61]⟩, ⟨#[62, 61]⟩][i]? = some x → w.cell? ⟨b, i, none⟩ = some (.string x) := by
  intro i x hx
  have hi : i < 3 := (List.getElem?_eq_some_iff.1 hx).1
  rw [h.cell]
  match i, hi, hx with
  | 0, _, hx => injection hx with hx; subst hx; rfl
  | 1, _, hx => injection hx with hx; subst hx; rfl
  | 2, _, hx => injection hx with hx; subst hx; rfl

def signSt (l : List UInt8) : St := .put ⟨4, 0, l.take (two1 (twoB l))⟩ (l.drop (two1 (twoB l)))
end Go.Proofs.Ytfgmlgflfagdjaa.lx
