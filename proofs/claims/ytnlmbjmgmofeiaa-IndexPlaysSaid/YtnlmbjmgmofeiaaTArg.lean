/- Arguments of the table's laws: a schema, bools, numbers. -/
import Derived.Test.YtnlmbjmgmofeiaaT1
import Derived.Test.YtnlmbjmgmofeiaaOpen
import Derived.Deep.Strs
namespace Go.Proofs.Ytnlmbjmgmofeiaa.tb
open Go.ChangeShapes Go.WideShapes Go.ChangeAt Go.RowKit Go.Joins Go.Deep Go.Proofs.Ytnlmbjmgmofeiaa.lib Go.Proofs.Ytnlmbjmgmofeiaa.val
set_option linter.unusedVariables false

instance : Inhabited V := ⟨zV⟩
instance : Inhabited Col := ⟨⟨ByteArray.empty, 0, false⟩⟩
theorem cellsCol : Try.prog.cellsOf 66 = 3 := by kernel_rfl
theorem cellsVal : Try.prog.cellsOf 41 = 3 := by kernel_rfl
theorem cellsSch : Try.prog.cellsOf 24 = 4 := by kernel_rfl
theorem cellsInt : Try.prog.cellsOf 3 = 1 := by kernel_rfl
theorem cellsBool : Try.prog.cellsOf 4 = 1 := by kernel_rfl
theorem cellsStr : Try.prog.cellsOf 9 = 1 := by kernel_rfl
def ok64 (n : Int) : Prop := -9223372036854775808 ≤ n ∧ n ≤ 9223372036854775807
structure RawC (c : Col) : Prop where
  s : c.name.size ≤ maxLen
  k : ok64 c.kind
structure RawV (v : V) : Prop where
  k : ok64 v.k
  n : ok64 v.n
  s : v.s.size ≤ maxLen

section
variable {H : Type} {enc : TypeId × Value → H} {W : World} {spare : Nat → Bool} {held : Bool}
theorem decC (n : Nat) (cs : List Value) (D : DataW H × List MemPlace) (hl : cs.length = 3) (h : DataW.trod enc Try.prog W 0 spare held n 66 cs = some D) : ∃ x, cs = encC x ∧ RawC x := by
  obtain ⟨y0, y1, y2, m, _, hcl, g0, g1, g2⟩ := trod_struct3 Try.underlying66 h
  obtain ⟨v0, v1, v2, rfl⟩ := list3 hl
  simp only [cellsInt, cellsBool, cellsStr] at g0 g1 g2
  obtain ⟨z0, e0, _, h0⟩ := DataW.trod_string Try.underlying9 g0
  obtain ⟨z1, e1, _, h1⟩ := DataW.trod_int Try.underlying3 g1
  obtain ⟨z2, e2, _⟩ := DataW.trod_bool Try.underlying4 g2
  simp at e0 e1 e2
  subst e0 e1 e2
  exact ⟨⟨z0, z1, z2⟩, rfl, h0, bd64 h1⟩
theorem decV (n : Nat) (cs : List Value) (D : DataW H × List MemPlace) (hl : cs.length = 3) (h : DataW.trod enc Try.prog W 0 spare held n 41 cs = some D) : ∃ x, cs = encV x ∧ RawV x := by
  obtain ⟨y0, y1, y2, m, _, hcl, g0, g1, g2⟩ := trod_struct3 Try.underlying41 h
  obtain ⟨v0, v1, v2, rfl⟩ := list3 hl
  simp only [cellsInt, cellsStr] at g0 g1 g2
  obtain ⟨z0, e0, _, h0⟩ := DataW.trod_int Try.underlying3 g0
  obtain ⟨z1, e1, _, h1⟩ := DataW.trod_int Try.underlying3 g1
  obtain ⟨z2, e2, _, h2⟩ := DataW.trod_string Try.underlying9 g2
  simp at e0 e1 e2
  subst e0 e1 e2
  exact ⟨⟨z0, z1, z2⟩, rfl, bd64 h0, bd64 h1, h2⟩
set_option maxRecDepth 100000 in
theorem sch_arg {v : Value} {d : DataW H} {p : List MemPlace} {base : Nat} (hval : Value.okWide Try.prog W .any base 24 v) (h : DataW.Trod enc Try.prog W 0 spare held 24 v d p) :
    ∃ s A n c l key only, v = .agg #[.string s, .slice A n c, .int .i64 key, .bool only] ∧ s.size ≤ maxLen ∧ Cs W 0 A n c l ∧ n ≤ maxLen ∧ (∀ x ∈ l, RawC x) ∧ ok64 key := by
  obtain ⟨v0, v1, v2, v3, y0, y1, y2, y3, m, rfl, rfl, rfl, h0, h1, h2, h3⟩ := open_agg4 Try.underlying24 (by kernel_rfl) cellsSch hval h
  obtain ⟨s, e0, _, hs⟩ := DataW.trod_string Try.underlying9 h0
  obtain ⟨k, e2, _, hk⟩ := DataW.trod_int Try.underlying3 h2
  obtain ⟨o, e3, _⟩ := DataW.trod_bool Try.underlying4 h3
  obtain ⟨A, n, c, l, e1, hl, hc, hnc, hr, hp⟩ := open_row (α := Col) Try.underlying22 3 cellsCol (by decide) encC RawC kC decC h1
  simp at e0 e1 e2 e3
  subst e0 e1 e2 e3
  exact ⟨s, A, n, c, l, k, o, rfl, hs, ⟨hr, hl⟩, Nat.le_trans hnc hc, hp, bd64 hk⟩
def encI (z : Int) : List Value := [.int .i64 z]
def encB (b : Bool) : List Value := [.bool b]
set_option maxRecDepth 100000 in
theorem ints_row {v : Value} {d : DataW H} {p : List MemPlace} {base : Nat} (hval : Value.okWide Try.prog W .any base 25 v) (h : DataW.Trod enc Try.prog W 0 spare held 25 v d p) :
    ∃ A n c l, v = .slice A n c ∧ Row W 0 A n c (flatK encI l) ∧ l.length = n ∧ n ≤ maxLen ∧ ∀ x ∈ l, ok64 x := by
  obtain ⟨a, len, cap, rfl⟩ := okWide_slice Try.underlying25 hval
  obtain ⟨fuel, hf⟩ := h
  obtain ⟨A, n, c, l, e1, hl, hc, hnc, hr, hp⟩ := open_row (α := Int) Try.underlying25 1 cellsInt (by decide) encI ok64 (fun _ => rfl) (fun n cs D hl h => by
    obtain ⟨v0, rfl⟩ := list1 hl
    obtain ⟨z0, e0, _, h0⟩ := DataW.trod_int Try.underlying3 h
    simp at e0
    subst e0
    exact ⟨z0, rfl, bd64 h0⟩) hf
  simp [Value.cells] at e1
  obtain ⟨rfl, rfl, rfl⟩ := e1
  exact ⟨a, len, cap, l, rfl, hr, hl, Nat.le_trans hnc hc, hp⟩
set_option maxRecDepth 100000 in
theorem bools_row {v : Value} {d : DataW H} {p : List MemPlace} {base : Nat} (hval : Value.okWide Try.prog W .any base 50 v) (h : DataW.Trod enc Try.prog W 0 spare held 50 v d p) :
    ∃ A n c l, v = .slice A n c ∧ Row W 0 A n c (flatK encB l) ∧ l.length = n ∧ n ≤ maxLen := by
  obtain ⟨a, len, cap, rfl⟩ := okWide_slice Try.underlying50 hval
  obtain ⟨fuel, hf⟩ := h
  obtain ⟨A, n, c, l, e1, hl, hc, hnc, hr, hp⟩ := open_row (α := Bool) Try.underlying50 1 cellsBool (by decide) encB (fun _ => True) (fun _ => rfl) (fun n cs D hl h => by
    obtain ⟨v0, rfl⟩ := list1 hl
    obtain ⟨z0, e0, _⟩ := DataW.trod_bool Try.underlying4 h
    simp at e0
    subst e0
    exact ⟨z0, rfl, trivial⟩) hf
  simp [Value.cells] at e1
  obtain ⟨rfl, rfl, rfl⟩ := e1
  exact ⟨a, len, cap, l, rfl, hr, hl, Nat.le_trans hnc hc⟩
end
end Go.Proofs.Ytnlmbjmgmofeiaa.tb
