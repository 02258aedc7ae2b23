/- An argument that is a slice of acts. -/
import Derived.Test.YtlfonenjgchklaaM13
import Derived.Deep.Slices
import Derived.Lib.SmallJoins
namespace Go.Proofs.Ytlfonenjgchklaa.lk
open Go.ChangeShapes Go.WideShapes Go.ChangeAt Go.RowKit Go.Proofs.Ytlfonenjgchklaa.lib Go.Deep Go.Joins
set_option linter.unusedVariables false

instance : Inhabited Ac := ⟨⟨0, 0, 0, false⟩⟩
/-- acts in a block -/
def Acts (w : World) (A : Option Addr) (l : List Ac) : Prop := 0 < l.length → ∃ b off, A = some ⟨b, off, none⟩ ∧ b < w.heap.size ∧ ∀ (i : Nat) a, l[i]? = some a →
  w.cell? ⟨b, off + i * 4, none⟩ = some (.int .i64 a.k) ∧ w.cell? ⟨b, off + i * 4 + 1, none⟩ = some (.int .i64 a.s) ∧ w.cell? ⟨b, off + i * 4 + 2, none⟩ = some (.int .i64 a.t) ∧ w.cell? ⟨b, off + i * 4 + 3, none⟩ = some (.bool a.x)
theorem Acts.below {w w' : World} {B : Nat} {A : Option Addr} {l : List Ac} (h : Acts w A l) (hb : Below B w w') (hB : w.heap.size ≤ B) : Acts w' A l := fun hn => by
  obtain ⟨b, off, e, hlt, hc⟩ := h hn
  have hlt' := Nat.lt_of_lt_of_le hlt hB
  refine ⟨b, off, e, Nat.lt_of_lt_of_le hlt hb.size, fun i a ha => ?_⟩
  obtain ⟨h1, h2, h3, h4⟩ := hc i a ha
  exact ⟨(hb.cell (by exact hlt')).trans h1, (hb.cell (by exact hlt')).trans h2, (hb.cell (by exact hlt')).trans h3, (hb.cell (by exact hlt')).trans h4⟩
theorem cellsAct : Try.prog.cellsOf 32 = 4 := by kernel_rfl
theorem cellsInt : Try.prog.cellsOf 3 = 1 := by kernel_rfl
theorem cellsBool : Try.prog.cellsOf 4 = 1 := by kernel_rfl
theorem acts_arg {H : Type} {enc : TypeId × Value → H} {W : World} {base : Nat} {v : Value} {d : DataW H} {p : List MemPlace}
    (hval : Value.okWide Try.prog W .any base 22 v) (h : DataW.Trod enc Try.prog W 0 (fun _ => true) true 22 v d p) :
    ∃ (A : Option Addr) (n c : Nat) (l : List Ac), v = .slice A n c ∧ l.length = n ∧ n ≤ maxLen ∧ Acts W A l := by
  obtain ⟨a, len, cap, rfl⟩ := okWide_slice Try.underlying22 hval
  obtain ⟨fuel, hf⟩ := h
  rcases open_slice Try.underlying22 hf with ⟨hcs, _⟩ | ⟨a', len', cap', m, n, D, Pl, hcs, _, hl, hm, hmm, _, hx⟩
  · simp [Value.cells] at hcs
    obtain ⟨rfl, rfl, rfl⟩ := hcs
    exact ⟨none, 0, 0, [], rfl, rfl, Nat.zero_le _, fun h => absurd h (by simp)⟩
  · simp [Value.cells] at hcs
    obtain ⟨rfl, rfl, rfl⟩ := hcs
    simp only [if_true] at hmm
    have each : ∀ i, i < len → ∃ q : Ac, W.cell? (a'.add (i * 4)) = some (.int .i64 q.k) ∧ W.cell? (a'.add (i * 4 + 1)) = some (.int .i64 q.s) ∧ W.cell? (a'.add (i * 4 + 2)) = some (.int .i64 q.t) ∧ W.cell? (a'.add (i * 4 + 3)) = some (.bool q.x) := by
      intro i hi
      obtain ⟨cs', h1, h2⟩ := hx i (by omega)
      rw [cellsAct] at h1
      obtain ⟨_, hlen, hcell⟩ := World.cells?_some h1
      obtain ⟨y0, y1, y2, y3, k, _, hcl, g0, g1, g2, g3⟩ := trod_struct4 Try.underlying32 h2
      match cs', hlen with
      | [v0, v1, v2, v3], _ =>
        simp only [cellsInt, cellsBool] at g0 g1 g2 g3
        obtain ⟨z0, e0, _, _⟩ := DataW.trod_int Try.underlying3 g0
        obtain ⟨z1, e1, _, _⟩ := DataW.trod_int Try.underlying3 g1
        obtain ⟨z2, e2, _, _⟩ := DataW.trod_int Try.underlying3 g2
        obtain ⟨z3, e3, _⟩ := DataW.trod_bool Try.underlying4 g3
        simp at e0 e1 e2 e3
        subst e0 e1 e2 e3
        have c0 := hcell 0 (by omega)
        have c1 := hcell 1 (by omega)
        have c2 := hcell 2 (by omega)
        have c3 := hcell 3 (by omega)
        rw [add_add] at c0 c1 c2 c3
        exact ⟨⟨z0, z1, z2, z3⟩, by simpa using c0, by simpa using c1, by simpa using c2, by simpa using c3⟩
    obtain ⟨q, hq⟩ := choose_lt each
    refine ⟨some a', len, cap, (List.range len).map q, rfl, by simp, Nat.le_trans hl hm, fun hn => ?_⟩
    obtain ⟨ab, ao, spot⟩ := a'
    have hn0 : 0 < len := by simpa using hn
    have h0 := (hq 0 hn0).1
    have hspot : spot = none := by simpa [Addr.add] using World.cell?_spot h0
    subst hspot
    refine ⟨ab, ao, rfl, ?_, fun i x hi => ?_⟩
    · have := World.block_lt_of_cell? W _ h0
      simpa [Addr.add] using this
    · have hil : i < len := by simpa using (List.getElem?_eq_some_iff.1 hi).1
      rw [List.getElem?_map, List.getElem?_range hil] at hi
      injection hi with hi
      subst hi
      obtain ⟨h1, h2, h3, h4⟩ := hq i hil
      rw [Addr.add_lit] at h1 h2 h3 h4
      exact ⟨h1, by rw [Nat.add_assoc]; exact h2, by rw [Nat.add_assoc]; exact h3, by rw [Nat.add_assoc]; exact h4⟩
end Go.Proofs.Ytlfonenjgchklaa.lk
