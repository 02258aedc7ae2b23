/- Arguments that are slices of values; good values; the law's Row. -/
import Derived.Test.YtfgmlgflfagdjaaV1
import Derived.Test.YtfgmlgflfagdjaaC2
import Derived.Deep.Slices
import Derived.Deep.Strs
import Derived.Lib.SmallJoins
import Derived.Deep.CutRange
namespace Go.Proofs.Ytfgmlgflfagdjaa.ev
open Go.ChangeShapes Go.WideShapes Go.ChangeAt Go.RowKit Go.Proofs.Ytfgmlgflfagdjaa.lib Go.Proofs.Ytfgmlgflfagdjaa.val Go.Deep Go.Joins
set_option linter.unusedVariables false

instance : Inhabited V := ⟨nul⟩
/-- a value as it may come: numbers of 64 bits, a text of any length -/
def Raw (v : V) : Prop := ok64 v.k ∧ ok64 v.n ∧ v.s.size ≤ maxLen
theorem cellsVal : Try.prog.cellsOf 30 = 3 := by kernel_rfl
theorem cellsI : Try.prog.cellsOf 3 = 1 := by kernel_rfl
theorem cellsS : Try.prog.cellsOf 9 = 1 := by kernel_rfl
set_option maxRecDepth 100000 in
theorem vals_arg {H : Type} {enc : TypeId × Value → H} {W : World} {base : Nat} {v : Value} {d : DataW H} {p : List MemPlace}
    (hval : Value.okWide Try.prog W .any base 25 v) (h : DataW.Trod enc Try.prog W 0 (fun _ => true) true 25 v d p) :
    ∃ (A : Option Addr) (n c : Nat) (l : List V), v = .slice A n c ∧ l.length = n ∧ n ≤ maxLen ∧ (∀ x ∈ l, Raw x) ∧ Vals W W.heap.size A l := by
  obtain ⟨a, len, cap, rfl⟩ := okWide_slice Try.underlying25 hval
  obtain ⟨fuel, hf⟩ := h
  rcases open_slice Try.underlying25 hf with ⟨hcs, _⟩ | ⟨a', len', cap', m, n, D, Pl, hcs, _, hl, hm, hmm, _, hx⟩
  · simp [Value.cells] at hcs
    obtain ⟨rfl, rfl, rfl⟩ := hcs
    exact ⟨none, 0, 0, [], rfl, rfl, Nat.zero_le _, fun x hx => (by cases hx), fun h => absurd h (by simp)⟩
  · simp [Value.cells] at hcs
    obtain ⟨rfl, rfl, rfl⟩ := hcs
    simp only [if_true] at hmm
    have each : ∀ i, i < len → ∃ q : V, (W.cell? (a'.add (i * 3)) = some (.int .i64 q.k) ∧ W.cell? (a'.add (i * 3 + 1)) = some (.int .i64 q.n) ∧ W.cell? (a'.add (i * 3 + 2)) = some (.string q.s)) ∧ Raw q := by
      intro i hi
      obtain ⟨cs', h1, h2⟩ := hx i (by omega)
      rw [cellsVal] at h1
      obtain ⟨_, hlen, hcell⟩ := World.cells?_some h1
      obtain ⟨y0, y1, y2, k, _, hcl, g0, g1, g2⟩ := trod_struct3 Try.underlying30 h2
      match cs', hlen with
      | [v0, v1, v2], _ =>
        simp only [cellsI, cellsS] at g0 g1 g2
        obtain ⟨z0, e0, _, b0⟩ := DataW.trod_int Try.underlying3 g0
        obtain ⟨z1, e1, _, b1⟩ := DataW.trod_int Try.underlying3 g1
        obtain ⟨z2, e2, _, b2⟩ := DataW.trod_string Try.underlying9 g2
        simp at e0 e1 e2
        subst e0 e1 e2
        have c0 := hcell 0 (by omega)
        have c1 := hcell 1 (by omega)
        have c2 := hcell 2 (by omega)
        rw [add_add] at c0 c1 c2
        exact ⟨⟨z0, z1, z2⟩, ⟨by simpa using c0, by simpa using c1, by simpa using c2⟩, bd64 b0, bd64 b1, b2⟩
    obtain ⟨q, hq⟩ := choose_lt each
    refine ⟨some a', len, cap, (List.range len).map q, rfl, by simp, Nat.le_trans hl hm, fun x hx => ?_, fun hn => ?_⟩
    · obtain ⟨i, hi, rfl⟩ := List.mem_map.1 hx
      exact (hq i (List.mem_range.1 hi)).2
    · obtain ⟨ab, ao, spot⟩ := a'
      have hn0 : 0 < len := by simpa using hn
      have h0 := (hq 0 hn0).1.1
      have hspot : spot = none := by simpa [Addr.add] using World.cell?_spot h0
      subst hspot
      refine ⟨ab, ao, rfl, ?_, fun i x hi => ?_⟩
      · have := World.block_lt_of_cell? W _ h0
        simpa [Addr.add] using this
      · have hil : i < len := by simpa using (List.getElem?_eq_some_iff.1 hi).1
        rw [List.getElem?_map, List.getElem?_range hil] at hi
        injection hi with hi
        subst hi
        obtain ⟨⟨h1, h2, h3⟩, _⟩ := hq i hil
        rw [Addr.add_lit] at h1 h2 h3
        exact ⟨h1, by rw [Nat.add_assoc]; exact h2, by rw [Nat.add_assoc]; exact h3⟩

/-- a value that may be -/
structure GoodV (v : V) : Prop where
  chk_ : chk v.k v.n v.s = 0
  n64 : ok64 v.n
  s60 : v.s.size ≤ 60
  k4 : 0 ≤ v.k ∧ v.k < 4
def gV (v : V) : V := ⟨gK v.k, gN v.k v.n, gS v.k v.s⟩
theorem good_nul : GoodV nul := ⟨by decide, by unfold ok64 nul; decide, by decide, by decide⟩
theorem good_g {v : V} (h : Raw v) : GoodV (gV v) := by
  obtain ⟨h1, h2, h3⟩ := h
  obtain ⟨k, n, t⟩ := v
  simp only at h1 h2 h3
  have hk : k % 4 = 0 ∨ k % 4 = 1 ∨ k % 4 = 2 ∨ k % 4 = 3 := by omega
  show GoodV ⟨gK k, gN k n, gS k t⟩
  unfold gK gN gS
  rcases hk with e | e | e | e
  · rw [if_neg (by omega), if_neg (by omega), if_neg (by omega), e]
    exact good_nul
  · rw [if_pos e, if_neg (by omega), e]
    have : n % 2 = 0 ∨ n % 2 = 1 := by omega
    rcases this with e2 | e2 <;> rw [e2] <;> exact ⟨by decide, by unfold ok64; decide, by decide, by decide⟩
  · rw [if_neg (by omega), if_pos e, if_neg (by omega), e]
    have e : vEq 2 n ByteArray.empty 2 (bareN 2 n) (bareS 2 ByteArray.empty) = true := by simp [vEq, bareN, bareS]; rfl
    have c : chk 2 n ByteArray.empty = 0 := by
      unfold chk
      rw [if_neg (by omega), if_neg (by rw [e]; simp), if_neg (by decide)]
    exact ⟨c, h2, show ByteArray.empty.size ≤ 60 by decide, show (0 : Int) ≤ 2 ∧ (2 : Int) < 4 by decide⟩
  · rw [if_neg (by omega), if_neg (by omega), if_pos e, e]
    have hs : (t.extract 0 (min t.size 60)).size ≤ 60 := by rw [ByteArray.size_extract]; omega
    generalize t.extract 0 (min t.size 60) = u at hs ⊢
    have e : vEq 3 0 u 3 (bareN 3 0) (bareS 3 u) = true := by
      unfold vEq bareN bareS
      rw [if_pos rfl, (beqBA u u).2 rfl]
      rfl
    have c : chk 3 0 u = 0 := by
      unfold chk
      rw [if_neg (by omega), if_neg (by rw [e]; simp), if_neg (by omega)]
    exact ⟨c, show ok64 0 by unfold ok64; omega, hs, show (0 : Int) ≤ 3 ∧ (3 : Int) < 4 by decide⟩
end Go.Proofs.Ytfgmlgflfagdjaa.ev
