/- Maps of strings, entry by entry: made, written under a new key, looked up. -/
import Derived.Test.YtfnceamkephpjaaGreatLib
import Derived.MapKept
import Derived.OwnWalk
import Derived.Maps.OwnOps
namespace Go.Proofs.YtfnceamkephpjaaGreat.lib
open Go.ChangeShapes Go.WideShapes Go.ChangeAt Go.RowKit Go.MapKept
set_option linter.unusedVariables false

/-- a map of strings in block b: its entries, in the order they came -/
def MapAt (w : World) (b : Nat) (M : List (List UInt8 × Value)) : Prop :=
  ∃ es clock, w.heap[b]? = some (.map es clock) ∧ es.toList.map (fun e => (e.key, e.val)) = M.map (fun x => (Value.string ⟨x.1.toArray⟩, x.2))
def mlook (M : List (List UInt8 × Value)) (l : List UInt8) (z : Value) : Value × Bool := match M.find? (fun x => x.1 == l) with
  | some x => (x.2, true)
  | none => (z, false)
theorem MapAt.lt {w : World} {b : Nat} {M : List (List UInt8 × Value)} (h : MapAt w b M) : b < w.heap.size := by
  obtain ⟨es, clock, hb, _⟩ := h
  exact (Array.getElem?_eq_some_iff.1 hb).1
theorem MapAt.new (w : World) : MapAt (w.alloc (.map #[] 0)) w.heap.size [] := ⟨#[], 0, (heap_alloc w _).1, rfl⟩
theorem MapAt.same {w w' : World} {b : Nat} {M : List (List UInt8 × Value)} (h : MapAt w b M) (hb : w'.heap[b]? = w.heap[b]?) : MapAt w' b M := by
  obtain ⟨es, clock, h1, h2⟩ := h
  exact ⟨es, clock, hb.trans h1, h2⟩
theorem MapAt.ext {w w' : World} {b : Nat} {M : List (List UInt8 × Value)} (h : MapAt w b M) (hb : Below w.heap.size w w') : MapAt w' b M := h.same (hb.block b h.lt)
theorem MapAt.grown {w w' : World} {row : Option Nat} {b : Nat} {M : List (List UInt8 × Value)} (h : MapAt w b M) (hg : w.grownBy w' row) (hr : some b ≠ row) : MapAt w' b M := h.same (hg.block b h.lt hr)
theorem MapAt.notCells {w : World} {b : Nat} {M : List (List UInt8 × Value)} (h : MapAt w b M) (cs : Array Value) (t : TypeId) : w.heap[b]? ≠ some (.cells cs t) := by
  obtain ⟨es, clock, h1, _⟩ := h
  rw [h1]
  intro e
  injection e with e
  cases e
theorem mk_inj {l m : List UInt8} (h : (⟨l.toArray⟩ : ByteArray) = ⟨m.toArray⟩) : l = m := by
  have := congrArg (fun b : ByteArray => b.data.toList) h
  simpa using this
/-- what the search finds -/
theorem findNow_lit (l : List UInt8) : ∀ (M : List (List UInt8 × Value)) (es : List MapEntry) (i : Nat), es.map (fun e => (e.key, e.val)) = M.map (fun x => (Value.string ⟨x.1.toArray⟩, x.2)) →
    (M.find? (fun x => x.1 == l) = none ∧ Instr.findNow .string (.string ⟨l.toArray⟩) es i = some none) ∨
    ∃ x j, M.find? (fun x => x.1 == l) = some x ∧ Instr.findNow .string (.string ⟨l.toArray⟩) es i = some (some (j, x.2))
  | [], [], i, _ => .inl ⟨rfl, rfl⟩
  | [], _ :: _, i, h => by cases h
  | _ :: _, [], i, h => by cases h
  | x :: M, e :: es, i, h => by
    simp only [List.map_cons, List.cons.injEq, Prod.mk.injEq] at h
    obtain ⟨⟨h1, h2⟩, h3⟩ := h
    obtain ⟨r, hr, hiff⟩ := sameNow_of_keys (d := .string) (a := .string ⟨l.toArray⟩) (b := e.key) trivial (by rw [h1]; exact trivial)
    by_cases hx : x.1 = l
    · refine .inr ⟨x, i, by simp [hx], ?_⟩
      obtain rfl : r = true := hiff.2 (by rw [h1, hx])
      simp [Instr.findNow, hr, h2]
    · have hb : r = false := by
        cases r with
        | false => rfl
        | true =>
          have := hiff.1 rfl
          rw [h1] at this
          injection this with this
          exact absurd (mk_inj this).symm hx
      subst hb
      have hf : (x :: M).find? (fun x => x.1 == l) = M.find? (fun x => x.1 == l) := by
        rw [List.find?_cons_of_neg (by simpa using hx)]
      rw [hf]
      have hn : Instr.findNow .string (.string ⟨l.toArray⟩) (e :: es) i = Instr.findNow .string (.string ⟨l.toArray⟩) es (i + 1) := by
        simp [Instr.findNow, hr]
      rw [hn]
      exact findNow_lit l M es (i + 1) h3
section
variable {P : Program} {w : World} {ops : Array Oper} {rest : List Oper} {o : Oper} {a : Act} {Q : Exit → Act → World → Prop}
theorem look_lit (c : Bool) {t k e : TypeId} (ht : P.underlying t = some (.map k e)) (hk : P.underlying k = some .string) {z : Value} (hz : (zeroValue e).run P w = .ok z w) {b : Nat} {M : List (List UInt8 × Value)} (h : MapAt w b M) (l : List UInt8) :
    (Instr.lookup t (.map (some b)) (.string ⟨l.toArray⟩) c).run P w = .ok (if c then .tuple #[(mlook M l z).1, .bool (mlook M l z).2] else (mlook M l z).1) w := by
  obtain ⟨es, clock, hb, he⟩ := h
  have hik : IsKey .string (.string ⟨l.toArray⟩) := trivial
  rcases findNow_lit l M es.toList 0 he with ⟨h1, h2⟩ | ⟨x, j, h1, h2⟩
  · simp [Instr.lookup, run_underlying ht, MapKept.run_getObj_map hb, run_checkKey hk hik, run_findKey hk h2, hz, Result.andThen, mlook, h1]
  · simp [Instr.lookup, run_underlying ht, MapKept.run_getObj_map hb, run_checkKey hk hik, run_findKey hk h2, Result.andThen, mlook, h1]
theorem put_lit {t k e : TypeId} (ht : P.underlying t = some (.map k e)) (hk : P.underlying k = some .string) {b : Nat} {M : List (List UInt8 × Value)} (h : MapAt w b M) (l : List UInt8) (v : Value) (hn : M.find? (fun x => x.1 == l) = none) :
    ∃ w', (Instr.mapUpdate t (.map (some b)) (.string ⟨l.toArray⟩) v).run P w = .ok () w' ∧ MapAt w' b (M ++ [(l, v)]) ∧ w.grownBy w' (some b) := by
  obtain ⟨es, clock, hb, he⟩ := h
  have hik : IsKey .string (.string ⟨l.toArray⟩) := trivial
  rcases findNow_lit l M es.toList 0 he with ⟨h1, h2⟩ | ⟨x, j, h1, h2⟩
  · refine ⟨{ w with heap := w.heap.setIfInBounds b (.map (es.push { key := .string ⟨l.toArray⟩, val := v, born := clock }) (clock + 1)) }, by simp [Instr.mapUpdate, run_underlying ht, MapKept.run_getObj_map hb, run_checkKey hk hik, run_findKey hk h2, MapKept.run_setObj_map _ hb, Result.andThen], ⟨_, _, (heap_set hb).1, ?_⟩, ⟨rfl, rfl, rfl, by simp, fun i _ hi => (heap_set hb).2 i (fun e => hi (by rw [e]))⟩⟩
    simp [he]
  · rw [hn] at h1; cases h1
theorem wpList_look_lit (hg : o.guard = none) (m x : Operand) (t : TypeId) (c : Bool) (hop : o.op = Op.lookup t m x c) (k e : TypeId) (ht : P.underlying t = some (.map k e)) (hk : P.underlying k = some .string) (z : Value) (hz : ∀ w, (zeroValue e).run P w = .ok z w)
    (b : Nat) (M : List (List UInt8 × Value)) (hm : a.eval m = .map (some b)) (h : MapAt w b M) (l : List UInt8) (s : ByteArray) (hs : s = ⟨l.toArray⟩) (hx : a.eval x = .string s)
    (hK : wpList P ops Q rest (a.put o.dst (if c then .tuple #[(mlook M l z).1, .bool (mlook M l z).2] else (mlook M l z).1)) w) : wpList P ops Q (o :: rest) a w := by
  subst hs
  refine wpList_plain hg fun K' hK' => ?_
  unfold Oper.wp
  simp [execOp, hop, hm, hx, look_lit c ht hk (hz w) h l, Result.andThen]
  exact hK' _ _ hK
theorem wpList_put_lit (hg : o.guard = none) (m x y : Operand) (t : TypeId) (hop : o.op = Op.insert t m x y ∨ o.op = Op.mapUpdate t m x y) (k e : TypeId) (ht : P.underlying t = some (.map k e)) (hk : P.underlying k = some .string)
    (b : Nat) (M : List (List UInt8 × Value)) (hm : a.eval m = .map (some b)) (h : MapAt w b M) (l : List UInt8) (v : Value) (hx : a.eval x = .string ⟨l.toArray⟩) (hy : a.eval y = v) (hn : M.find? (fun x => x.1 == l) = none)
    (hK : ∀ w', MapAt w' b (M ++ [(l, v)]) → w.grownBy w' (some b) → wpList P ops Q rest (a.put o.dst undef) w') : wpList P ops Q (o :: rest) a w := by
  refine wpList_plain hg fun K' hK' => ?_
  obtain ⟨w', hrun, h1, h2⟩ := put_lit ht hk h l v hn
  unfold Oper.wp
  rcases hop with hop | hop
  · simp [execOp, hop, hm, hx, hy, hrun, Result.andThen]
    exact hK' _ _ (hK w' h1 h2)
  · simp [execOp, hop, hm, hx, hy, hrun, Result.andThen]
    exact hK' _ _ (hK w' h1 h2)
end
end Go.Proofs.YtfnceamkephpjaaGreat.lib
