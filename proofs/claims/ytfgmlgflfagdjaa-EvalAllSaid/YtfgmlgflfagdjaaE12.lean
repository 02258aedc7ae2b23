/- Contract: Value, where Kind has no complaint. -/
import Derived.Test.YtfgmlgflfagdjaaE11
namespace Go.Proofs.Ytfgmlgflfagdjaa.ev
open Go.ChangeShapes Go.WideShapes Go.ChangeAt Go.RowKit Go.Proofs.Ytfgmlgflfagdjaa.lib Go.Proofs.Ytfgmlgflfagdjaa.val
set_option linter.unusedVariables false

theorem ok_small {n : Int} (h : 0 ≤ n) (h2 : n ≤ 1) : ok64 n := by unfold ok64; omega
theorem ok_tru (b : Bool) : ok64 (tru b).n := by unfold tru; cases b <;> exact ok_small (by simp) (by simp)
theorem ok_nul : ok64 nul.n := ok_small (by simp [nul]) (by simp [nul])
theorem ok_logic (d : Bool) (a b : V) (ha : ok64 a.n) (hb : ok64 b.n) : ok64 (logicV d a b).n := by
  unfold logicV
  repeat' split
  all_goals first | exact ha | exact hb | exact ok_nul | exact ok_tru _
theorem ok_pair (op : Int) (a b v : V) (h : pairV op a b = some v) (ha : ok64 a.n) (hb : ok64 b.n) : ok64 v.n := by
  unfold pairV at h
  repeat' split at h
  all_goals first
    | (injection h with h; subst h; first | exact ok_tru _ | exact ok_logic _ _ _ ha hb | exact ok_nul | assumption)
    | cases h
theorem kindN_fine {F : ByteArray → Int × Int} {G : ByteArray → Int} {ks : List Int} {n : Nd} (h : (kindN F G ks n).2 = 0) (h2 : n.op ≠ 2) (hv : ok64 n.v.n) : Fine ks.length n := by
  unfold kindN at h
  by_cases c1 : partsV n.op = -1
  · rw [if_pos c1] at h; cases h
  rw [if_neg c1] at h
  by_cases c2 : n.op = 1
  · exact .inl ⟨c2, hv⟩
  rw [if_neg c2, if_neg h2] at h
  have hop : 3 ≤ n.op ∧ n.op ≤ 16 := by
    unfold partsV at c1
    rw [if_neg (by omega)] at c1
    by_cases h5 : n.op = 3 ∨ n.op = 4 ∨ n.op = 5
    · omega
    · rw [if_neg h5] at c1
      by_cases h6 : 6 ≤ n.op ∧ n.op ≤ 16
      · omega
      · rw [if_neg h6] at c1; exact absurd rfl c1
  by_cases c3 : n.a < 0 ∨ (ks.length : Int) ≤ n.a
  · rw [if_pos c3] at h; cases h
  rw [if_neg c3] at h
  by_cases c4 : n.op ≤ 5
  · exact .inr ⟨hop.1, hop.2, by omega, by omega, fun h6 => by omega⟩
  rw [if_neg c4] at h
  by_cases c5 : n.b < 0 ∨ (ks.length : Int) ≤ n.b
  · rw [if_pos c5] at h; cases h
  exact .inr ⟨hop.1, hop.2, by omega, by omega, fun _ => by omega⟩
theorem kinds_fine {F : ByteArray → Int × Int} {G : ByteArray → Int} : ∀ (es : List Nd) (ks : List Int), (kindsV F G es ks).2 = 0 → (∀ n ∈ es, n.op ≠ 2 ∧ ok64 n.v.n) → ∀ (i : Nat) n, es[i]? = some n → Fine (ks.length + i) n
  | [], ks, _, _, i, n, h => by cases h
  | x :: r, ks, hk, hn, i, n, h => by
    rw [kindsV] at hk
    by_cases c : (kindN F G ks x).2 = 0
    · rw [if_pos c] at hk
      match i, h with
      | 0, h =>
        injection h with h
        subst h
        exact kindN_fine c (hn _ (List.mem_cons_self ..)).1 (hn _ (List.mem_cons_self ..)).2
      | i + 1, h =>
        have := kinds_fine r _ hk (fun n hm => hn n (List.mem_cons_of_mem _ hm)) i n h
        rw [List.length_append] at this
        rw [show ks.length + (i + 1) = ks.length + [(kindN F G ks x).1].length + i by simp; omega]
        exact this
    · rw [if_neg c] at hk
      exact absurd hk c
theorem Kind_fine {F : ByteArray → Int × Int} {G : ByteArray → Int} {es : List Nd} {k : Int} (h : KindV F G es = (k, 0)) (hn : ∀ n ∈ es, n.op ≠ 2 ∧ ok64 n.v.n) : (1 ≤ es.length ∧ es.length ≤ 60) ∧ ∀ (i : Nat) n, es[i]? = some n → Fine i n := by
  unfold KindV at h
  by_cases c : es.length < 1 ∨ 60 < es.length
  · rw [if_pos c] at h; cases h
  · rw [if_neg c] at h
    refine ⟨by omega, fun i n hi => ?_⟩
    have := kinds_fine es [] (by rw [h]) hn i n hi
    simpa using this
theorem node_ok {vs : List V} {n : Nd} {v : V} (h : nodeV vs n = some v) (hf : Fine vs.length n) (hv : ∀ x ∈ vs, ok64 x.n) : ok64 v.n := by
  unfold nodeV at h
  rcases hf with ⟨h1, h2⟩ | ⟨h3, h16, ha, ham, hb⟩
  · rw [if_pos h1] at h
    injection h with h
    subst h
    exact h2
  · rw [if_neg (by omega)] at h
    have hx2 := okD vs hv n.a.toNat (by omega)
    by_cases h5 : n.op ≤ 5
    · rw [if_pos h5] at h
      exact ok_pair _ _ _ _ h hx2 hx2
    · rw [if_neg h5] at h
      have := hb (by omega)
      exact ok_pair _ _ _ _ h hx2 (okD vs hv n.b.toNat (by omega))
theorem vals_stop {es : List Nd} {k : Nat} {vs : List V} {nd : Nd} (h : es[k]? = some nd) (hp : nodeV vs nd = none) : valsV (es.drop k) vs = none := by
  rw [drop_at es k nd h, valsV, hp]; rfl
theorem vals_step {es : List Nd} {k : Nat} {vs : List V} {nd : Nd} {v : V} (h : es[k]? = some nd) (hp : nodeV vs nd = some v) : valsV (es.drop k) vs = valsV (es.drop (k + 1)) (vs ++ [v]) := by
  rw [drop_at es k nd h, valsV, hp]; rfl
/-- Value's answer -/
def ValueV (o : Option (List V)) : Value := match o with
  | some vs => .tuple #[.agg #[.int .i64 (vs.getLast?.getD nul).k, .int .i64 (vs.getLast?.getD nul).n, .string (vs.getLast?.getD nul).s], .int .i64 0]
  | none => .tuple #[.agg #[.int .i64 0, .int .i64 0, .string ⟨#[]⟩], .int .i64 11]
theorem nodes (n : Nd) (o : Option V) (l : List V) (k m c B : Nat) (A : Option Addr) (C R : Value) (w : World) (ho : nodeV l n = o) (hf : Fine m n) (hm : l.length = m) (hm2 : m < 1000) (hL : Vals w B A l) (hB : B ≤ w.heap.size) (hok : ∀ v ∈ l, ok64 v.n) :
    Calls Try.prog 39 #[.agg #[.int .i64 n.op, .int .i64 n.a, .int .i64 n.b, .int .i64 n.v.k, .int .i64 n.v.n, .string n.v.s, .string n.s], .slice A m c, C, R] w fun e w' => e = nodeE o ∧ Below w.heap.size w w' := by
  subst ho
  exact node n l m c B A C R w hf hm hm2 hL hB hok
theorem last_val (vs : List V) (k : Nat) (hk : vs.length = k + 1) : vs[k]? = some (vs.getLast?.getD nul) := by
  rw [List.getLast?_eq_getElem?, hk]
  simp [hk]
theorem append_cells (vs : List V) (v : V) : cellsV (vs ++ [v]) = cellsV vs ++ [.int .i64 v.k, .int .i64 v.n, .string v.s] := by simp [cellsV]
end Go.Proofs.Ytfgmlgflfagdjaa.ev
