/- Value as a whole; known. -/
import Derived.Test.YtfgmlgflfagdjaaE13
namespace Go.Proofs.Ytfgmlgflfagdjaa.ev
open Go.ChangeShapes Go.WideShapes Go.ChangeAt Go.RowKit Go.Proofs.Ytfgmlgflfagdjaa.lib Go.Proofs.Ytfgmlgflfagdjaa.val
set_option linter.unusedVariables false

/-- what Value answers where no node is a column's name -/
def EvV (es : List Nd) : Value := if (KindV (fun _ => (0, 0)) (fun _ => 0) es).2 = 0 then ValueV (valsV es []) else .tuple #[.agg #[.int .i64 0, .int .i64 0, .string ⟨#[]⟩], .int .i64 (KindV (fun _ => (0, 0)) (fun _ => 0) es).2]
def cellsN (es : List Nd) : List Value := es.flatMap fun n => n.arr.toList
theorem cellsN_at : ∀ (es : List Nd) (i : Nat) (nd : Nd), es[i]? = some nd → ∀ (j : Nat) u, nd.arr[j]? = some u → (cellsN es)[i * 7 + j]? = some u
  | [], i, nd, h, _, _, _ => by cases h
  | x :: r, 0, nd, h, j, u, hu => by
    injection h with h
    subst h
    have hj : j < 7 := by
      have := (Array.getElem?_eq_some_iff.1 hu).1
      simpa [Nd.arr] using this
    have e : cellsN (x :: r) = x.arr.toList ++ cellsN r := rfl
    rw [e, List.getElem?_append_left (by simp [Nd.arr]; omega)]
    simpa using hu
  | x :: r, i + 1, nd, h, j, u, hu => by
    have e : cellsN (x :: r) = x.arr.toList ++ cellsN r := rfl
    have l7 : x.arr.toList.length = 7 := rfl
    rw [e, List.getElem?_append_right (by omega), l7, show (i + 1) * 7 + j - 7 = i * 7 + j by omega]
    exact cellsN_at r i nd h j u hu
theorem Nds.of_blk {w : World} {g : Nat} {t : TypeId} {es : List Nd} {cs : Array Value} (h : Blk w g t cs) (hc : cs.toList = cellsN es) : Nds w w.heap.size (some ⟨g, 0, none⟩) es := fun _ => by
  refine ⟨g, 0, rfl, h.lt, fun i nd hi j u hu => ?_⟩
  rw [h.cell, ← Array.getElem?_toList, hc, Nat.zero_add]
  exact cellsN_at es i nd hi j u hu
theorem ValueC (es : List Nd) (r : Value) (A : Option Addr) (N c B : Nat) (C R : Value) (w : World) (hr : EvV es = r) (hN : es.length = N) (hB : B ≤ w.heap.size) (hn : Nds w B A es)
    (hc : ∀ n ∈ es, n.op ≠ 2 ∧ n.v.s.size ≤ maxLen ∧ ok64 n.v.n) :
    Calls Try.prog 23 #[.slice A N c, C, R] w fun e w' => e = .returned r ∧ Below w.heap.size w w' := by
  subst hr
  unfold EvV
  obtain ⟨⟨k, er⟩, hp⟩ : ∃ p, KindV (fun _ => (0, 0)) (fun _ => 0) es = p := ⟨_, rfl⟩
  rw [hp]
  by_cases h : er = 0
  · subst h
    rw [if_pos rfl]
    exact Value_ok es A N c B C R _ _ w k hp hN hB hn (fun n h => (hc n h).1) (fun n h => (hc n h).2.1) (fun n h => (hc n h).2.2)
  · rw [if_neg h]
    exact Value_bad es A N c B C R _ _ w k er hp h hN hB hn (fun n h => (hc n h).1) (fun n h => (hc n h).2.1)
/-- a node of a value; one of two parts -/
def nv (v : V) : Nd := ⟨1, 0, 0, v, ByteArray.empty⟩
def nb (op a b : Int) : Nd := ⟨op, a, b, nul, ByteArray.empty⟩

theorem eqlS (k n : Int) (s : ByteArray) (k' n' : Int) (s' : ByteArray) (c : Bool) (hc : vEq k n s k' n' s' = c) (w : World) : (binOp .eql 30 (.agg #[.int .i64 k, .int .i64 n, .string s]) (.agg #[.int .i64 k', .int .i64 n', .string s'])).run Try.prog w = .ok (.bool c) w := by
  subst hc; exact eqlV _ _ _ _ _ _ w

instance (n : Nd) : Decidable (n.op ≠ 2 ∧ n.v.s.size ≤ maxLen ∧ ok64 n.v.n) := by unfold ok64; exact inferInstance
theorem ValueB (es : List Nd) (r : Value) (g N c : Nat) (C R : Value) (w : World) (cs : Array Value) (hr : EvV es = r) (hN : es.length = N) (hb : Blk w g 36 cs) (hcs : cs.toList = cellsN es)
    (hc : ∀ n ∈ es, n.op ≠ 2 ∧ n.v.s.size ≤ maxLen ∧ ok64 n.v.n) :
    Calls Try.prog 23 #[.slice (some ⟨g, 0, none⟩) N c, C, R] w fun e w' => e = .returned r ∧ Below w.heap.size w w' :=
  ValueC es r _ N c w.heap.size C R w hr hN (Nat.le_refl _) (Nds.of_blk hb hcs) hc

set_option maxRecDepth 1000000 in
theorem known (w : World) : Calls Try.prog 12 #[] w fun e w' => e = .returned (.bool true) ∧ Below w.heap.size w w' := by
  have he := fun W => eqlS 1 0 ⟨#[]⟩ 1 0 ⟨#[]⟩ true (by decide) W
  go_enter Try.func12, Try.ntmps12
  go_wp2_with fail
  obtain ⟨W, hW_, hbW, B1⟩ : ∃ W_, W_ = (w.alloc (.cells #[.int .i64 1, .int .i64 0, .int .i64 0, .int .i64 0, .int .i64 0, .string ⟨#[]⟩, .string ⟨#[]⟩, .int .i64 1, .int .i64 0, .int .i64 0, .int .i64 1, .int .i64 0, .string ⟨#[]⟩, .string ⟨#[]⟩, .int .i64 7, .int .i64 0, .int .i64 1, .int .i64 0, .int .i64 0, .string ⟨#[]⟩, .string ⟨#[]⟩] 36)) ∧ Below w.heap.size w W_ ∧ Blk W_ (w.heap.size) 36 #[.int .i64 1, .int .i64 0, .int .i64 0, .int .i64 0, .int .i64 0, .string ⟨#[]⟩, .string ⟨#[]⟩, .int .i64 1, .int .i64 0, .int .i64 0, .int .i64 1, .int .i64 0, .string ⟨#[]⟩, .string ⟨#[]⟩, .int .i64 7, .int .i64 0, .int .i64 1, .int .i64 0, .int .i64 0, .string ⟨#[]⟩, .string ⟨#[]⟩] :=
    ⟨_, rfl, ((Below.refl _ _).alloc (Nat.le_refl _) _), (blk_new_at w (w.heap.size) _ _ (by simp))⟩
  rw [← hW_]
  clear hW_
  refine (ValueB [nv nul, nv (tru false), nb 7 0 1] (.tuple #[.agg #[.int .i64 1, .int .i64 0, .string ⟨#[]⟩], .int .i64 0]) _ 3 3 _ _ W _ (by rfl) rfl B1 rfl (by decide)).mono ?_
  rintro e w1 ⟨rfl, hb1⟩
  go_wp2
  go_ret
  exact ⟨rfl, bch0 hbW (hb1.alloc hb1.size _)⟩

theorem within (a n : Int) (w : World) (hn : 1 ≤ n) (hn2 : n ≤ 2000000000000) (ha : -9223372036854775808 ≤ a) (hb : a ≤ 9223372036854775807) :
    Calls Try.prog 17 #[.int .i64 a, .int .i64 n] w fun e w' => e = .returned (.int .i64 (a % n)) ∧ w = w' := by
  have h0 : (n == 0) = false := by simp; omega
  have h1 := Int.emod_nonneg a (by omega : n ≠ 0)
  have h2 := Int.emod_lt_of_pos a (by omega : 0 < n)
  go_enter Try.func17, Try.ntmps17
  go_wp2
  · have h := tmod_pos a n hn (by assumption)
    go_ret
    exact ⟨ret_int (by simp [h]; exact IntWalk.wrap64_in _ ⟨by omega, by omega⟩), rfl⟩
  · have h := tmod_nn a n hn (by assumption)
    go_ret
    exact ⟨ret_int (by simp [h]), rfl⟩
theorem withinr (a n k : Int) (hk : a % n = k) (w : World) (hn : 1 ≤ n) (hn2 : n ≤ 2000000000000) (ha : ok64 a) :
    Calls Try.prog 17 #[.int .i64 a, .int .i64 n] w fun e w' => e = .returned (.int .i64 k) ∧ w = w' := by
  subst hk; exact within a n w hn hn2 ha.1 ha.2
end Go.Proofs.Ytfgmlgflfagdjaa.ev
