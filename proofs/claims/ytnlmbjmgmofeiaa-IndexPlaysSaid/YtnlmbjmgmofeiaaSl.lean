/- General laws on rows of one's own: cells set in place, copy within, append of zeros. -/
import Derived.Test.YtnlmbjmgmofeiaaFr
import Derived.Laws.Append
import Derived.Laws.AppendOwn
import Derived.Laws.IdiomCopy
import Derived.Lib.AppendZeros
namespace Go.Proofs.Ytnlmbjmgmofeiaa.lib
open Go.ChangeShapes Go.WideShapes Go.ChangeAt Go.RowKit
set_option linter.unusedVariables false

/-- a row of one's own, told by its cells -/
theorem own_of_cells {w : World} {B g n c size : Nat} {e : TypeId} {cur : Array Value} {xs : List Value} (hB : B ≤ g) (h : Blk w g e cur) (hsz : cur.size = c * size) (hn : n ≤ c) (hc : c ≤ maxLen) (hl : xs.length = n * size)
    (hx : ∀ (j : Nat) u, xs[j]? = some u → w.cell? ⟨g, j, none⟩ = some u) : w.ownsRow B e size (.slice (some ⟨g, 0, none⟩) n c) n xs := by
  refine ⟨hl, .inr ⟨g, c, cur, rfl, hB, h, hn, hc, hsz, ?_⟩⟩
  have hle : n * size ≤ cur.size := by rw [hsz]; exact Nat.mul_le_mul_right _ hn
  apply List.ext_getElem?
  intro j
  rw [List.getElem?_take]
  by_cases hj : j < n * size
  · rw [if_pos hj]
    have h1 := hx j _ (List.getElem?_eq_getElem (by rw [hl]; exact hj))
    rw [h.cell j] at h1
    rw [List.getElem?_eq_getElem (show j < xs.length by rw [hl]; exact hj), ← h1]
    simp
  · rw [if_neg hj, List.getElem?_eq_none (by rw [hl]; omega)]
/-- .. and what it holds -/
theorem own_cells {w : World} {B g n c size : Nat} {e : TypeId} {xs : List Value} (h : w.ownsRow B e size (.slice (some ⟨g, 0, none⟩) n c) n xs) : ∃ cur : Array Value, Blk w g e cur ∧ cur.size = c * size ∧ n ≤ c ∧ c ≤ maxLen ∧ B ≤ g ∧ ∀ (j : Nat) u, xs[j]? = some u → w.cell? ⟨g, j, none⟩ = some u := by
  have hr := Row.of_own h
  rcases h.2 with ⟨h', _⟩ | ⟨g', cap, cur, h', hb, hg, hnc, hc, hcs, _⟩
  · cases h'
  · simp only [Value.slice.injEq, Option.some.injEq, Addr.mk.injEq, and_true, true_and] at h'
    obtain ⟨rfl, rfl⟩ := h'
    exact ⟨cur, hg, hcs, hnc, hc, hb, fun j u hu => by have := hr.at_ hu; rwa [Nat.zero_add] at this⟩
theorem Blk.setCells {g : Nat} {t : TypeId} : ∀ (vs : List Value) (o : Nat) {w : World} {cs : Array Value}, Blk w g t cs → ∃ cs', Blk (w.setCells g o vs) g t cs' ∧ cs'.size = cs.size ∧ w.grownBy (w.setCells g o vs) (some g)
  | [], o, w, cs, h => ⟨cs, h, rfl, ⟨rfl, rfl, rfl, Nat.le_refl _, fun _ _ _ => rfl⟩⟩
  | v :: vs, o, w, cs, h => by
    have h1 : Blk (w.setCell ⟨g, o, none⟩ v) g t (cs.setIfInBounds o v) := h.set_ o v
    obtain ⟨cs', h2, h3, h4⟩ := Blk.setCells vs (o + 1) h1
    refine ⟨cs', h2, by rw [h3]; simp, ?_⟩
    have h5 : w.grownBy (w.setCell ⟨g, o, none⟩ v) (some g) := ⟨rfl, rfl, rfl, by simp [World.setCell], fun k hk hne => Below.heap_setCell _ _ _ _ (fun e => hne (by rw [e]))⟩
    exact ⟨h4.os.trans h5.os, h4.tape.trans h5.tape, h4.output.trans h5.output, Nat.le_trans h5.size h4.size, fun k hk hne => (h4.block k (Nat.lt_of_lt_of_le hk h5.size) hne).trans (h5.block k hk hne)⟩
theorem some_setCells (b : Nat) (vs : List Value) (o : Nat) (w : World) (h : ∀ j, j < vs.length → (w.cell? ⟨b, o + j, none⟩).isSome = true) (k : Nat) (hk : (w.cell? ⟨b, k, none⟩).isSome = true) : ((w.setCells b o vs).cell? ⟨b, k, none⟩).isSome = true := by
  by_cases hin : o ≤ k ∧ k < o + vs.length
  · have h1 := World.cell?_setCells_in b vs o w h (k - o) (by omega)
    rw [show o + (k - o) = k by omega] at h1
    rw [h1]; rfl
  · rw [World.cell?_setCells_out b vs o w ⟨b, k, none⟩ (fun _ _ => by show k < o ∨ o + vs.length ≤ k; omega)]
    exact hk
/-- E is laid at p; what stood behind is moved on -/
theorem ins_cells {w : World} {g : Nat} (X E : List Value) (p : Nat) (hp : p ≤ X.length) (hX : ∀ (j : Nat) u, X[j]? = some u → w.cell? ⟨g, j, none⟩ = some u) (hall : ∀ j, j < X.length + E.length → (w.cell? ⟨g, j, none⟩).isSome = true) :
    ∀ (j : Nat) u, (X.take p ++ (E ++ X.drop p))[j]? = some u → ((w.setCells g (p + E.length) (X.drop p)).setCells g p E).cell? ⟨g, j, none⟩ = some u := by
  have hd : (X.drop p).length = X.length - p := List.length_drop
  have h1 : ∀ j, j < (X.drop p).length → (w.cell? ⟨g, p + E.length + j, none⟩).isSome = true := fun j hj => hall _ (by omega)
  have h2 : ∀ j, j < E.length → ((w.setCells g (p + E.length) (X.drop p)).cell? ⟨g, p + j, none⟩).isSome = true := fun j hj => some_setCells _ _ _ _ h1 _ (hall _ (by omega))
  intro j u hu
  have ht : (X.take p).length = p := by rw [List.length_take]; omega
  rw [List.getElem?_append, ht] at hu
  by_cases hj : j < p
  · rw [if_pos hj, List.getElem?_take, if_pos hj] at hu
    rw [World.cell?_setCells_out _ _ _ _ ⟨g, j, none⟩ (fun _ _ => .inl hj), World.cell?_setCells_out _ _ _ _ ⟨g, j, none⟩ (fun _ _ => .inl (by show j < p + E.length; omega))]
    exact hX _ _ hu
  · rw [if_neg hj, List.getElem?_append] at hu
    by_cases hj2 : j - p < E.length
    · rw [if_pos hj2] at hu
      have h3 := World.cell?_setCells_in g E p _ h2 (j - p) hj2
      rw [show p + (j - p) = j by omega] at h3
      rw [h3]
      rw [List.getElem?_eq_getElem hj2] at hu
      exact hu
    · rw [if_neg hj2] at hu
      have hj3 : j - p - E.length < (X.drop p).length := (List.getElem?_eq_some_iff.1 hu).1
      rw [World.cell?_setCells_out _ _ _ _ ⟨g, j, none⟩ (fun _ _ => .inr (by show p + E.length ≤ j; omega))]
      have h3 := World.cell?_setCells_in g (X.drop p) (p + E.length) w h1 (j - p - E.length) hj3
      rw [show p + E.length + (j - p - E.length) = j by omega] at h3
      rw [h3]
      rw [List.getElem?_eq_getElem hj3] at hu
      exact hu
/-- E is laid behind the front of X in a new row, the rest of X behind E -/
theorem ins_cells2 {w v : World} {g : Nat} (X E : List Value) (p : Nat) (hp : p ≤ X.length) (hX : ∀ (j : Nat) u, (X.take p)[j]? = some u → w.cell? ⟨g, j, none⟩ = some u) (hall : ∀ j, j < X.length + E.length → (w.cell? ⟨g, j, none⟩).isSome = true)
    (hv : ∀ a, v.cell? a = (w.setCells g p E).cell? a) :
    ∀ (j : Nat) u, (X.take p ++ (E ++ X.drop p))[j]? = some u → (v.setCells g (p + E.length) (X.drop p)).cell? ⟨g, j, none⟩ = some u := by
  have hd : (X.drop p).length = X.length - p := List.length_drop
  have h1 : ∀ j, j < E.length → (w.cell? ⟨g, p + j, none⟩).isSome = true := fun j hj => hall _ (by omega)
  have h2 : ∀ j, j < (X.drop p).length → (v.cell? ⟨g, p + E.length + j, none⟩).isSome = true := fun j hj => by rw [hv]; exact some_setCells _ _ _ _ h1 _ (hall _ (by omega))
  intro j u hu
  have ht : (X.take p).length = p := by rw [List.length_take]; omega
  rw [List.getElem?_append, ht] at hu
  by_cases hj : j < p
  · rw [if_pos hj] at hu
    rw [World.cell?_setCells_out _ _ _ _ ⟨g, j, none⟩ (fun _ _ => .inl (by show j < p + E.length; omega)), hv, World.cell?_setCells_out _ _ _ _ ⟨g, j, none⟩ (fun _ _ => .inl hj)]
    exact hX _ _ hu
  · rw [if_neg hj, List.getElem?_append] at hu
    by_cases hj2 : j - p < E.length
    · rw [if_pos hj2] at hu
      have h3 := World.cell?_setCells_in g E p _ h1 (j - p) hj2
      rw [show p + (j - p) = j by omega] at h3
      rw [World.cell?_setCells_out _ _ _ _ ⟨g, j, none⟩ (fun _ _ => .inl (by show j < p + E.length; omega)), hv, h3]
      rw [List.getElem?_eq_getElem hj2] at hu
      exact hu
    · rw [if_neg hj2] at hu
      have hj3 : j - p - E.length < (X.drop p).length := (List.getElem?_eq_some_iff.1 hu).1
      have h3 := World.cell?_setCells_in g (X.drop p) (p + E.length) v h2 (j - p - E.length) hj3
      rw [show p + E.length + (j - p - E.length) = j by omega] at h3
      rw [h3]
      rw [List.getElem?_eq_getElem hj3] at hu
      exact hu
/-- what stands from q on is moved to p -/
theorem del_cells {w : World} {g : Nat} (X : List Value) (p q : Nat) (hp : p ≤ q) (hq : q ≤ X.length) (hX : ∀ (j : Nat) u, X[j]? = some u → w.cell? ⟨g, j, none⟩ = some u) :
    ∀ (j : Nat) u, (X.take p ++ X.drop q)[j]? = some u → (w.setCells g p (X.drop q)).cell? ⟨g, j, none⟩ = some u := by
  have hd : (X.drop q).length = X.length - q := List.length_drop
  intro j u hu
  have ht : (X.take p).length = p := by rw [List.length_take]; omega
  rw [List.getElem?_append, ht] at hu
  by_cases hj : j < p
  · rw [if_pos hj, List.getElem?_take, if_pos hj] at hu
    rw [World.cell?_setCells_out _ _ _ _ ⟨g, j, none⟩ (fun _ _ => .inl hj)]
    exact hX _ _ hu
  · rw [if_neg hj] at hu
    have hj3 : j - p < (X.drop q).length := (List.getElem?_eq_some_iff.1 hu).1
    have h3 := World.cell?_setCells_in g (X.drop q) p w (fun k hk => by rw [hX (p + k) _ (List.getElem?_eq_getElem (by omega))]; rfl) (j - p) hj3
    rw [show p + (j - p) = j by omega] at h3
    rw [h3]
    rw [List.getElem?_eq_getElem hj3] at hu
    exact hu
theorem zero_one (z : Array Value) : Builtin.zeroCells z 1 = z := by
  unfold Builtin.zeroCells
  apply Array.ext
  · simp
  · intro i h1 h2
    simp only [Array.size_map, Array.size_range, Nat.one_mul] at h1
    simp [Nat.mod_eq_of_lt h1, getElem!_pos z i h1]
theorem grown_of_below {w w' : World} (h : Below w.heap.size w w') (row : Option Nat) : w.grownBy w' row := ⟨h.os, h.tape, h.output, h.size, fun k hk _ => h.block k hk⟩
section
variable {P : Program}
/-- copy, as one operation -/
theorem wp_copy_to {w : World} {o : Oper} {a : Act} {K : Act → World → Prop} {Q : Exit → Act → World → Prop} (d s : Operand) (t : TypeId)
    (ho : o.op = .call { callee := .builtin .copy, args := #[d, s], argTypes := #[t, t] }) (e : TypeId) (i : TypeInfo) (size : Nat) (ht : P.underlying t = some (.slice e)) (hi : P.info? e = some i) (hsize : i.size = size)
    (b off dLen dCap : Nat) (src : Addr) (sLen sCap : Nat) (hd : a.eval d = .slice (some ⟨b, off, none⟩) dLen dCap) (hs : a.eval s = .slice (some src) sLen sCap) (cs : List Value) (hn : cs.length = Nat.min sLen dLen * size)
    (hsrc : ∀ j v, cs[j]? = some v → w.cell? (src.add j) = some v) (hc : ∀ j, j < cs.length → (w.cell? ⟨b, off + j, none⟩).isSome = true) (hf : ∀ j, j < cs.length → w.frozen? ⟨b, off + j, none⟩ = false) (h1 : ∀ v ∈ cs, v.oneCell' = true)
    (h : K (a.put o.dst (goInt (Nat.min sLen dLen))) (w.setCells b off cs)) : o.wp P a w K Q := by
  subst hsize
  have hl := run_loadCells_list (P := P) w src cs hsrc
  have hst := run_storeCells_cells (P := P) b off cs 0 w (by simpa using hc) (by simpa using hf) h1
  have hrun : (Builtin.copy_ #[t, t] o.type #[.slice (some ⟨b, off, none⟩) dLen dCap, .slice (some src) sLen sCap]).run P w = .ok (goInt (Nat.min sLen dLen)) (w.setCells b off cs) := by
    rw [hn] at hl
    simp only [Nat.add_zero] at hst
    simp [Builtin.copy_, run_underlying ht, Builtin.lenOf, Builtin.firstCells, sizeOf, typeInfo, hi, hl, hst]
  unfold Oper.wp execOp
  simp only [ho, resolve, invoke, builtin, Sem.run_bind, Sem.run_pure, Result.andThen_ok, List.map_toArray, List.map_cons, List.map_nil, hd, hs, hrun]
  exact h
theorem wpList_copy_to {w : World} {ops : Array Oper} {rest : List Oper} {o : Oper} {a : Act} {Q : Exit → Act → World → Prop} (hgd : o.guard = none) (d s : Operand) (t : TypeId)
    (ho : o.op = .call { callee := .builtin .copy, args := #[d, s], argTypes := #[t, t] }) (e : TypeId) (i : TypeInfo) (size : Nat) (ht : P.underlying t = some (.slice e)) (hi : P.info? e = some i) (hsize : i.size = size)
    (b off dLen dCap : Nat) (src : Addr) (sLen sCap : Nat) (hd : a.eval d = .slice (some ⟨b, off, none⟩) dLen dCap) (hs : a.eval s = .slice (some src) sLen sCap) (cs : List Value) (hn : cs.length = Nat.min sLen dLen * size)
    (hsrc : ∀ j v, cs[j]? = some v → w.cell? (src.add j) = some v) (hc : ∀ j, j < cs.length → (w.cell? ⟨b, off + j, none⟩).isSome = true) (hf : ∀ j, j < cs.length → w.frozen? ⟨b, off + j, none⟩ = false) (h1 : ∀ v ∈ cs, v.oneCell' = true)
    (h : wpList P ops Q rest (a.put o.dst (goInt (Nat.min sLen dLen))) (w.setCells b off cs)) : wpList P ops Q (o :: rest) a w :=
  wpList_plain hgd fun _ hK => wp_copy_to d s t ho e i size ht hi hsize b off dLen dCap src sLen sCap hd hs cs hn hsrc hc hf h1 (hK _ _ h)
/-- append(s, make(S, n)...), where there is no room: a new row -/
theorem run_append_zeros (w : World) (t tn ty e : TypeId) (i : TypeInfo) (z : Value) (k kn : IntKind) (ht : P.underlying t = some (.slice e)) (htn : P.underlying tn = some (.int kn)) (hi : P.info? e = some i) (hz : i.zero = some z)
    (b : Addr) (sLen sCap : Nat) (olds : List Value) (hlo : olds.length = sLen * i.size) (holds : ∀ j v, olds[j]? = some v → w.cell? (b.add j) = some v) (n : Nat) (h0 : 0 < n) (hs : 0 < i.size)
    (hg : sCap < sLen + n) (h63 : ((sLen + n : Nat) : Int) ≤ 9223372036854775807) (h48 : n * i.bytes ≤ 281474976710656) (hfit : Builtin.nextslicecap (sLen + n) sCap * i.bytes ≤ 281474976710656) :
    (Builtin.append_ #[t, tn] ty #[.slice (some b) sLen sCap, .int k n]).run P w =
      .ok (.slice (some ⟨w.heap.size, 0, none⟩) (sLen + n) (grownCap w (sLen + n) sCap e))
        (w.drew.alloc (.cells (olds.toArray ++ Builtin.zeroCells z.cells n ++ Builtin.zeroCells z.cells (grownCap w (sLen + n) sCap e - (sLen + n))) e)) := by
  have hn : ¬ (sLen + n ≤ sCap) := by omega
  have hw : IntKind.i64.wrap (n : Int) = n := by rw [IntKind.wrap_i64]; omega
  have h63' : ¬ (9223372036854775807 < ((sLen : Int) + (n : Int))) := by omega
  have h48' : ¬ (281474976710656 < Builtin.nextslicecap (sLen + n) sCap * i.bytes) := by omega
  have h48i : ¬ (281474976710656 < (n : Int) * (i.bytes : Int)) := by
    rw [← Int.natCast_mul]
    omega
  have hneg : ¬ ((n : Int) < 0) := by omega
  have hns : ¬ (n * i.size = 0) := Nat.mul_ne_zero (by omega) (by omega)
  have hfo := run_firstCells_some (P := P) w.drew i.size sLen b sLen sCap olds hlo (by simpa using holds)
  simp [Builtin.append_, run_underlying ht, run_underlying htn, sizeOf, typeInfo, zeroValue, hi, hz, asInt, asIntOf, hw, hn, hneg, hns, h63', h48', h48i, Question.forced, hfo, newRow, grownCap, Builtin.lenOf]
end
end Go.Proofs.Ytnlmbjmgmofeiaa.lib
