/- Whom a session is held up by, over any number: plain words; a queue of numbers that is cut at its head and grows at its end; a set of numbers as a map. -/
import Derived.Test.YtlfonenjgchklaaM7
import Derived.Deep.AppendSrc
namespace Go.Proofs.Ytlfonenjgchklaa.lk
open Go.ChangeShapes Go.WideShapes Go.ChangeAt Go.RowKit Go.Proofs.Ytlfonenjgchklaa.lib
set_option linter.unusedVariables false

/-- over one or more -/
inductive Rch (F : Int → List Int) (s : Int) : Int → Prop
  | one {y : Int} (h : y ∈ F s) : Rch F s y
  | more {x y : Int} (h : Rch F s x) (hy : y ∈ F x) : Rch F s y
theorem Rch.trans {F : Int → List Int} {a b c : Int} (h : Rch F a b) (k : Rch F b c) : Rch F a c := by
  induction k with
  | one h' => exact .more h h'
  | more _ hy ih => exact .more ih hy
/-- how many of U are not seen -/
def fresh (U seen : List Int) : Nat := (U.filter fun u => !seen.contains u).length
theorem fresh_add (U seen : List Int) (k : Int) (hk : k ∈ U) (hs : k ∉ seen) : fresh U (seen ++ [k]) + 1 ≤ fresh U seen := by
  unfold fresh
  have sub : ∀ (l : List Int), (l.filter fun u => !(seen ++ [k]).contains u).length ≤ (l.filter fun u => !seen.contains u).length := by
    intro l
    induction l with
    | nil => exact Nat.le_refl _
    | cons u r ih =>
      rw [List.filter_cons, List.filter_cons]
      by_cases h1 : u ∈ seen
      · simp [h1] at ih ⊢; exact ih
      · by_cases h2 : u = k
        · simp [h2] at ih ⊢
          by_cases h3 : k ∈ seen
          · simp [h3] at ih ⊢; exact ih
          · simp [h3] at ih ⊢; exact Nat.le_succ_of_le ih
        · simp [h1, h2] at ih ⊢; exact ih
  induction U with
  | nil => cases hk
  | cons u r ih =>
    rw [List.filter_cons, List.filter_cons]
    by_cases h2 : u = k
    · have := sub r
      subst h2
      simp [hs] at this ⊢
      exact this
    · have hr : k ∈ r := by
        rcases List.mem_cons.1 hk with h | h
        · exact absurd h.symm h2
        · exact h
      have := ih hr
      by_cases h1 : u ∈ seen
      · simp [h1] at this ⊢; exact this
      · simp [h1, h2] at this ⊢; omega
/-- the walk over all that hold one up: the queue l, what is seen -/
structure Bfs (F : Int → List Int) (s : Int) (U l seen : List Int) (M : Nat) : Prop where
  sound : ∀ z ∈ seen, Rch F s z
  inq : ∀ x ∈ l, x = s ∨ x ∈ seen
  closed : ∀ x, (x = s ∨ x ∈ seen) → x ∈ l ∨ ∀ y ∈ F x, y ∈ seen
  size : l.length + fresh U seen ≤ M
  room : seen.length + fresh U seen ≤ U.length
theorem Bfs.start (F : Int → List Int) (s : Int) (U : List Int) : Bfs F s U [s] [] (U.length + 1) := by
  have hU : fresh U [] ≤ U.length := List.length_filter_le _ _
  refine ⟨fun z h => (by cases h), fun x h => .inl (by simpa using h), fun x h => ?_, by simp; omega, by simpa using hU⟩
  rcases h with h | h
  · exact .inl (by simp [h])
  · cases h
theorem Bfs.done {F : Int → List Int} {s : Int} {U seen : List Int} {M : Nat} (h : Bfs F s U [] seen M) (z : Int) : z ∈ seen ↔ Rch F s z := by
  refine ⟨h.sound z, fun hr => ?_⟩
  have cl : ∀ x, (x = s ∨ x ∈ seen) → ∀ y ∈ F x, y ∈ seen := fun x hx => by
    rcases h.closed x hx with h1 | h1
    · cases h1
    · exact h1
  induction hr with
  | one h' => exact cl s (.inl rfl) _ h'
  | more _ hy ih => exact cl _ (.inr ih) _ hy
theorem Bfs.add {F : Int → List Int} {s x k : Int} {U l seen : List Int} {M : Nat} (h : Bfs F s U l seen M) (hx : x ∈ l) (hk : k ∈ F x) (hU : k ∈ U) (hn : k ∉ seen) : Bfs F s U (l ++ [k]) (seen ++ [k]) M := by
  have hf := fresh_add U seen k hU hn
  refine ⟨fun z hz => ?_, fun z hz => ?_, fun z hz => ?_, ?_, ?_⟩
  · rcases List.mem_append.1 hz with hz | hz
    · exact h.sound z hz
    · simp at hz
      subst hz
      rcases h.inq x hx with rfl | hs
      · exact .one hk
      · exact .more (h.sound x hs) hk
  · rcases List.mem_append.1 hz with hz | hz
    · rcases h.inq z hz with h1 | h1
      · exact .inl h1
      · exact .inr (List.mem_append_left _ h1)
    · exact .inr (List.mem_append_right _ hz)
  · have old : (z = s ∨ z ∈ seen) → z ∈ l ++ [k] ∨ ∀ y ∈ F z, y ∈ seen ++ [k] := fun hz => by
      rcases h.closed z hz with h1 | h1
      · exact .inl (List.mem_append_left _ h1)
      · exact .inr (fun y hy => List.mem_append_left _ (h1 y hy))
    rcases hz with hz | hz
    · exact old (.inl hz)
    · rcases List.mem_append.1 hz with hz | hz
      · exact old (.inr hz)
      · exact .inl (List.mem_append_right _ hz)
  · have := h.size; simp; omega
  · have := h.room; simp; omega
theorem Bfs.pop {F : Int → List Int} {s x : Int} {U r seen : List Int} {M : Nat} (h : Bfs F s U (x :: r) seen M) (hd : ∀ y ∈ F x, y ∈ seen) : Bfs F s U r seen (M - 1) ∧ 1 ≤ M := by
  have := h.size
  simp at this
  refine ⟨⟨h.sound, fun z hz => h.inq z (List.mem_cons_of_mem _ hz), fun z hz => ?_, by omega, h.room⟩, by omega⟩
  rcases h.closed z hz with h1 | h1
  · rcases List.mem_cons.1 h1 with rfl | h2
    · exact .inr hd
    · exact .inl h2
  · exact .inr h1

/-- the least number of which something holds -/
noncomputable def lst (p : Nat → Prop) : Nat := Classical.epsilon fun n => p n ∧ ∀ m, p m → n ≤ m
theorem lst_ex (p : Nat → Prop) : ∀ n, p n → ∃ n, p n ∧ ∀ m, p m → n ≤ m := by
  intro n
  induction n using Nat.strongRecOn with
  | ind n ih =>
    intro hn
    by_cases h : ∃ m, m < n ∧ p m
    · obtain ⟨m, hm, hp⟩ := h
      exact ih m hm hp
    · exact ⟨n, hn, fun m hm => by
        rcases Nat.lt_or_ge m n with h1 | h1
        · exact absurd ⟨m, h1, hm⟩ h
        · exact h1⟩
theorem lst_spec {p : Nat → Prop} (h : ∃ n, p n) : p (lst p) ∧ ∀ m, p m → lst p ≤ m := by
  obtain ⟨n, hn⟩ := h
  exact Classical.epsilon_spec (lst_ex p n hn)

/-- a set of numbers as a map -/
def St (w : World) (b : Nat) (seen : List Int) : Prop := ∃ D : DataW Unit, w.ownsMap Try.prog 3 (plainElem Try.prog 4) b seen.length D ∧ Maps.IsMap D ∧
  ∀ z, bd z → Maps.has D (.int .i64 z) = seen.contains z ∧ D.atKey (.int .i64 z) (.lit (.bool false)) = .lit (.bool (seen.contains z))
theorem St.kept {w w' : World} {row : Option Nat} {b : Nat} {seen : List Int} (h : St w b seen) (hg : w.grownBy w' row) (hne : some b ≠ row) : St w' b seen := by
  obtain ⟨D, h1, h2, h3⟩ := h
  exact ⟨D, h1.kept hg hne, h2, h3⟩
theorem St.ext {w w' : World} {b : Nat} {seen : List Int} (h : St w b seen) (hb : Below w.heap.size w w') : St w' b seen := h.kept (row := none) ⟨hb.os, hb.tape, hb.output, hb.size, fun k hk _ => hb.block k hk⟩ (by simp)
theorem St.lt {w : World} {b : Nat} {seen : List Int} (h : St w b seen) : b < w.heap.size := by
  obtain ⟨D, h1, _⟩ := h
  exact h1.lt
theorem St.map {w : World} {b : Nat} {seen : List Int} (h : St w b seen) : ∃ es cl, w.heap[b]? = some (.map es cl) := by
  obtain ⟨D, ⟨es, cl, h1, _⟩, _⟩ := h
  exact ⟨es, cl, h1⟩
theorem zeroBool (w : World) : (zeroValue 4).run Try.prog w = .ok (.bool false) w := by kernel_rfl
theorem plain_bool_inv {v : Value} {z : DataW Unit × List MemPlace} (h : plainElem Try.prog 4 v = some z) : ∃ b, v = .bool b ∧ z = (.lit (.bool b), []) := by
  unfold plainElem at h
  rw [Try.underlying4] at h
  cases v <;> simp at h
  subst h
  exact ⟨_, rfl, rfl⟩
theorem St.look {w : World} {b : Nat} {seen : List Int} (h : St w b seen) {z : Int} (hz : bd z) : (Instr.lookup 62 (.map (some b)) (.int .i64 z) false).run Try.prog w = .ok (.bool (seen.contains z)) w := by
  obtain ⟨D, h1, h2, h3⟩ := h
  obtain ⟨v, ps, hrun, hv⟩ := h1.lookup lawI Try.underlying62 (zeroBool w) (plainElem_bool Try.underlying4 false) (Maps.keyOf_int_mk Try.underlying3 (bd_wf hz))
  obtain ⟨c, rfl, hc⟩ := plain_bool_inv hv
  rw [(h3 z hz).2] at hc
  injection hc with hc _
  injection hc with hc
  injection hc with hc
  rw [hrun, hc]
theorem St.put {w : World} {b : Nat} {seen : List Int} (h : St w b seen) {z : Int} (hz : bd z) (hl : seen.length ≤ 1000000) (hn : z ∉ seen) :
    ∃ w', (Instr.mapUpdate 62 (.map (some b)) (.int .i64 z) (.bool true)).run Try.prog w = .ok () w' ∧ St w' b (seen ++ [z]) ∧ w.grownBy w' (some b) := by
  obtain ⟨D, h1, h2, h3⟩ := h
  have hk := Maps.keyOf_int_mk Try.underlying3 (bd_wf hz)
  have hkey := lawI.key hk
  obtain ⟨w', hrun, r1, r2⟩ := h1.update lawI Try.underlying62 (by unfold maxLen; omega) hk (plainElem_bool Try.underlying4 true)
  refine ⟨w', hrun, ⟨_, by simpa using r1, h2.put _ _, fun y hy => ?_⟩, r2⟩
  by_cases e : y = z
  · subst e
    rw [Maps.has_put_same h2 hkey, Maps.atKey_put_same h2 hkey]
    simp
  · have hne : Lit.int .i64 y ≠ Lit.int .i64 z := fun h => e (by injection h)
    rw [Maps.has_put_other hne, Maps.atKey_put_other hne, (h3 y hy).1, (h3 y hy).2]
    simp [e]
theorem St.made (w : World) : St (w.alloc (.map #[] 0)) w.heap.size [] :=
  ⟨.map [], World.ownsMap_made w _ _ _, Maps.isMap_empty, fun z _ => ⟨rfl, rfl⟩⟩
end Go.Proofs.Ytlfonenjgchklaa.lk
