/- A region that draws its order, walked along a tree of orders: where two operations may come up, both are walked. -/
import Derived.Test.YtfnceamkephpjaaGreatLib
namespace Go.Proofs.YtfnceamkephpjaaGreat.lib
open Go.ChangeShapes Go.WideShapes Go.ChangeAt Go.RowKit
set_option linter.unusedVariables false

inductive Tr
  | nil
  | take (i : Nat) (r : Tr)
  | one (i : Nat) (r : Tr)
  | two (i j : Nat) (ri rj : Tr)
def Tr.depth : Tr → Nat
  | .nil => 0
  | .take _ r => r.depth + 1
  | .one _ r => r.depth + 1
  | .two _ _ ri rj => max ri.depth rj.depth + 1

section
variable {P : Program} {ops : Array Oper} {Q : Exit → Act → World → Prop} {md : Region.Mode} {S : World → Prop}

def treeOk (md : Region.Mode) (ops : Array Oper) : Tr → Array Bool → Bool
  | .nil, l => (Region.ready md ops l).isEmpty
  | .take i r, l => (Region.ready md ops l).contains i && Region.free md ops l i && treeOk md ops r (l.setIfInBounds i true)
  | .one i r, l => (match Region.ready md ops l with | [j] => j == i | _ => false) && treeOk md ops r (l.setIfInBounds i true)
  | .two i j ri rj, l => (match Region.ready md ops l with | [i', j'] => i' == i && j' == j | _ => false) && treeOk md ops ri (l.setIfInBounds i true) && treeOk md ops rj (l.setIfInBounds j true)

def wpTree (P : Program) (ops : Array Oper) (Q : Exit → Act → World → Prop) (S : World → Prop) : Tr → Act → World → Prop
  | .nil, a, w => Q .normal a w
  | .take i r, a, w => ∃ o v, ops[i]? = some o ∧ YieldsIf P ops S o v a ∧ wpTree P ops Q S r (a.put o.dst v) w
  | .one i r, a, w => wpOp P ops Q i (fun a' w' => S w' ∧ wpTree P ops Q S r a' w') a w
  | .two i j ri rj, a, w => wpOp P ops Q i (fun a' w' => S w' ∧ wpTree P ops Q S ri a' w') a w ∧ wpOp P ops Q j (fun a' w' => S w' ∧ wpTree P ops Q S rj a' w') a w

theorem wpAnyH_of_tree (hs : Region.noSelect ops = true) (hQ : ∀ c a d v w, Q (.panic c) (a.put d v) w → Q (.panic c) a w) :
    ∀ (t : Tr) (fuel : Nat) (listed : Array Bool) (a : Act) (w : World), treeOk md ops t listed = true → t.depth ≤ fuel → S w → wpTree P ops Q S t a w → wpAnyH P md ops Q S fuel listed a w
  | .nil, fuel, listed, a, w, hp, _, _, h => wpAnyH_done (by simpa [treeOk] using hp) h fuel
  | .take i r, 0, listed, a, w, _, hf, _, _ => absurd hf (by simp [Tr.depth])
  | .one i r, 0, listed, a, w, _, hf, _, _ => absurd hf (by simp [Tr.depth])
  | .two i j ri rj, 0, listed, a, w, _, hf, _, _ => absurd hf (by simp [Tr.depth])
  | .take i r, fuel + 1, listed, a, w, hp, hf, hS, h => by
    simp only [treeOk, Bool.and_eq_true] at hp
    obtain ⟨⟨h1, h2⟩, h3⟩ := hp
    obtain ⟨o, v, ho, hy, hr⟩ := h
    exact wpAnyH_take ho hs h2 h1 (fun c a w => hQ c a _ _ w) hy hS (wpAnyH_of_tree hs hQ r fuel _ _ _ h3 (by simp [Tr.depth] at hf; omega) hS hr)
  | .one i r, fuel + 1, listed, a, w, hp, hf, hS, h => by
    simp only [treeOk, Bool.and_eq_true] at hp
    obtain ⟨h1, h3⟩ := hp
    have hr : Region.ready md ops listed = [i] := by
      revert h1
      match Region.ready md ops listed with
      | [] => simp
      | [j] => simp
      | _ :: _ :: _ => simp
    refine wpAnyH_all hr (by simp) ?_
    intro j hj
    have hj : j = i := by simpa using hj
    subst hj
    exact wpOp_mono (fun a' w' h' => ⟨h'.1, wpAnyH_of_tree hs hQ r fuel _ a' w' h3 (by simp [Tr.depth] at hf; omega) h'.1 h'.2⟩) h
  | .two i j ri rj, fuel + 1, listed, a, w, hp, hf, hS, h => by
    simp only [treeOk, Bool.and_eq_true] at hp
    obtain ⟨⟨h1, h3⟩, h4⟩ := hp
    have hr : Region.ready md ops listed = [i, j] := by
      revert h1
      match Region.ready md ops listed with
      | [] => simp
      | [x] => simp
      | [x, y] => simp
      | _ :: _ :: _ :: _ => simp
    have hd : ri.depth ≤ fuel ∧ rj.depth ≤ fuel := by simp [Tr.depth] at hf; omega
    refine wpAnyH_all hr (by simp) ?_
    intro k hk
    have hk : k = i ∨ k = j := by simpa using hk
    rcases hk with rfl | rfl
    · exact wpOp_mono (fun a' w' h' => ⟨h'.1, wpAnyH_of_tree hs hQ ri fuel _ a' w' h3 hd.1 h'.1 h'.2⟩) h.1
    · exact wpOp_mono (fun a' w' h' => ⟨h'.1, wpAnyH_of_tree hs hQ rj fuel _ a' w' h4 hd.2 h'.1 h'.2⟩) h.2

theorem wp_region_tree {id : Nat} {a : Act} {w : World} (t : Tr) (hm : P.follows .mixedOrders = true) (hs : Region.noSelect ops = true)
    (hp : treeOk .any ops t (Array.replicate ops.size false) = true) (hl : t.depth ≤ ops.size) (hQ : ∀ c a d v w, Q (.panic c) (a.put d v) w → Q (.panic c) a w)
    (hS : S w.drew) (h : wpTree P ops Q S t a w.drew) : (Code.region id ops true).wp P Q a w :=
  wp_region_held_drew (S := S) hm hS (fun _ => wpAnyH_of_tree hs hQ t ops.size _ a _ hp hl hS h)

theorem wpTree_off {i : Nat} {r : Tr} {a : Act} {w : World} {o : Oper} {d : Tmp} (ho : ops[i]? = some o) (hd : o.dst = some d) (hw : Region.wanted o (yielded ops a.tmps) = false)
    (h : wpTree P ops Q S r { a with tmps := a.tmps.setIfInBounds d undef } w) : wpTree P ops Q S (.take i r) a w :=
  ⟨o, undef, ho, .inr ⟨hw, rfl⟩, by rw [hd]; exact h⟩
theorem wpTree_on {i : Nat} {r : Tr} {a : Act} {w : World} {o : Oper} {v : Value} {d : Tmp} (ho : ops[i]? = some o) (hd : o.dst = some d) (hw : Region.wanted o (yielded ops a.tmps) = true)
    (hy : ∀ w, S w → (execOp a.eval o).run P w = .ok (.value v) w)
    (h : wpTree P ops Q S r { a with tmps := a.tmps.setIfInBounds d v } w) : wpTree P ops Q S (.take i r) a w :=
  ⟨o, v, ho, .inl ⟨hw, hy⟩, by rw [hd]; exact h⟩
theorem wpTree_op {i : Nat} {r : Tr} {a : Act} {w : World} {o : Oper} (ho : ops[i]? = some o) (hw : Region.wanted o (yielded ops a.tmps) = true)
    (h : ∀ K : Act → World → Prop, Shut (∀ a w, S w → wpTree P ops Q S r a w → K a w) → Oper.wp P o a w K Q) : wpOp P ops Q i (fun a' w' => S w' ∧ wpTree P ops Q S r a' w') a w :=
  wpOp_step (P := P) (ops := ops) (Q := Q) (a := a) (w := w) (K := fun a' w' => S w' ∧ wpTree P ops Q S r a' w') ho (fun K hK => by
    rw [if_pos hw]
    exact h K (fun a w hs hr => hK a w ⟨hs, hr⟩))
theorem wpTree_do {i : Nat} {r : Tr} {a : Act} {w : World} {o : Oper} (ho : ops[i]? = some o) (hw : Region.wanted o (yielded ops a.tmps) = true)
    (h : ∀ K : Act → World → Prop, Shut (∀ a w, S w → wpTree P ops Q S r a w → K a w) → Oper.wp P o a w K Q) : wpTree P ops Q S (.one i r) a w := wpTree_op ho hw h
theorem wpTree_both {i j : Nat} {ri rj : Tr} {a : Act} {w : World} {oi oj : Oper} (hi : ops[i]? = some oi) (hwi : Region.wanted oi (yielded ops a.tmps) = true) (hj : ops[j]? = some oj) (hwj : Region.wanted oj (yielded ops a.tmps) = true)
    (h1 : ∀ K : Act → World → Prop, Shut (∀ a w, S w → wpTree P ops Q S ri a w → K a w) → Oper.wp P oi a w K Q)
    (h2 : ∀ K : Act → World → Prop, Shut (∀ a w, S w → wpTree P ops Q S rj a w → K a w) → Oper.wp P oj a w K Q) : wpTree P ops Q S (.two i j ri rj) a w :=
  ⟨wpTree_op hi hwi h1, wpTree_op hj hwj h2⟩
theorem wpTree_end {a : Act} {w : World} (h : Q .normal a w) : wpTree P ops Q S .nil a w := h
end
attribute [irreducible] wpTree
end Go.Proofs.YtfnceamkephpjaaGreat.lib
