/- The regions that draw their order, walked along one, where what every later world meets (S) is the prover's own. -/
import Derived.Test.YtfnceamkephpjaaGreatLib
namespace Go.Proofs.YtfnceamkephpjaaGreat.lib
open Go.ChangeShapes Go.WideShapes Go.ChangeAt Go.RowKit
set_option linter.unusedVariables false
theorem Blk.drew {w : World} {g : Nat} {t : TypeId} {cs : Array Value} (h : Blk w g t cs) : Blk w.drew g t cs := h
section
variable {P : Program} {ops : Array Oper} {Q : Exit → Act → World → Prop} {md : Region.Mode} {S : World → Prop}
/-- A REGION THAT DRAWS ITS ORDER, WALKED ALONG ONE: l0 (taken first), then l1 beside the blocks of A, then l2. -/
theorem wp_region_permS {id : Nat} {a : Act} {w : World} (A : List Alc) (l0 l1 l2 : List (Nat × Bool)) (hm : P.follows .mixedOrders = true)
    (hc : chkAll ops (A.map fun x => (x.j, x.d)) l0 l1 l2 = true) (hQ : ∀ c a a' w, Q (.panic c) a w → Q (.panic c) a' w)
    (hS0 : S w.drew) (hSx : ∀ w1 w2, Ext w1 w2 → S w1 → S w2) (hSn : ∀ w', S w' → w.heap.size ≤ w'.heap.size)
    (h : wpI P ops Q S (fun a1 w1 => AllocsOk P ops A a1 ∧ wpI P ops Q S
      (fun a2 w2 => ∀ γ wf, (∀ x ∈ A, (γ x.j).isSome = true) → Ext w2 wf → S wf → Made A γ w.heap.size wf → wpPerm P ops Q S l2 (cover γ a2 A) wf) l1 a1 w1) l0 a w.drew) :
    (Code.region id ops true).wp P Q a w := by
  have hmj : (A.map fun x => (x.j, x.d)).map (·.1) = A.map (·.j) := by rw [List.map_map]; rfl
  have hmd : (A.map fun x => (x.j, x.d)).map (·.2) = A.map (·.d) := by rw [List.map_map]; rfl
  unfold chkAll at hc
  simp only [hmj, hmd, Bool.and_eq_true, decide_eq_true_eq] at hc
  obtain ⟨⟨⟨⟨⟨⟨⟨⟨h1, h2⟩, h3⟩, h4⟩, h5⟩, h6⟩, h7⟩, h8⟩, h9⟩ := hc
  refine wp_region_held_drew (S := S) hm hS0 (fun _ => ?_)
  refine wpAnyH_of_T (m := l1.length + (A.map (·.j)).length + l2.length) h1 hQ l0 _ a w.drew ops.size h2 (by omega) hS0 h ?_
  intro a1 fuel ⟨hO, hI⟩ hf
  have h5' : ∀ x ∈ A, ∀ y ∈ A, ∀ o, ops[y.j]? = some o → x.d ∉ o.looksAt ops := by
    intro x hx y hy o ho
    simp only [List.all_eq_true, List.mem_map, forall_exists_index, and_imp, forall_apply_eq_imp_iff₂] at h5
    have := h5 x hx y hy
    simp only [ho] at this
    simpa using this
  have h6' : ∀ x ∈ A, x.j ∈ Region.ready .any ops (lay l0 (Array.replicate ops.size false)) ∧ (lay l0 (Array.replicate ops.size false)).getD x.j true = false := by
    intro x hx
    simp only [List.all_eq_true, List.mem_map, forall_exists_index, and_imp, forall_apply_eq_imp_iff₂, Bool.and_eq_true] at h6
    have := h6 x hx
    exact ⟨by simpa using this.1, by simpa using this.2⟩
  have key := wpAnyH_of_permI (P := P) (ops := ops) (Q := Q) (md := .any) (S := S) (A := A) (N := w.heap.size) (m := l2.length)
    (K := fun a2 w2 => ∀ γ wf, (∀ x ∈ A, (γ x.j).isSome = true) → Ext w2 wf → S wf → Made A γ w.heap.size wf → wpPerm P ops Q S l2 (cover γ a2 A) wf)
    h1 hQ (nodupB_spec _ h3) (nodupB_spec _ h4) h5' hSx hSn (lay l1 (lay l0 (Array.replicate ops.size false)))
    (fun γ a2 w2 wf fuel hall hK he hb hM hf => by
      rw [marked_all _ A hall]
      exact wpAnyH_of_perm h1 (fun c a d v w => hQ c _ _ w) l2 fuel _ _ wf h8 hf hb (hK γ wf hall he hb hM))
    fuel l1 (lay l0 (Array.replicate ops.size false)) a1 w.drew w.drew (fun _ => none) h7 rfl (by rw [lay_size]; simp) (fun x hx => (h6' x hx).2) ?_ hI (Ext.refl _) hS0
    ⟨fun _ _ _ h => (by cases h), fun _ _ _ h => (by cases h), fun _ _ _ _ _ _ _ h => (by cases h)⟩ hO (fun x hx => (h6' x hx).1)
  · rw [marked_none, cover_none] at key
    exact key
  · have h0 : (A.filter fun _ => (none : Option Nat).isNone).length ≤ A.length := List.length_filter_le _ _
    simp only [List.length_map] at hf
    show l1.length + (A.filter fun _ => (none : Option Nat).isNone).length + l2.length ≤ fuel
    omega

theorem wp_region_mixS {id : Nat} {a : Act} {w : World} (A : List Alc) (l0 l1 l2 : List (Nat × Bool)) (hm : P.follows .mixedOrders = true)
    (hc : chkAll ops (A.map fun x => (x.j, x.d)) l0 l1 l2 = true) (hS0 : S w.drew) (hSx : ∀ w1 w2, Ext w1 w2 → S w1 → S w2) (hSn : ∀ w', S w' → w.heap.size ≤ w'.heap.size)
    (h : wpI P ops (NoPanic Q) S (fun a1 w1 => AllocsOk P ops A a1 ∧ wpI P ops (NoPanic Q) S
      (fun a2 w2 => ∀ γ wf, (∀ x ∈ A, (γ x.j).isSome = true) → Ext w2 wf → S wf → Made A γ w.heap.size wf → wpPerm P ops (NoPanic Q) S l2 (cover γ a2 A) wf) l1 a1 w1) l0 a w.drew) :
    (Code.region id ops true).wp P Q a w :=
  wp_region_noPanic (wp_region_permS A l0 l1 l2 hm hc (fun _ _ _ _ h => h) hS0 hSx hSn h)
/-- no blocks beside calls: one order; what every later world meets is the prover's own -/
theorem wp_region_oneS {id : Nat} {a : Act} {w : World} (l : List (Nat × Bool)) (hm : P.follows .mixedOrders = true) (hs : Region.noSelect ops = true)
    (hp : permOk .any ops l (Array.replicate ops.size false) = true) (hl : l.length ≤ ops.size) (hS0 : S w.drew)
    (h : wpPerm P ops (NoPanic Q) S l a w.drew) : (Code.region id ops true).wp P Q a w :=
  wp_region_noPanic (wp_region_perm l hm hs hp hl (fun _ _ _ _ _ h => h) hS0 h)
/-- 1 block(s) beside the calls -/
theorem wp_region_mixS1 {id : Nat} {a : Act} {w : World} (x1 : Alc) (l0 l1 l2 : List (Nat × Bool)) (hm : P.follows .mixedOrders = true)
    (hc : chkAll ops ([x1].map fun x => (x.j, x.d)) l0 l1 l2 = true) (hS0 : S w.drew) (hSx : ∀ w1 w2, Ext w1 w2 → S w1 → S w2) (hSn : ∀ w', S w' → w.heap.size ≤ w'.heap.size)
    (h : wpI P ops (NoPanic Q) S (fun a1 w1 => AllocsOk P ops [x1] a1 ∧ wpI P ops (NoPanic Q) S
      (fun a2 w2 => ∀ g1 wf, Ext w2 wf → S wf → w.heap.size ≤ g1 → g1 < wf.heap.size → wf.heap[g1]? = some x1.o →
        wpPerm P ops (NoPanic Q) S l2 (a2.put (some x1.d) (x1.val g1)) wf) l1 a1 w1) l0 a w.drew) :
    (Code.region id ops true).wp P Q a w := by
  have hn : ([x1].map (·.j)).Nodup := by
    have hc' := hc
    unfold chkAll at hc'
    simp only [Bool.and_eq_true] at hc'
    have h3 := nodupB_spec _ hc'.1.1.1.1.1.1.2
    exact h3
  refine wp_region_mixS [x1] l0 l1 l2 hm hc hS0 hSx hSn (wpI_mono (fun a1 w1 ⟨hO, hI⟩ => ⟨hO, wpI_mono (fun a2 w2 hK => ?_) l1 a1 w1 hI⟩) l0 a w.drew h)
  intro γ wf hall he hb hM
  obtain ⟨g1, e1⟩ := Option.isSome_iff_exists.1 (hall x1 (by simp))
  have hcov : cover γ a2 [x1] = (a2.put (some x1.d) (x1.val g1)) := by simp only [cover, e1]
  rw [hcov]
  exact hK g1 wf he hb (hM.lo x1 (by simp) g1 e1).1 (hM.lo x1 (by simp) g1 e1).2 (hM.at_ x1 (by simp) g1 e1) 

/-- 2 block(s) beside the calls -/
theorem wp_region_mixS2 {id : Nat} {a : Act} {w : World} (x1 x2 : Alc) (l0 l1 l2 : List (Nat × Bool)) (hm : P.follows .mixedOrders = true)
    (hc : chkAll ops ([x1, x2].map fun x => (x.j, x.d)) l0 l1 l2 = true) (hS0 : S w.drew) (hSx : ∀ w1 w2, Ext w1 w2 → S w1 → S w2) (hSn : ∀ w', S w' → w.heap.size ≤ w'.heap.size)
    (h : wpI P ops (NoPanic Q) S (fun a1 w1 => AllocsOk P ops [x1, x2] a1 ∧ wpI P ops (NoPanic Q) S
      (fun a2 w2 => ∀ g1 g2 wf, Ext w2 wf → S wf → w.heap.size ≤ g1 → g1 < wf.heap.size → wf.heap[g1]? = some x1.o → w.heap.size ≤ g2 → g2 < wf.heap.size → wf.heap[g2]? = some x2.o → g1 ≠ g2 →
        wpPerm P ops (NoPanic Q) S l2 ((a2.put (some x2.d) (x2.val g2)).put (some x1.d) (x1.val g1)) wf) l1 a1 w1) l0 a w.drew) :
    (Code.region id ops true).wp P Q a w := by
  have hn : ([x1, x2].map (·.j)).Nodup := by
    have hc' := hc
    unfold chkAll at hc'
    simp only [Bool.and_eq_true] at hc'
    have h3 := nodupB_spec _ hc'.1.1.1.1.1.1.2
    exact h3
  refine wp_region_mixS [x1, x2] l0 l1 l2 hm hc hS0 hSx hSn (wpI_mono (fun a1 w1 ⟨hO, hI⟩ => ⟨hO, wpI_mono (fun a2 w2 hK => ?_) l1 a1 w1 hI⟩) l0 a w.drew h)
  intro γ wf hall he hb hM
  obtain ⟨g1, e1⟩ := Option.isSome_iff_exists.1 (hall x1 (by simp))
  obtain ⟨g2, e2⟩ := Option.isSome_iff_exists.1 (hall x2 (by simp))
  have hcov : cover γ a2 [x1, x2] = ((a2.put (some x2.d) (x2.val g2)).put (some x1.d) (x1.val g1)) := by simp only [cover, e1, e2]
  rw [hcov]
  simp only [List.map_cons, List.map_nil, List.nodup_cons, List.mem_cons, List.not_mem_nil, or_false, not_false_eq_true, List.nodup_nil, and_true] at hn
  exact hK g1 g2 wf he hb (hM.lo x1 (by simp) g1 e1).1 (hM.lo x1 (by simp) g1 e1).2 (hM.at_ x1 (by simp) g1 e1) (hM.lo x2 (by simp) g2 e2).1 (hM.lo x2 (by simp) g2 e2).2 (hM.at_ x2 (by simp) g2 e2) (hM.ne_ x1 (by simp) x2 (by simp) hn g1 g2 e1 e2)

end
end Go.Proofs.YtfnceamkephpjaaGreat.lib
