/- A region that draws its order, with blocks beside its calls, where what every later world meets grows along the walk (what a call hands back may be said of it). Printed by genj.py out of XLib. -/
import Derived.Test.YtnlmbjmgmofeiaaLib
namespace Go.Proofs.Ytnlmbjmgmofeiaa.lib
open Go.ChangeShapes Go.WideShapes Go.ChangeAt Go.RowKit
set_option linter.unusedVariables false
section
variable {P : Program} {ops : Array Oper} {Q : Exit → Act → World → Prop} {md : Region.Mode}
/-- The walk along one order, while others may make blocks; behind each operation that is carried out more may be said of every later world. -/
def wpJ (P : Program) (ops : Array Oper) (Q : Exit → Act → World → Prop) (K : (World → Prop) → Act → World → Prop) : List (Nat × Bool) → (World → Prop) → Act → World → Prop
  | [], S, a, w => K S a w
  | (i, true) :: r, S, a, w => ∃ o v, ops[i]? = some o ∧ YieldsIf P ops S o v a ∧ wpJ P ops Q K r S (a.put o.dst v) w
  | (i, false) :: r, S, a, w => ∀ w', Ext w w' → S w' → wpOp P ops Q i (fun a'' w'' => Ext w' w'' ∧ ∃ S', (∀ x, S' x → S x) ∧ (∀ x y, Ext x y → S' x → S' y) ∧ S' w'' ∧ wpJ P ops Q K r S' a'' w'') a w'
theorem wpAnyH_weak {S S' : World → Prop} (h : ∀ w, S' w → S w) : ∀ (fuel : Nat) (listed : Array Bool) (a : Act) (w : World), wpAnyH P md ops Q S' fuel listed a w → wpAnyH P md ops Q S fuel listed a w
  | 0, _, _, _, k => k
  | fuel + 1, _, _, _, k => ⟨k.1, fun i hi => wpOp_mono (fun a' w' h' => ⟨h w' h'.1, wpAnyH_weak h fuel _ a' w' h'.2⟩) (k.2 i hi)⟩
theorem wpAnyH_of_permJ {A : List Alc} {N : Nat} {K : (World → Prop) → Act → World → Prop} {m : Nat} (hsel : Region.noSelect ops = true) (hQ : ∀ c a a' w, Q (.panic c) a w → Q (.panic c) a' w)
    (hj : (A.map (·.j)).Nodup) (hd : (A.map (·.d)).Nodup) (hAA : ∀ x ∈ A, ∀ y ∈ A, ∀ o, ops[y.j]? = some o → x.d ∉ o.looksAt ops)
    (lf : Array Bool)
    (hK : ∀ (γ : Nat → Option Nat) (S : World → Prop) (a : Act) (w wf : World) (fuel : Nat), (∀ x ∈ A, (γ x.j).isSome = true) → K S a w → Ext w wf → S wf → Made A γ N wf → m ≤ fuel →
      wpAnyH P md ops Q S fuel (marked γ lf A) (cover γ a A) wf) :
    ∀ (fuel : Nat) (l1 : List (Nat × Bool)) (S : World → Prop) (l : Array Bool) (a : Act) (w wc : World) (γ : Nat → Option Nat), (∀ w w', Ext w w' → S w → S w') → (∀ w, S w → N ≤ w.heap.size) → chkI md ops (A.map (·.j)) l1 l = true → lay l1 l = lf → l.size = ops.size →
      (∀ x ∈ A, l.getD x.j true = false) → l1.length + (A.filter fun x => (γ x.j).isNone).length + m ≤ fuel → wpJ P ops Q K l1 S a w → Ext w wc → S wc → Made A γ N wc → AllocsOk P ops A a →
      (∀ x ∈ A, x.j ∈ Region.ready md ops l) → wpAnyH P md ops Q S fuel (marked γ l A) (cover γ a A) wc := by
  intro fuel
  induction fuel with
  | zero =>
    intro l1 S l a w wc γ hSx hN hc hlay hsz hlA hf hI he hS hM hO hrA
    have h1 : l1 = [] := by cases l1 <;> simp at hf <;> rfl
    subst h1
    have hall : ∀ x ∈ A, (γ x.j).isSome = true := fun x hx => by
      cases hx' : γ x.j with
      | some g => rfl
      | none =>
        have : x ∈ A.filter fun x => (γ x.j).isNone := List.mem_filter.2 ⟨hx, by rw [hx']; rfl⟩
        have := List.length_pos_of_mem this
        omega
    subst hlay
    exact hK γ S a w wc 0 hall hI he hS hM (by omega)
  | succ fuel ih =>
    intro l1 S l a w wc γ hSx hN hc hlay hsz hlA hf hI he hS hM hO hrA
    -- an alloc comes up
    have step : ∀ x ∈ A, γ x.j = none → x.j ∈ Region.ready md ops (marked γ l A) →
        wpOp P ops Q x.j (fun a' w' => S w' ∧ wpAnyH P md ops Q S fuel ((marked γ l A).setIfInBounds x.j true) a' w') (cover γ a A) wc := by
      intro x hx hγ hr
      obtain ⟨o, ho, hdo, hw, hrun⟩ := hO x hx
      have hsx : ∀ cs b, o.op ≠ .select cs b := fun cs b => Region.noSelect_spec hsel x.j o cs b ho
      have hlk : ∀ y ∈ A, y.d ∉ o.looksAt ops := fun y hy => hAA y hy x hx o ho
      unfold wpOp
      simp only [ho]
      rw [cover_wanted o a A hlk, if_pos hw]
      refine .inl ?_
      unfold Oper.wp
      rw [cover_exec (ops := ops) o hsx a A hlk, hrun wc]
      simp only [Oper.upon]
      have hext : Ext wc (wc.alloc x.o) := (Below.refl _ _).alloc (Nat.le_refl _) _
      refine ⟨hSx _ _ hext hS, ?_⟩
      have h1 := cover_upd a x wc.heap.size hγ A hj hd hx
      have h2 := marked_upd l x wc.heap.size hγ A hj hx
      rw [hdo, ← h1, ← h2]
      refine ih l1 S l a w (wc.alloc x.o) (upd γ x.j wc.heap.size) hSx hN hc hlay hsz hlA ?_ hI (he.trans hext) (hSx _ _ hext hS) ?_ hO hrA
      · have hlt : (A.filter fun y => (upd γ x.j wc.heap.size y.j).isNone).length < (A.filter fun y => (γ y.j).isNone).length := by
          have hsub : ∀ (B : List Alc), (B.filter fun y => (upd γ x.j wc.heap.size y.j).isNone).length ≤ (B.filter fun y => (γ y.j).isNone).length ∧ (x ∈ B → (B.filter fun y => (upd γ x.j wc.heap.size y.j).isNone).length < (B.filter fun y => (γ y.j).isNone).length) := by
            intro B
            induction B with
            | nil => simp
            | cons y B ihB =>
              simp only [List.filter_cons]
              by_cases hy : y.j = x.j
              · have e1 : (upd γ x.j wc.heap.size y.j).isNone = false := by unfold upd; rw [if_pos hy]; rfl
                have e2 : (γ y.j).isNone = true := by rw [hy, hγ]; rfl
                rw [e1, e2]
                simp only [Bool.false_eq_true, if_false, if_true, List.length_cons]
                exact ⟨by omega, fun _ => by omega⟩
              · have e1 : upd γ x.j wc.heap.size y.j = γ y.j := by unfold upd; rw [if_neg hy]
                rw [e1]
                have hxy : x ∈ y :: B → x ∈ B := fun h => by
                  rcases List.mem_cons.1 h with h | h
                  · exact absurd (by rw [h]) hy
                  · exact h
                split
                · simp only [List.length_cons]
                  exact ⟨by omega, fun h => by have := ihB.2 (hxy h); omega⟩
                · exact ⟨ihB.1, fun h => ihB.2 (hxy h)⟩
          exact (hsub A).2 hx
        omega
      · have hsz' : (wc.alloc x.o).heap.size = wc.heap.size + 1 := by simp
        refine ⟨fun y hy g hg => ?_, fun y hy g hg => ?_, fun y hy z hz hne g h hg hh => ?_⟩
        · unfold upd at hg
          split at hg
          · injection hg with hg; subst hg; exact ⟨hN _ hS, by omega⟩
          · have := hM.lo y hy g hg; exact ⟨this.1, by omega⟩
        · unfold upd at hg
          split at hg
          · rename_i hyx
            injection hg with hg
            have hyx' : y = x := by
              exact alc_inj A hj y hy x hx hyx
            rw [hyx', ← hg]
            show (wc.heap.push x.o)[wc.heap.size]? = some x.o
            simp
          · have h1 := hM.lo y hy g hg
            exact (hext.block g h1.2).trans (hM.at_ y hy g hg)
        · unfold upd at hg hh
          split at hg
          · rename_i e1
            split at hh
            · rename_i e2; exact absurd (e1.trans e2.symm) hne
            · injection hg with hg
              have := hM.lo z hz h hh
              omega
          · split at hh
            · injection hh with hh
              have := hM.lo y hy g hg
              omega
            · exact hM.ne_ y hy z hz hne g h hg hh
    match l1, hc, hlay, hf, hI with
    | [], hc, hlay, hf, hI =>
      by_cases hall : ∀ x ∈ A, (γ x.j).isSome = true
      · subst hlay
        exact hK γ S a w wc (fuel + 1) hall hI he hS hM (by simp at hf; omega)
      · simp only [chkI, List.all_eq_true] at hc
        have hnone : ∃ x ∈ A, γ x.j = none := by
          apply Classical.byContradiction
          intro h
          apply hall
          intro x hx
          cases e : γ x.j with
          | some g => rfl
          | none => exact absurd ⟨x, hx, e⟩ h
        have hrdy : ∀ k ∈ Region.ready md ops (marked γ l A), ∃ x ∈ A, x.j = k ∧ γ x.j = none := by
          intro k hk
          obtain ⟨x, hx, hγ⟩ := hnone
          by_cases hkA : ∃ y ∈ A, y.j = k
          · obtain ⟨y, hy, rfl⟩ := hkA
            refine ⟨y, hy, rfl, ?_⟩
            obtain ⟨h0, o, ho, _⟩ := mem_ready.1 hk
            cases e : γ y.j with
            | none => rfl
            | some g =>
              have hlt : y.j < l.size := by rw [hsz]; exact (Array.getElem?_eq_some_iff.1 ho).1
              have := (marked_getD (γ := γ) l y.j true hlt A).2 (.inr ⟨y, hy, rfl, by rw [e]; rfl⟩)
              rw [h0] at this
              cases this
          · have h1 := ready_sub (md := md) (γ := γ) (A := A) (l := l) (A' := (A.map (·.j)).filter (· != x.j)) hsz (fun y hy hs => by
              simp only [List.mem_filter, List.mem_map]
              refine ⟨⟨y, hy, rfl⟩, ?_⟩
              have : y.j ≠ x.j := fun e => by rw [e, hγ] at hs; cases hs
              simpa using this) hk (fun h => by
              simp only [List.mem_filter, List.mem_map] at h
              obtain ⟨⟨y, hy, e⟩, _⟩ := h
              exact hkA ⟨y, hy, e⟩)
            have h2 := hc x.j (List.mem_map.2 ⟨x, hx, rfl⟩) k h1
            exact ⟨x, hx, by simpa using (beq_iff_eq.1 h2).symm, hγ⟩
        refine ⟨fun h0 => ?_, fun k hk => ?_⟩
        · obtain ⟨x, hx, hγ⟩ := hnone
          have hxr : x.j ∈ Region.ready md ops (marked γ l A) := by
            have h1 := hrA x hx
            obtain ⟨h0', o, ho, hal⟩ := mem_ready.1 h1
            have hlt : x.j < l.size := by rw [hsz]; exact (Array.getElem?_eq_some_iff.1 ho).1
            refine mem_ready.2 ⟨?_, o, ho, fun e he' hb => ?_⟩
            · have : ¬ (marked γ l A).getD x.j true = true := by
                rw [marked_getD l x.j true hlt A]
                rintro (h | ⟨_, _, _, h⟩)
                · rw [h0'] at h; cases h
                · rw [hγ] at h; cases h
              simpa using this
            · have h2 := hal e he' hb
              have hlt2 : e.on < l.size := by
                rcases Nat.lt_or_ge e.on l.size with h | h
                · exact h
                · simp only [Array.getD_eq_getD_getElem?] at h2
                  rw [Array.getElem?_eq_none (by omega)] at h2
                  simp at h2
              exact (marked_getD l _ _ hlt2 A).2 (.inl h2)
          rw [h0] at hxr
          cases hxr
        · obtain ⟨x, hx, rfl, hγ⟩ := hrdy k hk
          exact step x hx hγ hk
    | (i, true) :: r, hc, hlay, hf, hI =>
      simp only [chkI, Bool.and_eq_true, List.all_eq_true, List.mem_map, forall_exists_index, and_imp, forall_apply_eq_imp_iff₂, bne_iff_ne, ne_eq] at hc
      obtain ⟨⟨⟨h1, h2⟩, h3⟩, h4⟩ := hc
      obtain ⟨o, v, ho, hy, hr⟩ := hI
      have hli : ∀ x ∈ A, x.j ≠ i := fun x hx => (h3 x hx).1
      have hir : i ∈ Region.ready md ops (marked γ l A) := by
        have h1' : i ∈ Region.ready md ops l := by simpa using h1
        clear h1
        have hh : ∀ B : List Alc, (∀ x ∈ B, x.j ≠ i) → i ∈ Region.ready md ops (marked γ l B) := by
          intro B
          induction B with
          | nil => intro _; exact h1'
          | cons x B ihB =>
            intro hB
            have := ihB (fun y hy => hB y (List.mem_cons_of_mem _ hy))
            unfold marked
            cases γ x.j with
            | none => exact this
            | some g => exact ready_mono this (fun e => hB x (List.mem_cons_self ..) e.symm)
        exact hh A hli
      have hap : ∀ x ∈ A, x.d ∉ o.looksAt ops ∧ o.dst ≠ some x.d := by
        intro x hx
        obtain ⟨ox, hox, hdx, _⟩ := hO x hx
        obtain ⟨g1, g2, g3⟩ := Oper.apart_spec (apartB_spec ho hox (h3 x hx).2).1
        exact ⟨g3 x.d hdx, fun e => g2 x.d e hdx⟩
      have hsi : ∀ cs b, o.op ≠ .select cs b := fun cs b => Region.noSelect_spec hsel i o cs b ho
      have hy' : YieldsIf P ops S o v (cover γ a A) := hy.of_same (cover_exec (ops := ops) o hsi a A (fun x hx => (hap x hx).1)) (cover_wanted o a A (fun x hx => (hap x hx).1))
      refine wpAnyH_first ho (Region.noSelect_spec hsel) (fun c a w => hQ c _ _ w) fuel _ _ _ (fun j oj hoj hne hun hno => ?_) hir hy' hS ?_
      · refine Region.free_spec ho h2 j oj hoj hne ?_ hno
        have hlt : j < l.size := by rw [hsz]; exact (Array.getElem?_eq_some_iff.1 hoj).1
        have h5 : ¬ (marked γ l A).getD j true = true := by rw [hun]; decide
        rw [marked_getD l j true hlt A] at h5
        have h6 : ¬ l.getD j true = true := fun e => h5 (.inl e)
        simpa using h6
      · rw [← marked_set l i A hli, ← cover_put a _ v A (fun x hx => (hap x hx).2)]
        have hlen : ((i, true) :: r).length = r.length + 1 := rfl
        refine ih r S (l.setIfInBounds i true) (a.put o.dst v) w wc γ hSx hN h4 hlay (by simpa using hsz) (fun x hx => ?_) (by omega) hr he hS hM (allocsOk_put hsel ho (fun x hx => (h3 x hx).2) a v hO) (fun x hx => ready_mono (hrA x hx) (hli x hx))
        rw [getD_set_ne _ (fun e => hli x hx e.symm)]
        exact hlA x hx
    | (i, false) :: r, hc, hlay, hf, hI =>
      simp only [chkI, Bool.and_eq_true, List.all_eq_true, List.mem_map, forall_exists_index, and_imp, forall_apply_eq_imp_iff₂, bne_iff_ne, ne_eq] at hc
      obtain ⟨⟨⟨h0r, h1⟩, h3⟩, h4⟩ := hc
      have hli : ∀ x ∈ A, x.j ≠ i := fun x hx => (h3 x hx).1
      have hir : i ∈ Region.ready md ops (marked γ l A) := by
        have h1' : i ∈ Region.ready md ops l := by simpa using h0r
        clear h1
        have hh : ∀ B : List Alc, (∀ x ∈ B, x.j ≠ i) → i ∈ Region.ready md ops (marked γ l B) := by
          intro B
          induction B with
          | nil => intro _; exact h1'
          | cons x B ihB =>
            intro hB
            have := ihB (fun y hy => hB y (List.mem_cons_of_mem _ hy))
            unfold marked
            cases γ x.j with
            | none => exact this
            | some g => exact ready_mono this (fun e => hB x (List.mem_cons_self ..) e.symm)
        exact hh A hli
      have hne : Region.ready md ops (marked γ l A) ≠ [] → True := fun _ => trivial
      have hst : ∀ k ∈ Region.ready md ops (marked γ l A), wpOp P ops Q k (fun a' w' => S w' ∧ wpAnyH P md ops Q S fuel ((marked γ l A).setIfInBounds k true) a' w') (cover γ a A) wc := by
        intro k hk
        by_cases hkA : ∃ y ∈ A, y.j = k
        · obtain ⟨y, hy, rfl⟩ := hkA
          obtain ⟨h0, o, ho, _⟩ := mem_ready.1 hk
          have hγ : γ y.j = none := by
            cases e : γ y.j with
            | none => rfl
            | some g =>
              have hlt : y.j < l.size := by rw [hsz]; exact (Array.getElem?_eq_some_iff.1 ho).1
              have := (marked_getD (γ := γ) l y.j true hlt A).2 (.inr ⟨y, hy, rfl, by rw [e]; rfl⟩)
              rw [h0] at this
              cases this
          exact step y hy hγ hk
        · have h5 := ready_sub (md := md) (γ := γ) (A := A) (l := l) (A' := A.map (·.j)) hsz (fun y hy hs => List.mem_map.2 ⟨y, hy, rfl⟩) hk (fun h => by
            obtain ⟨y, hy, e⟩ := List.mem_map.1 h
            exact hkA ⟨y, hy, e⟩)
          have h6 : k = i := by simpa using h1 k h5
          subst h6
          obtain ⟨_, o, ho, _⟩ := mem_ready.1 hk
          have hsi : ∀ cs b, o.op ≠ .select cs b := fun cs b => Region.noSelect_spec hsel k o cs b ho
          have hap : ∀ x ∈ A, x.d ∉ o.looksAt ops ∧ o.dst ≠ some x.d := by
            intro x hx
            obtain ⟨ox, hox, hdx, _⟩ := hO x hx
            obtain ⟨g1, g2, g3⟩ := Oper.apart_spec (apartB_spec ho hox (h3 x hx).2).1
            exact ⟨g3 x.d hdx, fun e => g2 x.d e hdx⟩
          have h7 := wpOp_cover (γ := γ) (A := A) ho hsi hap hQ (AllocsOk P ops A) (fun a u hz => allocsOk_put hsel ho (fun x hx => (h3 x hx).2) a u hz) (fun a d hz => hz) hO (hI wc he hS)
          refine wpOp_mono (fun a' w' hh => ?_) h7
          obtain ⟨a0, rfl, hO0, he0, S', hsub, hcl, hS', hr0⟩ := hh
          refine ⟨hSx _ _ he0 hS, wpAnyH_weak hsub _ _ _ _ ?_⟩
          rw [← marked_set l k A hli]
          have hlen : ((k, false) :: r).length = r.length + 1 := rfl
          refine ih r S' (l.setIfInBounds k true) a0 w' w' γ hcl (fun w h => hN w (hsub w h)) h4 hlay (by simpa using hsz) (fun x hx => ?_) (by omega) hr0 (Ext.refl _) hS' (hM.ext he0) hO0 (fun x hx => ready_mono (hrA x hx) (hli x hx))
          rw [getD_set_ne _ (fun e => hli x hx e.symm)]
          exact hlA x hx
      refine ⟨fun h0 => ?_, hst⟩
      rw [h0] at hir
      cases hir

theorem wp_region_permJ {id : Nat} {a : Act} {w : World} (A : List Alc) (l0 l1 l2 : List (Nat × Bool)) (hm : P.follows .mixedOrders = true)
    (hc : chkAll ops (A.map fun x => (x.j, x.d)) l0 l1 l2 = true) (hQ : ∀ c a a' w, Q (.panic c) a w → Q (.panic c) a' w)
    (h : wpI P ops Q (fun w' => Below w.heap.size w.drew w') (fun a1 w1 => AllocsOk P ops A a1 ∧ wpJ P ops Q
      (fun S a2 w2 => ∀ γ wf, (∀ x ∈ A, (γ x.j).isSome = true) → Ext w2 wf → S wf → Made A γ w.heap.size wf → wpPerm P ops Q S l2 (cover γ a2 A) wf) l1 (fun w' => Below w.heap.size w.drew w') a1 w1) l0 a w.drew) :
    (Code.region id ops true).wp P Q a w := by
  have hmj : (A.map fun x => (x.j, x.d)).map (·.1) = A.map (·.j) := by rw [List.map_map]; rfl
  have hmd : (A.map fun x => (x.j, x.d)).map (·.2) = A.map (·.d) := by rw [List.map_map]; rfl
  unfold chkAll at hc
  simp only [hmj, hmd, Bool.and_eq_true, decide_eq_true_eq] at hc
  obtain ⟨⟨⟨⟨⟨⟨⟨⟨h1, h2⟩, h3⟩, h4⟩, h5⟩, h6⟩, h7⟩, h8⟩, h9⟩ := hc
  have hS0 : Below w.heap.size w.drew w.drew := Below.refl _ _
  refine wp_region_held_drew (S := fun w' => Below w.heap.size w.drew w') hm hS0 (fun _ => ?_)
  refine wpAnyH_of_T (m := l1.length + (A.map (·.j)).length + l2.length) h1 hQ l0 _ a w.drew ops.size h2 (by omega) hS0 h ?_
  intro a1 fuel ⟨hO, hI⟩ hf
  have h5' : ∀ x ∈ A, ∀ y ∈ A, ∀ o, ops[y.j]? = some o → x.d ∉ o.looksAt ops := by
    intro x hx y hy o ho
    simp only [List.all_eq_true, List.mem_map, forall_exists_index, and_imp, forall_apply_eq_imp_iff₂] at h5
    have := h5 x hx y hy
    simp only [ho] at this
    simpa using this
  have h6' : ∀ x ∈ A, x.j ∈ Region.ready .any ops (lay l0 (Array.replicate ops.size false)) ∧ (lay l0 (Array.replicate ops.size false)).getD x.j true = false := by
    intro x hx
    simp only [List.all_eq_true, List.mem_map, forall_exists_index, and_imp, forall_apply_eq_imp_iff₂, Bool.and_eq_true] at h6
    have := h6 x hx
    exact ⟨by simpa using this.1, by simpa using this.2⟩
  have key := wpAnyH_of_permJ (P := P) (ops := ops) (Q := Q) (md := .any) (A := A) (N := w.heap.size) (m := l2.length)
    (K := fun S a2 w2 => ∀ γ wf, (∀ x ∈ A, (γ x.j).isSome = true) → Ext w2 wf → S wf → Made A γ w.heap.size wf → wpPerm P ops Q S l2 (cover γ a2 A) wf)
    h1 hQ (nodupB_spec _ h3) (nodupB_spec _ h4) h5' (lay l1 (lay l0 (Array.replicate ops.size false)))
    (fun γ S a2 w2 wf fuel hall hK he hb hM hf => by
      rw [marked_all _ A hall]
      exact wpAnyH_of_perm h1 (fun c a d v w => hQ c _ _ w) l2 fuel _ _ wf h8 hf hb (hK γ wf hall he hb hM))
    fuel l1 (fun w' => Below w.heap.size w.drew w') (lay l0 (Array.replicate ops.size false)) a1 w.drew w.drew (fun _ => none) (fun w1 w2 he hb => hb.trans (he.mono hb.size)) (fun w1 hb => hb.size) h7 rfl (by rw [lay_size]; simp) (fun x hx => (h6' x hx).2) ?_ hI (Ext.refl _) hS0
    ⟨fun _ _ _ h => (by cases h), fun _ _ _ h => (by cases h), fun _ _ _ _ _ _ _ h => (by cases h)⟩ hO (fun x hx => (h6' x hx).1)
  · rw [marked_none, cover_none] at key
    exact key
  · have h0 : (A.filter fun _ => (none : Option Nat).isNone).length ≤ A.length := List.length_filter_le _ _
    simp only [List.length_map] at hf
    show l1.length + (A.filter fun _ => (none : Option Nat).isNone).length + l2.length ≤ fuel
    omega

theorem wpJ_mono {K K' : (World → Prop) → Act → World → Prop} (hKK : ∀ S a w, K S a w → K' S a w) : ∀ (l : List (Nat × Bool)) (S : World → Prop) (a : Act) (w : World), wpJ P ops Q K l S a w → wpJ P ops Q K' l S a w
  | [], S, a, w, h => hKK S a w h
  | (i, true) :: r, S, a, w, h => by
    obtain ⟨o, v, ho, hy, hr⟩ := h
    exact ⟨o, v, ho, hy, wpJ_mono hKK r S _ _ hr⟩
  | (i, false) :: r, S, a, w, h => fun w' he hS => wpOp_mono (fun a' w'' ⟨h1, S', h2, h3, h4, h5⟩ => ⟨h1, S', h2, h3, h4, wpJ_mono hKK r S' _ _ h5⟩) (h w' he hS)
/-- 1 block beside the calls -/
theorem wp_region_mixJ1 {id : Nat} {a : Act} {w : World} (x1 : Alc) (l0 l1 l2 : List (Nat × Bool)) (hm : P.follows .mixedOrders = true)
    (hc : chkAll ops ([x1].map fun x => (x.j, x.d)) l0 l1 l2 = true)
    (h : wpI P ops (NoPanic Q) (fun w' => Below w.heap.size w.drew w') (fun a1 w1 => AllocsOk P ops [x1] a1 ∧ wpJ P ops (NoPanic Q)
      (fun S a2 w2 => ∀ g1 wf, Ext w2 wf → S wf → w.heap.size ≤ g1 → g1 < wf.heap.size → wf.heap[g1]? = some x1.o →
        wpPerm P ops (NoPanic Q) S l2 (a2.put (some x1.d) (x1.val g1)) wf) l1 (fun w' => Below w.heap.size w.drew w') a1 w1) l0 a w.drew) :
    (Code.region id ops true).wp P Q a w := by
  refine wp_region_noPanic (wp_region_permJ [x1] l0 l1 l2 hm hc (fun _ _ _ _ h => h) (wpI_mono (fun a1 w1 ⟨hO, hI⟩ => ⟨hO, wpJ_mono (fun S a2 w2 hK => ?_) l1 _ a1 w1 hI⟩) l0 a w.drew h))
  intro γ wf hall he hb hM
  obtain ⟨g1, e1⟩ := Option.isSome_iff_exists.1 (hall x1 (by simp))
  have hcov : cover γ a2 [x1] = (a2.put (some x1.d) (x1.val g1)) := by simp only [cover, e1]
  rw [hcov]
  exact hK g1 wf he hb (hM.lo x1 (by simp) g1 e1).1 (hM.lo x1 (by simp) g1 e1).2 (hM.at_ x1 (by simp) g1 e1)
/-- 2 blocks beside the calls -/
theorem wp_region_mixJ2 {id : Nat} {a : Act} {w : World} (x1 x2 : Alc) (l0 l1 l2 : List (Nat × Bool)) (hm : P.follows .mixedOrders = true)
    (hc : chkAll ops ([x1, x2].map fun x => (x.j, x.d)) l0 l1 l2 = true)
    (h : wpI P ops (NoPanic Q) (fun w' => Below w.heap.size w.drew w') (fun a1 w1 => AllocsOk P ops [x1, x2] a1 ∧ wpJ P ops (NoPanic Q)
      (fun S a2 w2 => ∀ g1 g2 wf, Ext w2 wf → S wf → w.heap.size ≤ g1 → g1 < wf.heap.size → wf.heap[g1]? = some x1.o → w.heap.size ≤ g2 → g2 < wf.heap.size → wf.heap[g2]? = some x2.o → g1 ≠ g2 →
        wpPerm P ops (NoPanic Q) S l2 ((a2.put (some x2.d) (x2.val g2)).put (some x1.d) (x1.val g1)) wf) l1 (fun w' => Below w.heap.size w.drew w') a1 w1) l0 a w.drew) :
    (Code.region id ops true).wp P Q a w := by
  have hn : ([x1, x2].map (·.j)).Nodup := by
    have hc' := hc
    unfold chkAll at hc'
    simp only [Bool.and_eq_true] at hc'
    exact nodupB_spec _ hc'.1.1.1.1.1.1.2
  refine wp_region_noPanic (wp_region_permJ [x1, x2] l0 l1 l2 hm hc (fun _ _ _ _ h => h) (wpI_mono (fun a1 w1 ⟨hO, hI⟩ => ⟨hO, wpJ_mono (fun S a2 w2 hK => ?_) l1 _ a1 w1 hI⟩) l0 a w.drew h))
  intro γ wf hall he hb hM
  obtain ⟨g1, e1⟩ := Option.isSome_iff_exists.1 (hall x1 (by simp))
  obtain ⟨g2, e2⟩ := Option.isSome_iff_exists.1 (hall x2 (by simp))
  have hcov : cover γ a2 [x1, x2] = ((a2.put (some x2.d) (x2.val g2)).put (some x1.d) (x1.val g1)) := by simp only [cover, e1, e2]
  rw [hcov]
  simp only [List.map_cons, List.map_nil, List.nodup_cons, List.mem_cons, List.not_mem_nil, or_false, not_false_eq_true, List.nodup_nil, and_true] at hn
  exact hK g1 g2 wf he hb (hM.lo x1 (by simp) g1 e1).1 (hM.lo x1 (by simp) g1 e1).2 (hM.at_ x1 (by simp) g1 e1) (hM.lo x2 (by simp) g2 e2).1 (hM.lo x2 (by simp) g2 e2).2 (hM.at_ x2 (by simp) g2 e2) (hM.ne_ x1 (by simp) x2 (by simp) hn g1 g2 e1 e2)
theorem wpJ_on {K : (World → Prop) → Act → World → Prop} {S : World → Prop} {i : Nat} {r : List (Nat × Bool)} {a : Act} {w : World} {o : Oper} {v : Value} {d : Tmp} (ho : ops[i]? = some o) (hd : o.dst = some d) (hw : Region.wanted o (yielded ops a.tmps) = true)
    (hy : ∀ w, S w → (execOp a.eval o).run P w = .ok (.value v) w)
    (h : wpJ P ops Q K r S { a with tmps := a.tmps.setIfInBounds d v } w) : wpJ P ops Q K ((i, true) :: r) S a w :=
  ⟨o, v, ho, .inl ⟨hw, hy⟩, by rw [hd]; exact h⟩
theorem wpJ_done {K : (World → Prop) → Act → World → Prop} {S : World → Prop} {a : Act} {w : World} (h : K S a w) : wpJ P ops Q K [] S a w := h
/-- carried out: behind it S' is said of every later world -/
theorem wpJ_do {K : (World → Prop) → Act → World → Prop} {S : World → Prop} {i : Nat} {r : List (Nat × Bool)} {a : Act} {w : World} {o : Oper} (ho : ops[i]? = some o) (hw : Region.wanted o (yielded ops a.tmps) = true)
    (h : ∀ w', Ext w w' → S w' → ∀ K' : Act → World → Prop, Shut (∀ a w'' (S' : World → Prop), Ext w' w'' → (∀ x, S' x → S x) → (∀ x y, Ext x y → S' x → S' y) → S' w'' → wpJ P ops Q K r S' a w'' → K' a w'') → Oper.wp P o a w' K' Q) : wpJ P ops Q K ((i, false) :: r) S a w := by
  intro w' he hS
  exact wpOp_step (P := P) (ops := ops) (Q := Q) (a := a) (w := w') (K := fun a'' w'' => Ext w' w'' ∧ ∃ S', (∀ x, S' x → S x) ∧ (∀ x y, Ext x y → S' x → S' y) ∧ S' w'' ∧ wpJ P ops Q K r S' a'' w'') ho (fun K' hK => by
    rw [if_pos hw]
    exact h w' he hS K' (fun a w S' h1 h2 h3 h4 h5 => hK a w ⟨h1, S', h2, h3, h4, h5⟩))
end
attribute [irreducible] wpJ
end Go.Proofs.Ytnlmbjmgmofeiaa.lib
