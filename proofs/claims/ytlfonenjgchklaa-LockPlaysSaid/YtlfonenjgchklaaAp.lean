/- Plain: no two holds are in conflict, nobody waits twice; who asks again for what it has. -/
import Derived.Test.YtlfonenjgchklaaPl
namespace Go.Proofs.Ytlfonenjgchklaa.lk
open Go.ChangeShapes Go.WideShapes Go.ChangeAt Go.RowKit Go.Proofs.Ytlfonenjgchklaa.lib
set_option linter.unusedVariables false

/-- two holds that may not stand together -/
def cf (a b : Hd) : Bool := a.t == b.t && (a.s == b.s || (a.x || b.x))
theorem ba_comm (a b : ByteArray) : (a == b) = (b == a) := by
  rw [Bool.eq_iff_iff, beqBA, beqBA]
  exact eq_comm
theorem cf_comm (a b : Hd) : cf a b = cf b a := by
  unfold cf
  rw [ba_comm a.t b.t, Bool.or_comm a.x b.x]
  congr 2
  rw [Bool.eq_iff_iff, beq_iff_eq, beq_iff_eq]
  exact eq_comm
def Apart (l : List Hd) : Prop := l.Pairwise fun a b => cf a b = false
def Once (l : List Hd) : Prop := l.Pairwise fun a b => a.s ≠ b.s
theorem Apart.at_ {l : List Hd} (h : Apart l) {i j : Nat} {a b : Hd} (hi : l[i]? = some a) (hj : l[j]? = some b) (hne : i ≠ j) : cf a b = false := by
  obtain ⟨hil, rfl⟩ := List.getElem?_eq_some_iff.1 hi
  obtain ⟨hjl, rfl⟩ := List.getElem?_eq_some_iff.1 hj
  rcases Nat.lt_or_gt_of_ne hne with h1 | h1
  · exact (List.pairwise_iff_getElem.1 h) i j hil hjl h1
  · rw [cf_comm]; exact (List.pairwise_iff_getElem.1 h) j i hjl hil h1
theorem Once.at_ {l : List Hd} (h : Once l) {i j : Nat} {a b : Hd} (hi : l[i]? = some a) (hj : l[j]? = some b) (hne : i ≠ j) : a.s ≠ b.s := by
  obtain ⟨hil, rfl⟩ := List.getElem?_eq_some_iff.1 hi
  obtain ⟨hjl, rfl⟩ := List.getElem?_eq_some_iff.1 hj
  rcases Nat.lt_or_gt_of_ne hne with h1 | h1
  · exact (List.pairwise_iff_getElem.1 h) i j hil hjl h1
  · exact fun e => (List.pairwise_iff_getElem.1 h) j i hjl hil h1 e.symm
theorem woL_once {l : List Hd} {s : Int} (h : Once l) : Once (woL l s) := List.Pairwise.filter _ h
theorem woL_apart {l : List Hd} {s : Int} (h : Apart l) : Apart (woL l s) := List.Pairwise.filter _ h
theorem ask_once {L : Lk} {h : Hd} (H : Once L.ws) : Once (askL L h).ws := by
  have hw := woL_once (s := h.s) H
  unfold askL
  split
  · show Once (woL L.ws h.s ++ [h])
    unfold Once
    rw [List.pairwise_append]
    refine ⟨hw, by simp, fun a ha b hb => ?_⟩
    simp at hb
    subst hb
    exact (woL_mem ha).2
  · split
    · exact hw
    · split <;> exact hw
theorem find_none' {p : Hd → Bool} {l : List Hd} (h : l.findIdx? p = none) : ∀ o ∈ l, p o = false := by
  intro o ho
  have := List.findIdx?_eq_none_iff.1 h o ho
  simpa using this
theorem not_any {p : Hd → Bool} {l : List Hd} (h : l.any p = false) : ∀ o ∈ l, p o = false := by
  intro o ho
  have := List.any_eq_false.1 h o ho
  simpa using this
theorem freeB_any {L : Lk} {h : Hd} (hf : ¬ freeB L h = false) (hh : ¬ hasB L h = true) : L.hs.any (agB h) = false := by
  unfold freeB at hf
  have h1 : hasB L h = false := by simpa using hh
  rw [h1] at hf
  simpa using hf
theorem ask_apart {L : Lk} {h : Hd} (H : Apart L.hs) : Apart (askL L h).hs := by
  unfold askL
  split
  · exact H
  · rename_i hf
    split
    · exact H
    · rename_i hh
      have hany := not_any (freeB_any hf hh)
      split
      · rename_i i hi
        obtain ⟨o, ho, hm⟩ := idx_some hi
        have hasf : hasB L h = false := by simpa using hh
        unfold hasB at hasf
        simp only [hi, ho] at hasf
        have hx : o.x = false ∧ h.x = true := by
          simp at hasf
          exact hasf
        unfold mineB at hm
        simp only [Bool.and_eq_true, beq_iff_eq, beqBA] at hm
        -- all others have other tables
        have oth : ∀ j p, L.hs[j]? = some p → j ≠ i → (p.t == h.t) = false := by
          intro j p hp hne
          have h1 := H.at_ hp ho hne
          have h2 := hany p (List.mem_of_getElem? hp)
          cases ht : p.t == h.t with
          | false => rfl
          | true =>
            exfalso
            unfold agB at h2
            rw [ba_comm, ht, hx.2] at h2
            unfold cf at h1
            rw [hm.2, ht, hm.1] at h1
            simp at h1 h2
            exact h1.1 h2.symm
        show Apart (L.hs.set i h)
        unfold Apart
        rw [List.pairwise_iff_getElem]
        intro a b ha hb hab
        rw [List.getElem_set, List.getElem_set]
        simp only [List.length_set] at ha hb
        by_cases hai : i = a
        · subst hai
          rw [if_pos rfl, if_neg (by omega)]
          have := oth b L.hs[b] (List.getElem?_eq_getElem hb) (by omega)
          unfold cf
          rw [ba_comm, this]; rfl
        · rw [if_neg hai]
          by_cases hbi : i = b
          · subst hbi
            rw [if_pos rfl]
            have := oth a L.hs[a] (List.getElem?_eq_getElem ha) (by omega)
            unfold cf
            rw [this]; rfl
          · rw [if_neg hbi]
            exact H.at_ (List.getElem?_eq_getElem ha) (List.getElem?_eq_getElem hb) (by omega)
      · rename_i hi
        have hno := find_none' hi
        show Apart (L.hs ++ [h])
        unfold Apart
        rw [List.pairwise_append]
        refine ⟨H, by simp, fun a ha b hb => ?_⟩
        simp at hb
        subst hb
        have h1 := hno a ha
        have h2 := hany a ha
        unfold mineB at h1
        unfold agB at h2
        unfold cf
        rw [ba_comm b.t a.t] at h2
        cases ht : a.t == b.t with
        | false => rfl
        | true =>
          rw [ht] at h1 h2
          simp at h1 h2 ⊢
          have h3 := h2 (fun e => h1 e.symm)
          exact ⟨h1, h3.2, h3.1⟩
theorem ask_ws_ne {L : Lk} {h : Hd} (hf : freeB L h = true) : ∀ o ∈ (askL L h).ws, o.s ≠ h.s := by
  intro o ho
  unfold askL at ho
  rw [if_neg (by rw [hf]; decide)] at ho
  split at ho
  · exact (woL_mem ho).2
  · split at ho <;> exact (woL_mem ho).2
theorem woL_woL (l : List Hd) (s : Int) : woL (woL l s) s = woL l s := by
  unfold woL
  rw [List.filter_filter]
  congr 1
  funext o
  simp
/-- who has what it asks for -/
theorem ask_has {L : Lk} {h : Hd} (hh : hasB L h = true) : askL L h = ⟨L.hs, woL L.ws h.s⟩ ∧ freeB L h = true := by
  have hf : freeB L h = true := by unfold freeB; rw [hh]; rfl
  refine ⟨?_, hf⟩
  unfold askL
  rw [if_neg (by rw [hf]; decide), if_pos hh]
theorem has_own {L : Lk} {h : Hd} (H : Apart L.hs) {k : Nat} (hk : L.hs[k]? = some h) : hasB L h = true ∧ hasB ⟨L.hs, woL L.ws h.s⟩ ⟨h.s, h.t, false⟩ = true := by
  have hmine : mineB h h = true := by
    unfold mineB
    simp [beqBA]
  cases hf : L.hs.findIdx? (mineB h) with
  | none =>
    have := find_none' hf h (List.mem_of_getElem? hk)
    rw [hmine] at this
    cases this
  | some i =>
    obtain ⟨o, ho, hm⟩ := idx_some hf
    have hf2 : L.hs.findIdx? (mineB ⟨h.s, h.t, false⟩) = some i := hf
    refine ⟨?_, ?_⟩
    · unfold hasB
      simp only [hf, ho]
      by_cases hik : i = k
      · subst hik
        rw [hk] at ho
        injection ho with ho
        subst ho
        cases h.x <;> rfl
      · exfalso
        have h1 := H.at_ ho hk hik
        unfold mineB at hm
        unfold cf at h1
        simp only [Bool.and_eq_true] at hm
        rw [hm.1, hm.2] at h1
        simp at h1
    · unfold hasB
      simp only [hf2, ho]
      simp
end Go.Proofs.Ytlfonenjgchklaa.lk
