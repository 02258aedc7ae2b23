/- Plain: rows put in another order. -/
import Derived.Test.YtnlmbjmgmofeiaaTl
namespace Go.Proofs.Ytnlmbjmgmofeiaa.tb
open Go.RowKit Go.Proofs.Ytnlmbjmgmofeiaa.lib Go.Proofs.Ytnlmbjmgmofeiaa.val
set_option linter.unusedVariables false

def rot (l : List (List V)) (s j : Nat) : List V := l.getD ((j + s) % l.length) []
def rots (l : List (List V)) (s i : Nat) : List (List V) := (List.range i).map (rot l s)
theorem rots_succ (l : List (List V)) (s i : Nat) : rots l s (i + 1) = rots l s i ++ [rot l s i] := by simp [rots, List.range_succ]
theorem rots_all (l : List (List V)) (s : Nat) (hs : s < l.length) : rots l s l.length = l.drop s ++ l.take s := by
  apply List.ext_getElem?
  intro i
  unfold rots
  rw [List.getElem?_map]
  rcases Nat.lt_or_ge i l.length with hi | hi
  · rw [List.getElem?_range hi, Option.map_some]
    unfold rot
    rcases Nat.lt_or_ge (i + s) l.length with h | h
    · rw [List.getElem?_append_left (by rw [List.length_drop]; omega), List.getElem?_drop, Nat.mod_eq_of_lt h, List.getD_eq_getElem?_getD, Nat.add_comm s i, List.getElem?_eq_getElem h]; rfl
    · rw [List.getElem?_append_right (by rw [List.length_drop]; omega), List.length_drop, List.getElem?_take, if_pos (by omega)]
      have e : (i + s) % l.length = i - (l.length - s) := by
        rw [Nat.mod_eq_sub_mod h, Nat.mod_eq_of_lt (by omega)]; omega
      rw [e, List.getD_eq_getElem?_getD, List.getElem?_eq_getElem (by omega)]; rfl
  · rw [List.getElem?_eq_none (by simpa using hi), List.getElem?_eq_none (by rw [List.length_append, List.length_drop, List.length_take]; omega)]; rfl
theorem rots_perm (l : List (List V)) (s : Nat) (hs : s < l.length) : (rots l s l.length).Perm l := by
  rw [rots_all l s hs]
  refine List.perm_append_comm.trans ?_
  rw [List.take_append_drop]
/-- what stands behind the first loop -/
structure OrdA (cs : List Col) (key : Nat) (l rows : List (List V)) : Prop where
  ok : Ok cs key rows
  perm : rows.Perm l
theorem ordA_put {cs : List Col} {key : Nat} {l rows : List (List V)} (h : OrdA cs key l rows) {r : List V} (hp : (putL cs key rows r).1 = 0) : OrdA cs key (l ++ [r]) (putL cs key rows r).2 := by
  refine ⟨putL_ok h.ok r, ?_⟩
  obtain ⟨_, _, _, e⟩ := put_zero hp
  rw [e]
  refine put_perm.trans ?_
  exact (h.perm.cons r).trans (List.perm_append_singleton r l).symm
theorem ordA_ne {cs : List Col} {key : Nat} {l rows : List (List V)} (h : OrdA cs key l rows) : l.Pairwise (kNe key) := by
  have h1 : rows.Pairwise (kNe key) := h.ok.ord.imp fun {a b} hab => by
    unfold kNe; omega
  exact (List.Perm.pairwise_iff (fun {x y} hxy => kNe_symm hxy) h.perm).1 h1
structure OrdB (cs : List Col) (key : Nat) (l : List (List V)) (s i : Nat) (rows : List (List V)) : Prop where
  ok : Ok cs key rows
  perm : rows.Perm (rots l s i)
theorem ordB_step {cs : List Col} {key : Nat} {l rowsA rows : List (List V)} {s i : Nat} (hA : OrdA cs key l rowsA) (h : OrdB cs key l s i rows) (hi : i < l.length) (hl : l.length < 200) :
    (putL cs key rows (rot l s i)).1 = 0 ∧ OrdB cs key l s (i + 1) (putL cs key rows (rot l s i)).2 := by
  have hlen : rows.length = i := by rw [h.perm.length_eq]; simp [rots]
  have hm : (i + s) % l.length < l.length := Nat.mod_lt _ (by omega)
  have hin : rot l s i ∈ l := by
    unfold rot
    rw [List.getD_eq_getElem?_getD, List.getElem?_eq_getElem hm]
    exact List.getElem_mem _
  have hf : fitsL cs (rot l s i) = 0 := hA.ok.fit _ (hA.perm.mem_iff.2 hin)
  have hn : ∀ x ∈ rows, kNe key x (rot l s i) := by
    intro x hx
    have hx := h.perm.mem_iff.1 hx
    unfold rots at hx
    simp only [List.mem_map, List.mem_range] at hx
    obtain ⟨j, hj, rfl⟩ := hx
    have hmj : (j + s) % l.length < l.length := Nat.mod_lt _ (by omega)
    have hne : (j + s) % l.length ≠ (i + s) % l.length := by
      intro e
      have hd : l.length ∣ (i + s) - (j + s) := Nat.dvd_of_mod_eq_zero (Nat.sub_mod_eq_zero_of_mod_eq e.symm)
      have := Nat.le_of_dvd (by omega) hd
      omega
    have hp := List.pairwise_iff_getElem.1 (ordA_ne hA)
    unfold rot
    rw [List.getD_eq_getElem?_getD, List.getD_eq_getElem?_getD, List.getElem?_eq_getElem hm, List.getElem?_eq_getElem hmj]
    rcases Nat.lt_or_gt_of_ne hne with h1 | h1
    · exact hp _ _ hmj hm h1
    · exact kNe_symm (hp _ _ hm hmj h1)
  obtain ⟨e1, e2⟩ := put_new h.ok hf hn (by omega)
  refine ⟨e1, putL_ok h.ok _, ?_⟩
  rw [rots_succ]
  exact (e2.trans (h.perm.cons _)).trans (List.perm_append_singleton _ _).symm
theorem ordB_end {cs : List Col} {key : Nat} {l rowsA rows : List (List V)} {s : Nat} (hA : OrdA cs key l rowsA) (h : OrdB cs key l s l.length rows) (hs : s < l.length ∨ l = []) : rowsA = rows := by
  refine sorted_perm (kLt key) (kLt_asymm key) _ _ hA.ok.ord h.ok.ord (hA.perm.trans ?_)
  rcases hs with hs | rfl
  · exact (rots_perm l s hs).symm.trans h.perm.symm
  · exact h.perm.symm
end Go.Proofs.Ytnlmbjmgmofeiaa.tb
