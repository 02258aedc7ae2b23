/- Plain: the order in which rows are added does not count; what is dropped is gone. -/
import Derived.Test.YtnlmbjmgmofeiaaI16
namespace Go.Proofs.Ytnlmbjmgmofeiaa.ix
open Go.ChangeShapes Go.WideShapes Go.ChangeAt Go.RowKit Go.Proofs.Ytnlmbjmgmofeiaa.lib Go.Proofs.Ytnlmbjmgmofeiaa.val Go.Proofs.Ytnlmbjmgmofeiaa.tb
set_option linter.unusedVariables false

theorem addN_self {l : List En} (e : En) : e ∈ addN l e := by
  unfold addN
  split
  · next h =>
    obtain ⟨x, hx, hz⟩ := n_isL_at h
    rw [← cmpN_zero hz]
    exact List.mem_of_getElem? hx
  · exact List.mem_append_right _ List.mem_cons_self
theorem addN_old {l : List En} {e x : En} (h : x ∈ l) : x ∈ addN l e := by
  unfold addN
  split
  · exact h
  · rw [← List.take_append_drop (posN e l) l] at h
    rcases List.mem_append.1 h with h | h
    · exact List.mem_append_left _ h
    · exact List.mem_append_right _ (List.mem_cons_of_mem _ h)
theorem foldN_old {col key : Nat} : ∀ (rows : List (List V)) {l : List En} {x : En}, x ∈ l → x ∈ rows.foldl (fun es r => addN es (enR col key r)) l
  | [], l, x, h => h
  | r :: rs, l, x, h => foldN_old rs (addN_old h)
theorem foldN_new {col key : Nat} : ∀ (rows : List (List V)) {l : List En} {r : List V}, r ∈ rows → enR col key r ∈ rows.foldl (fun es r => addN es (enR col key r)) l
  | r' :: rs, l, r, h => by
    rcases List.mem_cons.1 h with rfl | h
    · exact foldN_old rs (addN_self _)
    · exact foldN_new rs h
theorem buildN_mem {col key : Nat} {rows : List (List V)} {r : List V} (h : r ∈ rows) : enR col key r ∈ buildN col key rows := foldN_new rows h
theorem srt_ext : ∀ {a b : List En}, Srt a → Srt b → (∀ x, x ∈ a ↔ x ∈ b) → a = b
  | [], [], _, _, _ => rfl
  | [], y :: b, _, _, h => absurd ((h y).2 List.mem_cons_self) (by simp)
  | x :: a, [], _, _, h => absurd ((h x).1 List.mem_cons_self) (by simp)
  | x :: a, y :: b, ha, hb, h => by
    obtain ⟨ha1, ha2⟩ := List.pairwise_cons.1 ha
    obtain ⟨hb1, hb2⟩ := List.pairwise_cons.1 hb
    have e : x = y := by
      rcases List.mem_cons.1 ((h x).1 List.mem_cons_self) with e | h1
      · exact e
      rcases List.mem_cons.1 ((h y).2 List.mem_cons_self) with e | h2
      · exact e.symm
      have k1 := hb1 x h1
      have k2 := ha1 y h2
      have k3 := cmpN_anti x y
      omega
    subst e
    have hne : ∀ z ∈ a, z ≠ x := fun z hz e => by
      have := ha1 z hz
      rw [e, cmpN_refl] at this
      omega
    have hne2 : ∀ z ∈ b, z ≠ x := fun z hz e => by
      have := hb1 z hz
      rw [e, cmpN_refl] at this
      omega
    rw [srt_ext ha2 hb2 (fun z => ⟨fun hz => by
      rcases List.mem_cons.1 ((h z).1 (List.mem_cons_of_mem _ hz)) with e | h1
      · exact absurd e (hne z hz)
      · exact h1, fun hz => by
      rcases List.mem_cons.1 ((h z).2 (List.mem_cons_of_mem _ hz)) with e | h1
      · exact absurd e (hne2 z hz)
      · exact h1⟩)]
theorem build_same {col key : Nat} {rows rows' : List (List V)} (h : ∀ r, r ∈ rows ↔ r ∈ rows') : buildN col key rows = buildN col key rows' :=
  srt_ext (buildN_srt _ _ _) (buildN_srt _ _ _) (fun x => ⟨fun hx => by
    obtain ⟨r, hr, rfl⟩ := mem_buildN hx
    exact buildN_mem ((h r).1 hr), fun hx => by
    obtain ⟨r, hr, rfl⟩ := mem_buildN hx
    exact buildN_mem ((h r).2 hr)⟩)
theorem dropN_ne {l : List En} (ho : Srt l) {e x : En} (h : x ∈ dropN l e) : x ≠ e := by
  rintro rfl
  unfold dropN at h
  split at h
  · next hi =>
    obtain ⟨y, hy, hz⟩ := n_isL_at hi
    rcases List.mem_append.1 h with h | h
    · obtain ⟨j, hj, hjx⟩ := List.getElem_of_mem h
      rw [List.length_take] at hj
      rw [List.getElem_take] at hjx
      have hb := n_lt_at (k := x) (rows := l) (i := j) (by omega) (List.getElem?_eq_getElem (by omega))
      unfold belowN at hb
      rw [hjx, cmpN_refl] at hb
      simp at hb
    · obtain ⟨j, hj, hjx⟩ := List.getElem_of_mem h
      rw [List.length_drop] at hj
      rw [List.getElem_drop] at hjx
      obtain ⟨hp, hpy⟩ := List.getElem?_eq_some_iff.1 hy
      have hb := List.pairwise_iff_getElem.1 ho (posN x l) (posN x l + 1 + j) hp (by omega) (by omega)
      rw [hjx, hpy, hz] at hb
      omega
  · next hi =>
    exact n_isL_none ho (by simpa using hi) x h (cmpN_refl x)
/-- every place is met when one goes round -/
theorem round_all {n b m : Nat} (hm : m < n) (hb : b < n) : ∃ j, j < n ∧ (j + b) % n = m := by
  by_cases h : b ≤ m
  · exact ⟨m - b, by omega, by rw [Nat.sub_add_cancel h]; exact Nat.mod_eq_of_lt hm⟩
  · refine ⟨m + n - b, by omega, ?_⟩
    rw [show m + n - b + b = m + n by omega, Nat.add_mod_right]
    exact Nat.mod_eq_of_lt hm
theorem drops_nil {col key : Nat} {rows : List (List V)} {n b : Nat} (hn : rows.length = n) (hb : b < n) {es : List En} (h : ∀ x ∈ es, x ∈ buildN col key rows ∧ ∀ j, j < n → x ≠ enR col key (rows.getD ((j + b) % n) [])) : es = [] := by
  cases es with
  | nil => rfl
  | cons x t =>
    obtain ⟨h1, h2⟩ := h x List.mem_cons_self
    obtain ⟨r, hr, rfl⟩ := mem_buildN h1
    obtain ⟨m, hm, rfl⟩ := List.getElem_of_mem hr
    obtain ⟨j, hj, hjm⟩ := round_all (n := n) (b := b) (m := m) (by omega) hb
    have := h2 j hj
    rw [hjm, List.getD_eq_getElem?_getD, List.getElem?_eq_getElem hm, Option.getD_some] at this
    exact absurd rfl this
end Go.Proofs.Ytnlmbjmgmofeiaa.ix
