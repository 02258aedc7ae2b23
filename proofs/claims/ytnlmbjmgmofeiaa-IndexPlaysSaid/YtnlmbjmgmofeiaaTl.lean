/- Plain: what the laws of tables lean on. -/
import Derived.Test.YtnlmbjmgmofeiaaTg
namespace Go.Proofs.Ytnlmbjmgmofeiaa.tb
open Go.RowKit Go.Proofs.Ytnlmbjmgmofeiaa.lib Go.Proofs.Ytnlmbjmgmofeiaa.val
set_option linter.unusedVariables false

/-! ### ranges -/
def rangeB (key : Nat) (lo hi : V) (r : List V) : Bool := decide (0 ≤ cmpV (keyOf key r) lo) && (decide (hi.k = 0) || decide (cmpV (keyOf key r) hi ≤ 0))
def rrangeB (key : Nat) (lo hi : V) (r : List V) : Bool := (decide (lo.k = 0) || decide (0 ≤ rcmpV (keyOf key r) lo)) && (decide (hi.k = 0) || decide (rcmpV (keyOf key r) hi ≤ 0))
theorem range_one {cs : List Col} {key : Nat} {rows : List (List V)} (h : Ok cs key rows) {lo hi : V} (h1 : vchk lo = 0) (h2 : vchk hi = 0) {r : List V} (hr : r ∈ rows) : rrangeB key lo hi r = rangeB key lo hi r := by
  obtain ⟨v, hv, e, hc⟩ := key_chk h.kl (h.fit r hr)
  have hk := key_kind h (h.fit r hr)
  unfold rrangeB rangeB
  rw [e] at hk ⊢
  rw [rcmp_eq hc h1, rcmp_eq hc h2]
  by_cases h0 : lo.k = 0
  · have e2 : 0 ≤ cmpV v lo := by
      have f := chk_form hc
      unfold cmpV or3
      rw [h0]
      have : ord v.k 0 = 1 := by unfold ord; rw [if_neg (by omega), if_pos (by omega)]
      rw [this, if_neg (by decide)]; decide
    simp [h0, e2]
  · simp [h0]
theorem range_eq {cs : List Col} {key : Nat} {rows : List (List V)} (h : Ok cs key rows) {lo hi : V} (h1 : vchk lo = 0) (h2 : vchk hi = 0) : rows.filter (rrangeB key lo hi) = rows.filter (rangeB key lo hi) :=
  List.filter_congr fun r hr => range_one h h1 h2 hr
theorem range_all {cs : List Col} {key : Nat} {rows : List (List V)} (h : Ok cs key rows) : rows.filter (rangeB key zV zV) = rows := by
  rw [List.filter_eq_self]
  intro r hr
  rw [← range_one h zV_chk zV_chk hr]
  rfl
theorem filter_snoc {α : Type} (p : α → Bool) (l : List α) (k : Nat) (x : α) (h : l[k]? = some x) : (l.take (k + 1)).filter p = if p x = true then (l.take k).filter p ++ [x] else (l.take k).filter p := by
  have e : l.take (k + 1) = l.take k ++ [x] := by rw [List.take_add_one, h]; rfl
  rw [e, List.filter_append]
  by_cases hx : p x = true
  · rw [if_pos hx, List.filter_cons_of_pos hx]; rfl
  · rw [if_neg hx, List.filter_cons_of_neg hx]; simp

/-! ### in whatever order -/
theorem sorted_perm {α : Type} (lt : α → α → Prop) (ht : ∀ a b, lt a b → ¬ lt b a) : ∀ (l m : List α), l.Pairwise lt → m.Pairwise lt → l.Perm m → l = m
  | [], m, _, _, h => (List.perm_nil.1 h.symm).symm
  | a :: l, [], _, _, h => absurd (List.perm_nil.1 h) (by simp)
  | a :: l, b :: m, h1, h2, h => by
    rw [List.pairwise_cons] at h1 h2
    have e : a = b := by
      have ha : a ∈ b :: m := h.mem_iff.1 (List.mem_cons_self ..)
      have hb : b ∈ a :: l := h.mem_iff.2 (List.mem_cons_self ..)
      rcases List.mem_cons.1 ha with e | ha
      · exact e
      rcases List.mem_cons.1 hb with e | hb
      · exact e.symm
      exact absurd (h1.1 b hb) (ht b a (h2.1 a ha))
    subst e
    rw [sorted_perm lt ht l m h1.2 h2.2 (List.Perm.cons_inv h)]
def kLt (key : Nat) (a b : List V) : Prop := cmpV (keyOf key a) (keyOf key b) < 0
def kNe (key : Nat) (a b : List V) : Prop := cmpV (keyOf key a) (keyOf key b) ≠ 0
theorem kLt_asymm (key : Nat) (a b : List V) (h : kLt key a b) : ¬ kLt key b a := by
  unfold kLt at *
  have := cmpV_anti (keyOf key a) (keyOf key b)
  omega
theorem kNe_symm {key : Nat} {a b : List V} (h : kNe key a b) : kNe key b a := by
  unfold kNe at *
  have := cmpV_anti (keyOf key a) (keyOf key b)
  omega
/-- a row whose key none of those has is put -/
theorem put_new {cs : List Col} {key : Nat} {rows : List (List V)} (h : Ok cs key rows) {r : List V} (hf : fitsL cs r = 0) (hn : ∀ x ∈ rows, kNe key x r) (hl : rows.length < 200) :
    (putL cs key rows r).1 = 0 ∧ (putL cs key rows r).2.Perm (r :: rows) := by
  have hi : isL key (keyOf key r) rows = false := by
    cases e : isL key (keyOf key r) rows with
    | false => rfl
    | true =>
      obtain ⟨x, hx, hz⟩ := isL_at e
      exact absurd hz (hn x (List.mem_of_getElem? hx))
  unfold putL
  rw [if_neg (by simpa using hf), hi, if_neg (by simp), if_neg (by omega)]
  exact ⟨rfl, put_perm⟩
theorem put_zero {cs : List Col} {key : Nat} {rows : List (List V)} {r : List V} (h : (putL cs key rows r).1 = 0) :
    fitsL cs r = 0 ∧ isL key (keyOf key r) rows = false ∧ rows.length < 200 ∧ (putL cs key rows r).2 = rows.take (atL key (keyOf key r) rows) ++ r :: rows.drop (atL key (keyOf key r) rows) := by
  unfold putL at h ⊢
  by_cases h1 : fitsL cs r = 0
  · rw [if_neg (by simpa using h1)] at h ⊢
    cases h2 : isL key (keyOf key r) rows with
    | true => rw [h2, if_pos rfl] at h; cases h
    | false =>
      rw [h2, if_neg (by simp)] at h
      rw [if_neg (by simp)]
      by_cases h3 : 200 ≤ rows.length
      · rw [if_pos h3] at h; cases h
      · rw [if_neg h3]
        exact ⟨h1, rfl, by omega, rfl⟩
  · rw [if_pos h1] at h
    exact absurd h h1
theorem put_other {cs : List Col} {key : Nat} {rows : List (List V)} {r : List V} (hf : fitsL cs r = 0) (hl : rows.length < 200) (h : (putL cs key rows r).1 ≠ 0) : (putL cs key rows r).1 = 7 ∧ (putL cs key rows r).2 = rows ∧ isL key (keyOf key r) rows = true := by
  unfold putL at h ⊢
  rw [if_neg (by simpa using hf)] at h ⊢
  cases h2 : isL key (keyOf key r) rows with
  | true => exact ⟨by rw [if_pos rfl], by rw [if_pos rfl], rfl⟩
  | false => rw [h2, if_neg (by simp), if_neg (by omega)] at h; exact absurd rfl h

/-! ### what was put is taken again -/
theorem at_put {cs : List Col} {key : Nat} {rows : List (List V)} {r : List V} (h : Ok cs key rows) (hi : isL key (keyOf key r) rows = false) :
    atL key (keyOf key r) (rows.take (atL key (keyOf key r) rows) ++ r :: rows.drop (atL key (keyOf key r) rows)) = atL key (keyOf key r) rows := by
  have hle := at_le key (keyOf key r) rows
  have hl : (rows.take (atL key (keyOf key r) rows)).length = atL key (keyOf key r) rows := by rw [List.length_take]; omega
  apply at_unique
  · simp; omega
  · intro i x hi2 hx
    rw [List.getElem?_append_left (by omega), List.getElem?_take, if_pos hi2] at hx
    exact lt_at hi2 hx
  · intro x hx
    rw [List.getElem?_append_right (by omega), hl, Nat.sub_self] at hx
    injection hx with hx
    subst hx
    unfold belowB
    rw [cmpV_refl]; rfl
theorem get_put {key : Nat} {rows : List (List V)} {r : List V} : (rows.take (atL key (keyOf key r) rows) ++ r :: rows.drop (atL key (keyOf key r) rows))[atL key (keyOf key r) rows]? = some r := by
  have hle := at_le key (keyOf key r) rows
  have hl : (rows.take (atL key (keyOf key r) rows)).length = atL key (keyOf key r) rows := by rw [List.length_take]; omega
  rw [List.getElem?_append_right (by omega), hl, Nat.sub_self]; rfl
theorem is_put {cs : List Col} {key : Nat} {rows : List (List V)} {r : List V} (h : Ok cs key rows) (hi : isL key (keyOf key r) rows = false) :
    isL key (keyOf key r) (rows.take (atL key (keyOf key r) rows) ++ r :: rows.drop (atL key (keyOf key r) rows)) = true := by
  unfold isL
  rw [at_put h hi, get_put]
  simp [cmpV_refl]
theorem put_take {cs : List Col} {key : Nat} {rows : List (List V)} {r : List V} (h : Ok cs key rows) (hp : (putL cs key rows r).1 = 0) :
    takeL key (putL cs key rows r).2 (keyOf key r) = (0, rows) ∧ rowL key (putL cs key rows r).2 (keyOf key r) = r ∧ isL key (keyOf key r) (putL cs key rows r).2 = true := by
  obtain ⟨hf, hi, hl, e⟩ := put_zero hp
  rw [e]
  have h1 := is_put h hi
  refine ⟨?_, ?_, h1⟩
  · unfold takeL
    rw [if_pos h1, at_put h hi, ← List.eraseIdx_eq_take_drop_succ]
    have hle := at_le key (keyOf key r) rows
    have hll : (rows.take (atL key (keyOf key r) rows)).length = atL key (keyOf key r) rows := by rw [List.length_take]; omega
    rw [List.eraseIdx_append_of_length_le (by omega), hll, Nat.sub_self, List.eraseIdx_cons_zero, List.take_append_drop]
  · unfold rowL
    rw [if_pos h1, at_put h hi, List.getD_eq_getElem?_getD, get_put]; rfl
theorem rowL_at {key : Nat} {rows : List (List V)} {k : V} (h : isL key k rows = true) : ∃ r, rows[atL key k rows]? = some r ∧ rowL key rows k = r ∧ cmpV (keyOf key r) k = 0 := by
  obtain ⟨r, hr, hz⟩ := isL_at h
  refine ⟨r, hr, ?_, hz⟩
  unfold rowL
  rw [if_pos h, List.getD_eq_getElem?_getD, hr]; rfl
end Go.Proofs.Ytnlmbjmgmofeiaa.tb
