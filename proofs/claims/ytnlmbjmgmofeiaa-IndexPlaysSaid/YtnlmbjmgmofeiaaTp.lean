/- Plain: tables: what a row must be, where a key stands, what is put, taken, asked for; no program in sight. -/
import Derived.Test.YtnlmbjmgmofeiaaRc
namespace Go.Proofs.Ytnlmbjmgmofeiaa.tb
open Go.RowKit Go.Proofs.Ytnlmbjmgmofeiaa.lib Go.Proofs.Ytnlmbjmgmofeiaa.val
set_option linter.unusedVariables false

structure Col where
  name : ByteArray
  kind : Int
  null : Bool
structure Sch where
  name : ByteArray
  cols : List Col
  key : Nat
  only : Bool
def zV : V := ⟨0, 0, ByteArray.empty⟩
def vchk (v : V) : Int := chk v.k v.n v.s
def keyOf (key : Nat) (r : List V) : V := r.getD key zV
/-- what is wrong with values, column by column -/
def fitsGo : List Col → List V → Int
  | c :: cs, v :: r => if vchk v ≠ 0 then vchk v else if v.k = 0 ∧ c.null = false then 13 else if v.k ≠ 0 ∧ v.k ≠ c.kind then 3 else fitsGo cs r
  | _, _ => 0
def fitsL (cs : List Col) (r : List V) : Int := if r.length ≠ cs.length then 1 else fitsGo cs r
def belowB (key : Nat) (k : V) (r : List V) : Bool := decide (cmpV (keyOf key r) k < 0)
def atL (key : Nat) (k : V) (rows : List (List V)) : Nat := (rows.takeWhile (belowB key k)).length
def isL (key : Nat) (k : V) (rows : List (List V)) : Bool := match rows[atL key k rows]? with
  | some r => decide (cmpV (keyOf key r) k = 0)
  | none => false
def putL (cs : List Col) (key : Nat) (rows : List (List V)) (r : List V) : Int × List (List V) :=
  if fitsL cs r ≠ 0 then (fitsL cs r, rows) else if isL key (keyOf key r) rows = true then (7, rows) else if 200 ≤ rows.length then (4, rows)
  else (0, rows.take (atL key (keyOf key r) rows) ++ r :: rows.drop (atL key (keyOf key r) rows))
def takeL (key : Nat) (rows : List (List V)) (k : V) : Int × List (List V) :=
  if isL key k rows = true then (0, rows.take (atL key k rows) ++ rows.drop (atL key k rows + 1)) else (2, rows)
def rowL (key : Nat) (rows : List (List V)) (k : V) : List V := if isL key k rows = true then rows.getD (atL key k rows) [] else []

structure Ok (cs : List Col) (key : Nat) (rows : List (List V)) : Prop where
  kl : key < cs.length
  kn : ∀ c, cs[key]? = some c → c.null = false
  fit : ∀ r ∈ rows, fitsL cs r = 0
  ord : rows.Pairwise fun a b => cmpV (keyOf key a) (keyOf key b) < 0

theorem fits_len {cs : List Col} {r : List V} (h : fitsL cs r = 0) : r.length = cs.length := by
  unfold fitsL at h
  by_cases e : r.length = cs.length
  · exact e
  · rw [if_pos e] at h; cases h
theorem fitsGo_at : ∀ (cs : List Col) (r : List V) (i : Nat) (v : V) (c : Col), fitsGo cs r = 0 → r[i]? = some v → cs[i]? = some c → vchk v = 0 ∧ (v.k = 0 → c.null = true) ∧ (v.k ≠ 0 → v.k = c.kind)
  | [], r, i, v, c, _, _, h => by cases h
  | c :: cs, [], i, v, d, _, h, _ => by cases h
  | c :: cs, v :: r, i, u, d, h, hv, hc => by
    rw [fitsGo] at h
    by_cases h1 : vchk v ≠ 0
    · rw [if_pos h1] at h; exact absurd h h1
    rw [if_neg h1] at h
    by_cases h2 : v.k = 0 ∧ c.null = false
    · rw [if_pos h2] at h; cases h
    rw [if_neg h2] at h
    by_cases h3 : v.k ≠ 0 ∧ v.k ≠ c.kind
    · rw [if_pos h3] at h; cases h
    rw [if_neg h3] at h
    cases i with
    | zero =>
      injection hv with hv
      injection hc with hc
      subst hv hc
      refine ⟨Decidable.not_not.1 h1, fun e => ?_, fun e => ?_⟩
      · cases hn : c.null with
        | true => rfl
        | false => exact absurd ⟨e, hn⟩ h2
      · exact Decidable.not_not.1 fun e2 => h3 ⟨e, e2⟩
    | succ i => exact fitsGo_at cs r i u d h hv hc
theorem fits_at {cs : List Col} {r : List V} {i : Nat} {v : V} (h : fitsL cs r = 0) (hv : r[i]? = some v) : ∃ c, cs[i]? = some c ∧ vchk v = 0 ∧ (v.k = 0 → c.null = true) ∧ (v.k ≠ 0 → v.k = c.kind) := by
  have hl := fits_len h
  have hi := (List.getElem?_eq_some_iff.1 hv).1
  refine ⟨_, List.getElem?_eq_getElem (by omega), ?_⟩
  unfold fitsL at h
  rw [if_neg (by omega)] at h
  exact fitsGo_at cs r i v _ h hv (List.getElem?_eq_getElem (by omega))
theorem fitsGo_step {cs : List Col} {r : List V} {i : Nat} {v : V} {c : Col} (hv : r[i]? = some v) (hc : cs[i]? = some c) :
    fitsGo (cs.drop i) (r.drop i) = if vchk v ≠ 0 then vchk v else if v.k = 0 ∧ c.null = false then 13 else if v.k ≠ 0 ∧ v.k ≠ c.kind then 3 else fitsGo (cs.drop (i + 1)) (r.drop (i + 1)) := by
  obtain ⟨h1, e1⟩ := List.getElem?_eq_some_iff.1 hv
  obtain ⟨h2, e2⟩ := List.getElem?_eq_some_iff.1 hc
  rw [List.drop_eq_getElem_cons h1, List.drop_eq_getElem_cons h2, e1, e2, fitsGo]
theorem fitsGo_end {cs : List Col} {r : List V} {i : Nat} (h : r.length ≤ i) : fitsGo (cs.drop i) (r.drop i) = 0 := by
  rw [List.drop_of_length_le h]
  cases cs.drop i <;> rfl

/-! ### a key's place -/
theorem keyOf_at {key : Nat} {r : List V} {v : V} (h : r[key]? = some v) : keyOf key r = v := by
  unfold keyOf; rw [List.getD_eq_getElem?_getD, h]; rfl
theorem lt_at {key : Nat} {k : V} : ∀ {rows : List (List V)} {i : Nat} {r : List V}, i < atL key k rows → rows[i]? = some r → belowB key k r = true
  | [], i, r, _, h => by cases h
  | x :: rs, i, r, hi, h => by
    unfold atL at hi
    rw [List.takeWhile_cons] at hi
    by_cases hx : belowB key k x = true
    · rw [if_pos hx] at hi
      cases i with
      | zero => injection h with h; subst h; exact hx
      | succ i => exact lt_at (rows := rs) (by unfold atL; simpa using hi) h
    · rw [if_neg hx] at hi; exact absurd hi (by simp)
theorem at_not {key : Nat} {k : V} : ∀ {rows : List (List V)} {r : List V}, rows[atL key k rows]? = some r → belowB key k r = false
  | [], r, h => by cases h
  | x :: rs, r, h => by
    unfold atL at h
    rw [List.takeWhile_cons] at h
    by_cases hx : belowB key k x = true
    · rw [if_pos hx] at h
      exact at_not (rows := rs) (by unfold atL; simpa using h)
    · rw [if_neg hx] at h
      injection h with h
      subst h
      simpa using hx
theorem at_le (key : Nat) (k : V) (rows : List (List V)) : atL key k rows ≤ rows.length := by
  unfold atL
  exact (List.takeWhile_sublist _).length_le
theorem cmp_lt_trans {a b c : V} (h : cmpV a b < 0) (k : cmpV b c < 0) : cmpV a c < 0 := (cmpV_hang a b c).2.1 h (by omega)
theorem ge_at {key : Nat} {k : V} {rows : List (List V)} (ho : rows.Pairwise fun a b => cmpV (keyOf key a) (keyOf key b) < 0) {i : Nat} {r : List V} (hi : atL key k rows ≤ i) (h : rows[i]? = some r) : belowB key k r = false := by
  have hlt := (List.getElem?_eq_some_iff.1 h).1
  have h0 : rows[atL key k rows]? = some (rows[atL key k rows]'(by omega)) := List.getElem?_eq_getElem (by omega)
  have hn := at_not h0
  by_cases e : atL key k rows = i
  · subst e
    exact at_not h
  · have hp := List.pairwise_iff_getElem.1 ho (atL key k rows) i (by omega) hlt (by omega)
    have he : rows[i] = r := by
      rw [List.getElem?_eq_getElem hlt] at h
      injection h
    rw [he] at hp
    cases hb : belowB key k r with
    | false => rfl
    | true =>
      unfold belowB at hb hn
      simp only [decide_eq_true_eq, decide_eq_false_iff_not] at hb hn
      exact absurd (cmp_lt_trans hp hb) hn
/-- where all ahead are below and none behind is, the place is found -/
theorem at_unique {key : Nat} {k : V} {rows : List (List V)} {n : Nat} (hn : n ≤ rows.length) (h1 : ∀ i r, i < n → rows[i]? = some r → belowB key k r = true) (h2 : ∀ r, rows[n]? = some r → belowB key k r = false) : atL key k rows = n := by
  have hle := at_le key k rows
  rcases Nat.lt_trichotomy (atL key k rows) n with h | h | h
  · have h0 : rows[atL key k rows]? = some (rows[atL key k rows]'(by omega)) := List.getElem?_eq_getElem (by omega)
    have := at_not h0
    rw [h1 _ _ h h0] at this
    cases this
  · exact h
  · have h0 : rows[n]? = some (rows[n]'(by omega)) := List.getElem?_eq_getElem (by omega)
    have := lt_at h h0
    rw [h2 _ h0] at this
    cases this
/-- binary search may lean on this: below stays below, to the left -/
theorem below_mono {key : Nat} {k : V} {rows : List (List V)} (ho : rows.Pairwise fun a b => cmpV (keyOf key a) (keyOf key b) < 0) {i j : Nat} {r r' : List V} (hij : i ≤ j) (h : rows[i]? = some r) (h' : rows[j]? = some r') (hb : belowB key k r' = true) : belowB key k r = true := by
  rcases Nat.lt_or_ge i (atL key k rows) with hi | hi
  · exact lt_at hi h
  · rw [ge_at ho (Nat.le_trans hi hij) h'] at hb; cases hb

/-! ### what is put and taken keeps a table a table -/
theorem cmp_pos_neg {a b : V} (h : 0 < cmpV a b) : cmpV b a < 0 := by have := cmpV_anti a b; omega
theorem isL_at {key : Nat} {k : V} {rows : List (List V)} (h : isL key k rows = true) : ∃ r, rows[atL key k rows]? = some r ∧ cmpV (keyOf key r) k = 0 := by
  unfold isL at h
  cases e : rows[atL key k rows]? with
  | none => rw [e] at h; cases h
  | some r => rw [e] at h; exact ⟨r, rfl, by simpa using h⟩
theorem isL_none {key : Nat} {k : V} {rows : List (List V)} (ho : rows.Pairwise fun a b => cmpV (keyOf key a) (keyOf key b) < 0) (h : isL key k rows = false) : ∀ r ∈ rows, cmpV (keyOf key r) k ≠ 0 := by
  intro r hr
  obtain ⟨i, hi, e⟩ := List.getElem_of_mem hr
  have hs : rows[i]? = some r := by rw [List.getElem?_eq_getElem hi, e]
  intro hz
  rcases Nat.lt_trichotomy i (atL key k rows) with hlt | heq | hgt
  · have := lt_at hlt hs
    unfold belowB at this
    simp only [decide_eq_true_eq] at this
    omega
  · subst heq
    unfold isL at h
    rw [hs] at h
    simp only [decide_eq_false_iff_not] at h
    exact h hz
  · have h0 : rows[atL key k rows]? = some (rows[atL key k rows]'(by omega)) := List.getElem?_eq_getElem (by omega)
    have hp := List.pairwise_iff_getElem.1 ho (atL key k rows) i (by omega) hi hgt
    rw [e] at hp
    have hn := at_not h0
    unfold belowB at hn
    simp only [decide_eq_false_iff_not] at hn
    exact hn ((cmpV_hang _ _ _).2.1 hp (by omega))
theorem isL_some {key : Nat} {k : V} {rows : List (List V)} (ho : rows.Pairwise fun a b => cmpV (keyOf key a) (keyOf key b) < 0) {r : List V} (hr : r ∈ rows) (hz : cmpV (keyOf key r) k = 0) : isL key k rows = true := by
  cases h : isL key k rows with
  | true => rfl
  | false => exact absurd hz (isL_none ho h r hr)
theorem put_ord {key : Nat} {rows : List (List V)} {r : List V} (ho : rows.Pairwise fun a b => cmpV (keyOf key a) (keyOf key b) < 0) (h : isL key (keyOf key r) rows = false) :
    (rows.take (atL key (keyOf key r) rows) ++ r :: rows.drop (atL key (keyOf key r) rows)).Pairwise fun a b => cmpV (keyOf key a) (keyOf key b) < 0 := by
  have hno := isL_none ho h
  have ha : ∀ x ∈ rows.take (atL key (keyOf key r) rows), cmpV (keyOf key x) (keyOf key r) < 0 := by
    intro x hx
    obtain ⟨i, hi, e⟩ := List.getElem_of_mem hx
    have hi' : i < atL key (keyOf key r) rows := by have := List.length_take_le (atL key (keyOf key r) rows) rows; omega
    have hs : rows[i]? = some x := by
      rw [List.getElem_take] at e
      rw [← e]; exact List.getElem?_eq_getElem _
    have := lt_at hi' hs
    unfold belowB at this
    simpa using this
  have hb : ∀ x ∈ rows.drop (atL key (keyOf key r) rows), cmpV (keyOf key r) (keyOf key x) < 0 := by
    intro x hx
    obtain ⟨i, hi, e⟩ := List.getElem_of_mem hx
    rw [List.getElem_drop] at e
    have hs : rows[atL key (keyOf key r) rows + i]? = some x := by rw [← e]; exact List.getElem?_eq_getElem _
    have h1 := ge_at ho (Nat.le_add_right _ i) hs
    have h2 := hno x (List.mem_of_mem_drop hx)
    unfold belowB at h1
    simp only [decide_eq_false_iff_not] at h1
    exact cmp_pos_neg (by omega)
  rw [List.pairwise_append, List.pairwise_cons]
  refine ⟨ho.sublist (List.take_sublist _ _), ⟨hb, ho.sublist (List.drop_sublist _ _)⟩, ?_⟩
  intro a hxa b hxb
  rcases List.mem_cons.1 hxb with rfl | hxb
  · exact ha a hxa
  · exact cmp_lt_trans (ha a hxa) (hb b hxb)
theorem put_perm {key : Nat} {rows : List (List V)} {r : List V} : (rows.take (atL key (keyOf key r) rows) ++ r :: rows.drop (atL key (keyOf key r) rows)).Perm (r :: rows) := by
  refine List.perm_middle.trans ?_
  rw [List.take_append_drop]
theorem putL_ok {cs : List Col} {key : Nat} {rows : List (List V)} (h : Ok cs key rows) (r : List V) : Ok cs key (putL cs key rows r).2 := by
  unfold putL
  by_cases h1 : fitsL cs r = 0
  · rw [if_neg (by simpa using h1)]
    cases h2 : isL key (keyOf key r) rows with
    | true => rw [if_pos rfl]; exact h
    | false =>
      rw [if_neg (by simp)]
      by_cases h3 : 200 ≤ rows.length
      · rw [if_pos h3]; exact h
      · rw [if_neg h3]
        refine ⟨h.kl, h.kn, fun x hx => ?_, put_ord h.ord h2⟩
        rcases List.mem_cons.1 (put_perm.mem_iff.1 hx) with rfl | hx
        · exact h1
        · exact h.fit x hx
  · rw [if_pos h1]; exact h
theorem takeL_ok {cs : List Col} {key : Nat} {rows : List (List V)} (h : Ok cs key rows) (k : V) : Ok cs key (takeL key rows k).2 := by
  unfold takeL
  cases h2 : isL key k rows with
  | false => exact h
  | true =>
    rw [if_pos rfl]
    have hsub : (rows.take (atL key k rows) ++ rows.drop (atL key k rows + 1)).Sublist rows := by
      rw [← List.eraseIdx_eq_take_drop_succ]
      exact List.eraseIdx_sublist _ _
    exact ⟨h.kl, h.kn, fun r hr => h.fit r (hsub.subset hr), h.ord.sublist hsub⟩
theorem put_len {cs : List Col} {key : Nat} {rows : List (List V)} {r : List V} : (putL cs key rows r).2.length = rows.length + (if (putL cs key rows r).1 = 0 then 1 else 0) := by
  unfold putL
  by_cases h1 : fitsL cs r = 0
  · rw [if_neg (by simpa using h1)]
    cases h2 : isL key (keyOf key r) rows with
    | true => rfl
    | false =>
      rw [if_neg (by simp)]
      by_cases h3 : 200 ≤ rows.length
      · rw [if_pos h3]; rfl
      · rw [if_neg h3]
        have := (put_perm (key := key) (rows := rows) (r := r)).length_eq
        rw [if_pos rfl]
        simpa using this
  · rw [if_pos h1, if_neg h1]; rfl
theorem take_len {key : Nat} {rows : List (List V)} {k : V} : (takeL key rows k).2.length + (if (takeL key rows k).1 = 0 then 1 else 0) = rows.length := by
  unfold takeL
  cases h2 : isL key k rows with
  | false => rfl
  | true =>
    rw [if_pos rfl, if_pos rfl]
    obtain ⟨r, hr, _⟩ := isL_at h2
    have hlt := (List.getElem?_eq_some_iff.1 hr).1
    rw [← List.eraseIdx_eq_take_drop_succ, List.length_eraseIdx_of_lt hlt]
    omega

/-! ### the document's comparison, of values that may be -/
theorem ord_self (a : Int) : ord a a = 0 := by unfold ord; simp
theorem ord_ne {a b : Int} (h : a ≠ b) : ord a b ≠ 0 := fun e => h (ord_zero e)
theorem chk_form {v : V} (h : vchk v = 0) : 0 ≤ v.k ∧ v.k ≤ 3 ∧ (v.k ≠ 3 → v.s = ByteArray.empty) ∧ (v.k = 3 → v.n = 0) ∧ (v.k = 0 → v.n = 0) ∧ v.s.size ≤ 60 := by
  unfold vchk chk at h
  by_cases h1 : v.k < 0 ∨ 3 < v.k
  · rw [if_pos h1] at h; cases h
  rw [if_neg h1] at h
  by_cases h2 : vEq v.k v.n v.s v.k (bareN v.k v.n) (bareS v.k v.s) = false ∨ (v.k = 1 ∧ v.n ≠ 0 ∧ v.n ≠ 1)
  · rw [if_pos h2] at h; cases h
  rw [if_neg h2] at h
  by_cases h3 : 60 < v.s.size
  · rw [if_pos h3] at h; cases h
  have h4 : vEq v.k v.n v.s v.k (bareN v.k v.n) (bareS v.k v.s) = true := by
    cases e : vEq v.k v.n v.s v.k (bareN v.k v.n) (bareS v.k v.s) with
    | true => rfl
    | false => exact absurd (Or.inl e) h2
  unfold vEq bareN bareS at h4
  simp only [Bool.and_eq_true, beq_iff_eq, beqBA] at h4
  obtain ⟨_, h5, h6⟩ := h4
  refine ⟨by omega, by omega, fun e => ?_, fun e => ?_, fun e => ?_, by omega⟩
  · rw [if_neg e] at h6; exact h6
  · rw [if_neg (by omega)] at h5; exact h5
  · rw [if_neg (by omega)] at h5; exact h5
theorem rcmp_eq {a b : V} (ha : vchk a = 0) (hb : vchk b = 0) : rcmpV a b = cmpV a b := by
  have fa := chk_form ha
  have fb := chk_form hb
  unfold rcmpV cmpV or3
  by_cases h1 : a.k = b.k
  · rw [if_neg (by simpa using h1), h1, ord_self, if_pos rfl]
    by_cases h2 : b.k = 3
    · rw [if_neg (by simpa using h2), fa.2.2.2.1 (by omega), fb.2.2.2.1 h2, ord_self, if_pos rfl]
    · rw [if_pos h2, fa.2.2.1 (by omega), fb.2.2.1 h2]
      by_cases h3 : ord a.n b.n = 0
      · rw [if_pos h3, h3]
        exact (cb_refl _).symm
      · rw [if_neg h3]
  · rw [if_pos h1, if_neg (ord_ne h1)]
theorem key_chk {cs : List Col} {key : Nat} {r : List V} (hk : key < cs.length) (h : fitsL cs r = 0) : ∃ v, r[key]? = some v ∧ keyOf key r = v ∧ vchk v = 0 := by
  have hl := fits_len h
  have e : r[key]? = some (r[key]'(by omega)) := List.getElem?_eq_getElem (by omega)
  obtain ⟨c, _, h1, _⟩ := fits_at h e
  exact ⟨_, e, keyOf_at e, h1⟩
theorem key_kind {cs : List Col} {key : Nat} {rows : List (List V)} (h : Ok cs key rows) {r : List V} (hr : fitsL cs r = 0) : (keyOf key r).k ≠ 0 := by
  have hl := fits_len hr
  have e : r[key]? = some (r[key]'(by have := h.kl; omega)) := List.getElem?_eq_getElem (by have := h.kl; omega)
  obtain ⟨c, hc, h1, h2, _⟩ := fits_at hr e
  rw [keyOf_at e]
  intro h0
  have := h.kn c hc
  rw [h2 h0] at this
  cases this
end Go.Proofs.Ytnlmbjmgmofeiaa.tb
