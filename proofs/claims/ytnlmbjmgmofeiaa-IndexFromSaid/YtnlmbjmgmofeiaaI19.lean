/- Plain: what From tells of a table's rows. -/
import Derived.Test.YtnlmbjmgmofeiaaI18
namespace Go.Proofs.Ytnlmbjmgmofeiaa.ix
open Go.ChangeShapes Go.WideShapes Go.ChangeAt Go.RowKit Go.Proofs.Ytnlmbjmgmofeiaa.lib Go.Proofs.Ytnlmbjmgmofeiaa.val Go.Proofs.Ytnlmbjmgmofeiaa.tb
set_option linter.unusedVariables false

/-- the rows whose value is not below v -/
def geL (col key : Nat) (rows : List (List V)) (v : V) : List (List V) := rows.filter fun r => decide (0 ≤ cmpV (enR col key r).v v)
theorem geL_snoc {col key : Nat} {rows : List (List V)} {v : V} {i : Nat} {r : List V} (h : rows[i]? = some r) :
    (geL col key (rows.take (i + 1)) v).length = (geL col key (rows.take i) v).length + (if 0 ≤ cmpV (enR col key r).v v then 1 else 0) := by
  unfold geL
  rw [List.take_add_one, h, Option.toList_some, List.filter_append, List.length_append]
  by_cases hc : 0 ≤ cmpV (enR col key r).v v
  · rw [if_pos hc, List.filter_cons, if_pos (by simpa using hc)]; rfl
  · rw [if_neg hc, List.filter_cons, if_neg (by simpa using hc)]; rfl
theorem geN_add_len {es : List En} {e : En} (h : isN e es = false) (v : V) : (geN (addN es e) v).length = (geN es v).length + (if 0 ≤ cmpV e.v v then 1 else 0) := by
  unfold addN
  rw [h, if_neg (by simp)]
  have hes : geN es v = geN (es.take (posN e es)) v ++ geN (es.drop (posN e es)) v := by
    unfold geN
    rw [← List.map_append, ← List.filter_append, List.take_append_drop]
  rw [hes, List.length_append]
  unfold geN
  rw [List.filter_append, List.map_append, List.length_append, List.filter_cons]
  by_cases hc : 0 ≤ cmpV e.v v
  · rw [if_pos (by simpa using hc), if_pos hc, List.map_cons, List.length_cons]; omega
  · rw [if_neg (by simpa using hc), if_neg hc]; omega
theorem geN_len_take {col key : Nat} {rows : List (List V)} (ho : rows.Pairwise fun a b => cmpV (tb.keyOf key a) (tb.keyOf key b) < 0) (v : V) (i : Nat) : (geN (buildN col key (rows.take i)) v).length = (geL col key (rows.take i) v).length := by
  induction i with
  | zero => rw [List.take_zero]; rfl
  | succ i ih =>
    cases h : rows[i]? with
    | none =>
      have : rows.take (i + 1) = rows.take i := by rw [List.take_add_one, h, Option.toList_none, List.append_nil]
      rw [this, ih]
    | some r => rw [buildN_snoc h, geN_add_len (isN_above (build_above ho h)), geL_snoc h, ih]
theorem geN_len_all {col key : Nat} {rows : List (List V)} (ho : rows.Pairwise fun a b => cmpV (tb.keyOf key a) (tb.keyOf key b) < 0) (v : V) : (geN (buildN col key rows) v).length = (geL col key rows v).length := by
  have := geN_len_take (col := col) ho v rows.length
  rwa [List.take_of_length_le (Nat.le_refl _)] at this
/-- one key, one row -/
theorem key_row {key : Nat} {rows : List (List V)} (ho : rows.Pairwise fun a b => cmpV (tb.keyOf key a) (tb.keyOf key b) < 0) {i j : Nat} {r r' : List V} (h : rows[i]? = some r) (h' : rows[j]? = some r') (he : tb.keyOf key r = tb.keyOf key r') : r = r' := by
  obtain ⟨hi, rfl⟩ := List.getElem?_eq_some_iff.1 h
  obtain ⟨hj, rfl⟩ := List.getElem?_eq_some_iff.1 h'
  rcases Nat.lt_trichotomy i j with h1 | h1 | h1
  · have := List.pairwise_iff_getElem.1 ho i j hi hj h1
    rw [he, cmpV_refl] at this
    omega
  · subst h1; rfl
  · have := List.pairwise_iff_getElem.1 ho j i hj hi h1
    rw [he, cmpV_refl] at this
    omega
/-- the entries not below v -/
def geE (es : List En) (v : V) : List En := es.filter fun x => decide (0 ≤ cmpV x.v v)
theorem geN_E (es : List En) (v : V) : geN es v = (geE es v).map (·.k) := rfl
theorem geE_srt {es : List En} (h : Srt es) (v : V) : Srt (geE es v) := List.Pairwise.sublist List.filter_sublist h
theorem geE_ge {es : List En} {v : V} {x : En} (h : x ∈ geE es v) : 0 ≤ cmpV x.v v := by
  unfold geE at h
  have := (List.mem_filter.1 h).2
  simpa using this
/-- values do not fall along From -/
theorem geE_up {es : List En} (ho : Srt es) {v : V} {i : Nat} {x y : En} (h : (geE es v)[i]? = some x) (h' : (geE es v)[i + 1]? = some y) : 0 ≤ cmpV y.v x.v := by
  obtain ⟨hi, rfl⟩ := List.getElem?_eq_some_iff.1 h
  obtain ⟨hj, rfl⟩ := List.getElem?_eq_some_iff.1 h'
  have := cmpV_of_N (List.pairwise_iff_getElem.1 (geE_srt ho v) i (i + 1) hi hj (Nat.lt_succ_self _))
  have h3 := cmpV_anti (geE es v)[i].v (geE es v)[i + 1].v
  omega
/-- the row that at finds for a key that From told -/
theorem at_from {col key : Nat} {rows : List (List V)} (ho : rows.Pairwise fun a b => cmpV (tb.keyOf key a) (tb.keyOf key b) < 0) {v : V} {i : Nat} {x : En} (h : (geE (buildN col key rows) v)[i]? = some x) {z : Int} (hz : AtP key rows x.k z) :
    ∃ (m : Nat) (r : List V), z = (m : Int) ∧ rows[m]? = some r ∧ (enR col key r).v = x.v := by
  have hx := (List.mem_filter.1 (List.mem_of_getElem? h)).1
  obtain ⟨r, hr, rfl⟩ := mem_buildN hx
  have hk : ∀ r : List V, (enR key key r).v = tb.keyOf key r := fun r => by
    rw [← enR_k key key r]; rfl
  obtain ⟨m, hm, rfl⟩ := List.getElem_of_mem hr
  rw [enR_k] at hz
  rcases hz with ⟨_, hno⟩ | ⟨j, r', e, hj, hv⟩
  · exact absurd (hk _) (hno _ hr)
  · refine ⟨j, r', e, hj, ?_⟩
    rw [key_row ho hj (List.getElem?_eq_getElem hm) (by rw [← hk, hv])]
end Go.Proofs.Ytnlmbjmgmofeiaa.ix
