/- Plain: what an index that is built of a table's rows tells. -/
import Derived.Test.YtnlmbjmgmofeiaaI15
namespace Go.Proofs.Ytnlmbjmgmofeiaa.ix
open Go.ChangeShapes Go.WideShapes Go.ChangeAt Go.RowKit Go.Proofs.Ytnlmbjmgmofeiaa.lib Go.Proofs.Ytnlmbjmgmofeiaa.val Go.Proofs.Ytnlmbjmgmofeiaa.tb
set_option linter.unusedVariables false

theorem enR_k (col key : Nat) (r : List V) : (enR col key r).k = tb.keyOf key r := by
  unfold enR tb.keyOf zV
  simp only [List.getD_eq_getElem?_getD]
  rfl
/-- an entry whose key is above all others' is new -/
theorem isN_above {es : List En} {e : En} (h : ∀ x ∈ es, cmpV x.k e.k < 0) : isN e es = false := by
  cases hb : isN e es with
  | false => rfl
  | true =>
    obtain ⟨x, hx, hz⟩ := n_isL_at hb
    have h1 := h x (List.mem_of_getElem? hx)
    rw [cmpN_zero hz, cmpV_refl] at h1
    omega
theorem keysN_add {es : List En} {e : En} (ho : Srt es) (h : ∀ x ∈ es, cmpV x.k e.k < 0) (v : V) : keysN (addN es e) v = if cmpV e.v v = 0 then keysN es v ++ [e.k] else keysN es v := by
  unfold addN
  rw [isN_above h, if_neg (by simp)]
  have hes : keysN es v = keysN (es.take (posN e es)) v ++ keysN (es.drop (posN e es)) v := by
    unfold keysN
    rw [← List.map_append, ← List.filter_append, List.take_append_drop]
  have hsp : keysN (es.take (posN e es) ++ e :: es.drop (posN e es)) v = keysN (es.take (posN e es)) v ++ ((if cmpV e.v v = 0 then [e.k] else []) ++ keysN (es.drop (posN e es)) v) := by
    unfold keysN
    rw [List.filter_append, List.map_append, List.filter_cons]
    by_cases hc : cmpV e.v v = 0
    · rw [if_pos (by simpa using hc), if_pos hc, List.map_cons]; rfl
    · rw [if_neg (by simpa using hc), if_neg hc]; rfl
  rw [hsp, hes]
  by_cases hc : cmpV e.v v = 0
  · rw [if_pos hc, if_pos hc]
    have hd : keysN (es.drop (posN e es)) v = [] := by
      unfold keysN
      rw [List.filter_eq_nil_iff.2 ?_]
      · rfl
      intro x hx
      obtain ⟨j, hj, rfl⟩ := List.getElem_of_mem hx
      rw [List.getElem_drop]
      have hlt : posN e es + j < es.length := by rw [List.length_drop] at hj; omega
      have hb := n_ge_at ho (k := e) (i := posN e es + j) (Nat.le_add_right _ _) (List.getElem?_eq_getElem hlt)
      have hk := h es[posN e es + j] (List.getElem_mem hlt)
      intro hz
      simp only [decide_eq_true_eq] at hz
      unfold belowN at hb
      simp only [decide_eq_false_iff_not] at hb
      apply hb
      unfold cmpN
      rw [cmp_eq1 hz, cmp_eq1 hc, cmpV_refl, if_pos rfl]
      exact hk
    rw [hd, List.append_nil, List.append_nil]
  · rw [if_neg hc, if_neg hc, List.nil_append]
/-- the keys of rows whose value is v, in order -/
def wantL (col key : Nat) (rows : List (List V)) (v : V) : List V := (rows.filter fun r => decide (cmpV (enR col key r).v v = 0)).map fun r => (enR col key r).k
theorem wantL_snoc {col key : Nat} {rows : List (List V)} {v : V} {i : Nat} {r : List V} (h : rows[i]? = some r) :
    wantL col key (rows.take (i + 1)) v = if cmpV (enR col key r).v v = 0 then wantL col key (rows.take i) v ++ [(enR col key r).k] else wantL col key (rows.take i) v := by
  unfold wantL
  rw [List.take_add_one, h, Option.toList_some, List.filter_append, List.map_append]
  by_cases hc : cmpV (enR col key r).v v = 0
  · rw [if_pos hc, List.filter_cons, if_pos (by simpa using hc)]; rfl
  · rw [if_neg hc, List.filter_cons, if_neg (by simpa using hc), List.filter_nil, List.map_nil, List.append_nil]
theorem wantL_len (col key : Nat) (rows : List (List V)) (v : V) : (wantL col key rows v).length ≤ rows.length := by
  unfold wantL
  rw [List.length_map]
  exact List.length_filter_le _ _
theorem foldN_srt {col key : Nat} : ∀ (rows : List (List V)) {l : List En}, Srt l → Srt (rows.foldl (fun es r => addN es (enR col key r)) l)
  | [], l, h => h
  | r :: rs, l, h => foldN_srt rs (addN_srt h _)
theorem buildN_srt (col key : Nat) (rows : List (List V)) : Srt (buildN col key rows) := foldN_srt rows List.Pairwise.nil
theorem build_above {col key : Nat} {rows : List (List V)} (ho : rows.Pairwise fun a b => cmpV (tb.keyOf key a) (tb.keyOf key b) < 0) {i : Nat} {r : List V} (h : rows[i]? = some r) :
    ∀ x ∈ buildN col key (rows.take i), cmpV x.k (enR col key r).k < 0 := by
  intro x hx
  obtain ⟨r', hr', rfl⟩ := mem_buildN hx
  rw [enR_k, enR_k]
  obtain ⟨j, hj, rfl⟩ := List.getElem_of_mem hr'
  rw [List.getElem_take]
  rw [List.length_take] at hj
  obtain ⟨hi, rfl⟩ := List.getElem?_eq_some_iff.1 h
  exact List.pairwise_iff_getElem.1 ho j i (by omega) hi (by omega)
theorem keys_want {col key : Nat} {rows : List (List V)} (ho : rows.Pairwise fun a b => cmpV (tb.keyOf key a) (tb.keyOf key b) < 0) (v : V) (i : Nat) : keysN (buildN col key (rows.take i)) v = wantL col key (rows.take i) v := by
  induction i with
  | zero => rw [List.take_zero]; rfl
  | succ i ih =>
    cases h : rows[i]? with
    | none =>
      have : rows.take (i + 1) = rows.take i := by rw [List.take_add_one, h, Option.toList_none, List.append_nil]
      rw [this, ih]
    | some r => rw [buildN_snoc h, keysN_add (buildN_srt _ _ _) (build_above ho h), wantL_snoc h, ih]
theorem build_len {col key : Nat} {rows : List (List V)} (ho : rows.Pairwise fun a b => cmpV (tb.keyOf key a) (tb.keyOf key b) < 0) (i : Nat) : (buildN col key (rows.take i)).length = (rows.take i).length := by
  induction i with
  | zero => rw [List.take_zero]; rfl
  | succ i ih =>
    cases h : rows[i]? with
    | none =>
      have : rows.take (i + 1) = rows.take i := by rw [List.take_add_one, h, Option.toList_none, List.append_nil]
      rw [this, ih]
    | some r =>
      rw [buildN_snoc h, addN_len, isN_above (build_above ho h), if_neg (by simp), ih, List.take_add_one, h, List.length_append]
      rfl
theorem keys_all {col key : Nat} {rows : List (List V)} (ho : rows.Pairwise fun a b => cmpV (tb.keyOf key a) (tb.keyOf key b) < 0) (v : V) : keysN (buildN col key rows) v = wantL col key rows v := by
  have := keys_want (col := col) ho v rows.length
  rwa [List.take_of_length_le (Nat.le_refl _)] at this
theorem len_all {col key : Nat} {rows : List (List V)} (ho : rows.Pairwise fun a b => cmpV (tb.keyOf key a) (tb.keyOf key b) < 0) : (buildN col key rows).length = rows.length := by
  have := build_len (col := col) ho rows.length
  rwa [List.take_of_length_le (Nat.le_refl _)] at this
end Go.Proofs.Ytnlmbjmgmofeiaa.ix
