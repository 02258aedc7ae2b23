/- Contract: law11's at. -/
import Derived.Test.YtnlmbjmgmofeiaaME
import Derived.Laws.StructEq
namespace Go.Proofs.Ytnlmbjmgmofeiaa.ix
open Go.ChangeShapes Go.WideShapes Go.ChangeAt Go.RowKit Go.Proofs.Ytnlmbjmgmofeiaa.lib Go.Proofs.Ytnlmbjmgmofeiaa.val Go.Proofs.Ytnlmbjmgmofeiaa.tb
set_option linter.unusedVariables false

/-- a row of a key, or none -/
def AtP (key : Nat) (rows : List (List V)) (kv : V) (i : Int) : Prop := (i = -1 ∧ ∀ r ∈ rows, (enR key key r).v ≠ kv) ∨ ∃ (m : Nat) (r : List V), i = (m : Int) ∧ rows[m]? = some r ∧ (enR key key r).v = kv
set_option maxRecDepth 1000000 in
set_option maxHeartbeats 4000000 in
theorem at_ (rows : List (List V)) (key : Nat) (kv : V) (lo : Nat) (A : Option Addr) (n c : Nat) (w : World) (hr : Rs w lo A n c rows) (hn : n ≤ 5000) (hok : ∀ r ∈ rows, RowN key key r) :
    Calls Try.prog 22 #[.slice A n c, .int .i64 key, .agg #[.int .i64 kv.k, .int .i64 kv.n, .string kv.s]] w fun e w' => ∃ i, e = .returned (.int .i64 i) ∧ AtP key rows kv i ∧ Below w.heap.size w w' := by
  have HL := Lib.hid hr.len
  have HOK := Lib.hid hok
  clear hok
  obtain ⟨k0, k1, k2⟩ := kv
  simp only
  obtain ⟨kv, hkv⟩ : ∃ kv : V, kv = ⟨k0, k1, k2⟩ := ⟨_, rfl⟩
  rw [← hkv]
  have HKV := Lib.hid hkv
  clear hkv
  go_enter Try.func22, Try.ntmps22
  go_upto_region 1 with fail
  obtain ⟨W, hW_, hbW, BV⟩ : ∃ W_, W_ = (w.alloc (.cells #[.int .i64 k0, .int .i64 k1, .string k2] 41)) ∧ Below w.heap.size w W_ ∧ Blk W_ (w.heap.size) 41 #[.int .i64 k0, .int .i64 k1, .string k2] :=
    ⟨_, rfl, ((Below.refl _ _).alloc (Nat.le_refl _) _), (blk_new_at w (w.heap.size) _ _ (by simp))⟩
  rw [← hW_]
  clear hW_
  have hrW := hr.ext hbW
  go_wp2_with fail
  go_loopw [7] (fun i w' => ∃ k : Nat, Below W.heap.size W w' ∧ k ≤ n ∧ i = .int .i64 k ∧ ∀ r ∈ rows.take k, (enR key key r).v ≠ kv) (fun i _ => n - (intOf i).toNat)
  case atStart => exact ⟨0, Below.refl _ _, Nat.zero_le _, rfl, by simp⟩
  case round =>
    obtain ⟨k, hbw, hk, rfl, hno⟩ := hrel
    have HNO := Lib.hid hno
    clear hno
    rcases Nat.lt_or_ge k n with hlt | hge
    case inr =>
      have hd : decide ((k : Int) < (n : Int)) = false := by simp; omega
      go_wp2
      go_ret
      exact ⟨-1, rfl, .inl ⟨rfl, fun r hr => HNO.out r (by rw [List.take_of_length_le (by rw [HL.out]; exact hge)]; exact hr)⟩, Below.trans hbW (Below.mono hbw hbW.size)⟩
    have hd : decide ((k : Int) < (n : Int)) = true := by simp; omega
    have hkn : (k : Int) < (n : Int) := by omega
    obtain ⟨x, hx⟩ : ∃ x, rows[k]? = some x := ⟨_, List.getElem?_eq_getElem (by rw [HL.out]; exact hlt)⟩
    obtain ⟨b, o, rfl, _, _, hb⟩ := hrW.some_ (by omega)
    obtain ⟨A1, c1, q1, v1⟩ := hrW.at_ hx
    have hrn := HOK.out x (List.mem_of_getElem? hx)
    have RXc := hrn.colAt
    have hxc : (key : Int) < (x.length : Int) := by have := hrn.colLt; omega
    obtain ⟨b5, o5, rfl, _, _, hb5l⟩ := v1.1.some_ (by have := hrn.colLt; omega)
    have HX := Lib.hid hx
    clear hx hrn
    obtain ⟨xv, hxv⟩ : ∃ xv, (enR key key x).v = xv := ⟨_, rfl⟩
    rw [hxv] at RXc
    have HXV := Lib.hid hxv
    clear hxv
    obtain ⟨x0, x1, x2⟩ := xv
    have hcs : (x0 = k0 ∧ x1 = k1 ∧ x2 = k2) ∨ ((enR key key x).v ≠ kv ∧ ((x0 == k0) = false ∨ (x0 = k0 ∧ (x1 == k1) = false) ∨ (x0 = k0 ∧ x1 = k1 ∧ (x2.toList == k2.toList) = false))) := by
      rw [HXV.out, HKV.out, tl_beq]
      by_cases e0 : x0 = k0
      · by_cases e1 : x1 = k1
        · by_cases e2 : x2 = k2
          · exact .inl ⟨e0, e1, e2⟩
          · exact .inr ⟨fun h => e2 (by injection h), .inr (.inr ⟨e0, e1, by rw [Bool.eq_false_iff]; exact fun h => e2 ((beqBA _ _).1 h)⟩)⟩
        · exact .inr ⟨fun h => e1 (by injection h), .inr (.inl ⟨e0, by simpa using e1⟩)⟩
      · exact .inr ⟨fun h => e0 (by injection h), .inl (by simpa using e0)⟩
    rcases hcs with ⟨rfl, rfl, rfl⟩ | ⟨hne, hcs⟩
    · go_wp2_with fail
      have D := fun w' (h : Below wr.heap.size wr.drew w') => ((Below.trans hbw.drew (Below.mono h hbw.size)).cell (p := ⟨b, o + k, none⟩) hb).trans q1
      have D1 := fun w' (h : Below wr.heap.size wr.drew w') => (v1.ext (Below.trans hbw.drew (Below.mono h hbw.size))).at_ RXc
      have D2 := fun w' (h : Below wr.heap.size wr.drew w') => BV.three (Below.trans hbw.drew (Below.mono h hbw.size))
      refine wp_region_one [(0, true), (1, true), (2, true), (3, true), (4, true), (5, true), (6, true), (7, true), (8, true)] (by kernel_rfl) (by kernel_rfl) (by kernel_rfl) (by decide) ?_
      have u30 := Try.underlying41
      have u3 := Try.underlying3
      have u9 := Try.underlying9
      have u4 := Try.underlying4
      have hp := stoodV
      have hmg := guardV
      repeat ((with_reducible show wpPerm _ _ _ _ ((_, true) :: _) _ _); (first | (refine wpPerm_on (v := ?_) rfl rfl (wanted_free rfl) (fun w' hS => ?_) ?_; rotate_left; (focus (go_simp; (try with_reducible rfl); done)); try simp only [List.setIfInBounds_toArray, List.set_cons_zero, List.set_cons_succ]) | (refine wpPerm_on (v := ?_) rfl rfl (wanted_yes rfl rfl rfl) (fun w' hS => ?_) ?_; rotate_left; (focus (go_simp; (try with_reducible rfl); done)); try simp only [List.setIfInBounds_toArray, List.set_cons_zero, List.set_cons_succ]) | (refine wpPerm_off rfl rfl (wanted_no rfl rfl rfl) ?_; try simp only [List.setIfInBounds_toArray, List.set_cons_zero, List.set_cons_succ]) | (refine wpPerm_off rfl rfl (wanted_undef rfl rfl rfl) ?_; try simp only [List.setIfInBounds_toArray, List.set_cons_zero, List.set_cons_succ])))
      refine wpPerm_done ?_
      clear D D1 D2 u30 u3 u9 u4 hp hmg
      have hbd := hbw.drew
      go_wp2
      go_ret
      exact ⟨(k : Int), rfl, .inr ⟨k, x, rfl, HX.out, by rw [HXV.out, HKV.out]⟩, Below.trans hbW (Below.mono hbd hbW.size)⟩
    have HNE := Lib.hid hne
    clear hne
    rcases hcs with d0 | ⟨rfl, d1⟩ | ⟨rfl, rfl, d2⟩
    all_goals
      go_wp2_with fail
      have D := fun w' (h : Below wr.heap.size wr.drew w') => ((Below.trans hbw.drew (Below.mono h hbw.size)).cell (p := ⟨b, o + k, none⟩) hb).trans q1
      have D1 := fun w' (h : Below wr.heap.size wr.drew w') => (v1.ext (Below.trans hbw.drew (Below.mono h hbw.size))).at_ RXc
      have D2 := fun w' (h : Below wr.heap.size wr.drew w') => BV.three (Below.trans hbw.drew (Below.mono h hbw.size))
      refine wp_region_one [(0, true), (1, true), (2, true), (3, true), (4, true), (5, true), (6, true), (7, true), (8, true)] (by kernel_rfl) (by kernel_rfl) (by kernel_rfl) (by decide) ?_
      have u30 := Try.underlying41
      have u3 := Try.underlying3
      have u9 := Try.underlying9
      have u4 := Try.underlying4
      have hp := stoodV
      have hmg := guardV
      repeat ((with_reducible show wpPerm _ _ _ _ ((_, true) :: _) _ _); (first | (refine wpPerm_on (v := ?_) rfl rfl (wanted_free rfl) (fun w' hS => ?_) ?_; rotate_left; (focus (go_simp; (try with_reducible rfl); done)); try simp only [List.setIfInBounds_toArray, List.set_cons_zero, List.set_cons_succ]) | (refine wpPerm_on (v := ?_) rfl rfl (wanted_yes rfl rfl rfl) (fun w' hS => ?_) ?_; rotate_left; (focus (go_simp; (try with_reducible rfl); done)); try simp only [List.setIfInBounds_toArray, List.set_cons_zero, List.set_cons_succ]) | (refine wpPerm_off rfl rfl (wanted_no rfl rfl rfl) ?_; try simp only [List.setIfInBounds_toArray, List.set_cons_zero, List.set_cons_succ]) | (refine wpPerm_off rfl rfl (wanted_undef rfl rfl rfl) ?_; try simp only [List.setIfInBounds_toArray, List.set_cons_zero, List.set_cons_succ])))
      refine wpPerm_done ?_
      clear D D1 D2 u30 u3 u9 u4 hp hmg
      have hbd := hbw.drew
      go_wp2
      go_roundw
      case rel =>
        refine ⟨k + 1, hbd, by omega, by go_num, fun r hr => ?_⟩
        rw [List.take_add_one, HX.out, Option.toList_some] at hr
        rcases List.mem_append.1 hr with hr | hr
        · exact HNO.out r hr
        · rw [List.mem_singleton.1 hr]; exact HNE.out
      case measure => simp [intOf]; omega
end Go.Proofs.Ytnlmbjmgmofeiaa.ix

/- Plain: what From tells of a table's rows. -/
namespace Go.Proofs.Ytnlmbjmgmofeiaa.ix
open Go.ChangeShapes Go.WideShapes Go.ChangeAt Go.RowKit Go.Proofs.Ytnlmbjmgmofeiaa.lib Go.Proofs.Ytnlmbjmgmofeiaa.val Go.Proofs.Ytnlmbjmgmofeiaa.tb
set_option linter.unusedVariables false

/-- the rows whose value is not below v -/
def geL (col key : Nat) (rows : List (List V)) (v : V) : List (List V) := rows.filter fun r => decide (0 ≤ cmpV (enR col key r).v v)
theorem geL_snoc {col key : Nat} {rows : List (List V)} {v : V} {i : Nat} {r : List V} (h : rows[i]? = some r) :
    (geL col key (rows.take (i + 1)) v).length = (geL col key (rows.take i) v).length + (if 0 ≤ cmpV (enR col key r).v v then 1 else 0) := by
  unfold geL
  rw [List.take_add_one, h, Option.toList_some, List.filter_append, List.length_append]
  by_cases hc : 0 ≤ cmpV (enR col key r).v v
  · rw [if_pos hc, List.filter_cons, if_pos (by simpa using hc)]; rfl
  · rw [if_neg hc, List.filter_cons, if_neg (by simpa using hc)]; rfl
theorem geN_add_len {es : List En} {e : En} (h : isN e es = false) (v : V) : (geN (addN es e) v).length = (geN es v).length + (if 0 ≤ cmpV e.v v then 1 else 0) := by
  unfold addN
  rw [h, if_neg (by simp)]
  have hes : geN es v = geN (es.take (posN e es)) v ++ geN (es.drop (posN e es)) v := by
    unfold geN
    rw [← List.map_append, ← List.filter_append, List.take_append_drop]
  rw [hes, List.length_append]
  unfold geN
  rw [List.filter_append, List.map_append, List.length_append, List.filter_cons]
  by_cases hc : 0 ≤ cmpV e.v v
  · rw [if_pos (by simpa using hc), if_pos hc, List.map_cons, List.length_cons]; omega
  · rw [if_neg (by simpa using hc), if_neg hc]; omega
theorem geN_len_take {col key : Nat} {rows : List (List V)} (ho : rows.Pairwise fun a b => cmpV (tb.keyOf key a) (tb.keyOf key b) < 0) (v : V) (i : Nat) : (geN (buildN col key (rows.take i)) v).length = (geL col key (rows.take i) v).length := by
  induction i with
  | zero => rw [List.take_zero]; rfl
  | succ i ih =>
    cases h : rows[i]? with
    | none =>
      have : rows.take (i + 1) = rows.take i := by rw [List.take_add_one, h, Option.toList_none, List.append_nil]
      rw [this, ih]
    | some r => rw [buildN_snoc h, geN_add_len (isN_above (build_above ho h)), geL_snoc h, ih]
theorem geN_len_all {col key : Nat} {rows : List (List V)} (ho : rows.Pairwise fun a b => cmpV (tb.keyOf key a) (tb.keyOf key b) < 0) (v : V) : (geN (buildN col key rows) v).length = (geL col key rows v).length := by
  have := geN_len_take (col := col) ho v rows.length
  rwa [List.take_of_length_le (Nat.le_refl _)] at this
/-- one key, one row -/
theorem key_row {key : Nat} {rows : List (List V)} (ho : rows.Pairwise fun a b => cmpV (tb.keyOf key a) (tb.keyOf key b) < 0) {i j : Nat} {r r' : List V} (h : rows[i]? = some r) (h' : rows[j]? = some r') (he : tb.keyOf key r = tb.keyOf key r') : r = r' := by
  obtain ⟨hi, rfl⟩ := List.getElem?_eq_some_iff.1 h
  obtain ⟨hj, rfl⟩ := List.getElem?_eq_some_iff.1 h'
  rcases Nat.lt_trichotomy i j with h1 | h1 | h1
  · have := List.pairwise_iff_getElem.1 ho i j hi hj h1
    rw [he, cmpV_refl] at this
    omega
  · subst h1; rfl
  · have := List.pairwise_iff_getElem.1 ho j i hj hi h1
    rw [he, cmpV_refl] at this
    omega
/-- the entries not below v -/
def geE (es : List En) (v : V) : List En := es.filter fun x => decide (0 ≤ cmpV x.v v)
theorem geN_E (es : List En) (v : V) : geN es v = (geE es v).map (·.k) := rfl
theorem geE_srt {es : List En} (h : Srt es) (v : V) : Srt (geE es v) := List.Pairwise.sublist List.filter_sublist h
theorem geE_ge {es : List En} {v : V} {x : En} (h : x ∈ geE es v) : 0 ≤ cmpV x.v v := by
  unfold geE at h
  have := (List.mem_filter.1 h).2
  simpa using this
/-- values do not fall along From -/
theorem geE_up {es : List En} (ho : Srt es) {v : V} {i : Nat} {x y : En} (h : (geE es v)[i]? = some x) (h' : (geE es v)[i + 1]? = some y) : 0 ≤ cmpV y.v x.v := by
  obtain ⟨hi, rfl⟩ := List.getElem?_eq_some_iff.1 h
  obtain ⟨hj, rfl⟩ := List.getElem?_eq_some_iff.1 h'
  have := cmpV_of_N (List.pairwise_iff_getElem.1 (geE_srt ho v) i (i + 1) hi hj (Nat.lt_succ_self _))
  have h3 := cmpV_anti (geE es v)[i].v (geE es v)[i + 1].v
  omega
/-- the row that at finds for a key that From told -/
theorem at_from {col key : Nat} {rows : List (List V)} (ho : rows.Pairwise fun a b => cmpV (tb.keyOf key a) (tb.keyOf key b) < 0) {v : V} {i : Nat} {x : En} (h : (geE (buildN col key rows) v)[i]? = some x) {z : Int} (hz : AtP key rows x.k z) :
    ∃ (m : Nat) (r : List V), z = (m : Int) ∧ rows[m]? = some r ∧ (enR col key r).v = x.v := by
  have hx := (List.mem_filter.1 (List.mem_of_getElem? h)).1
  obtain ⟨r, hr, rfl⟩ := mem_buildN hx
  have hk : ∀ r : List V, (enR key key r).v = tb.keyOf key r := fun r => by
    rw [← enR_k key key r]; rfl
  obtain ⟨m, hm, rfl⟩ := List.getElem_of_mem hr
  rw [enR_k] at hz
  rcases hz with ⟨_, hno⟩ | ⟨j, r', e, hj, hv⟩
  · exact absurd (hk _) (hno _ hr)
  · refine ⟨j, r', e, hj, ?_⟩
    rw [key_row ho hj (List.getElem?_eq_getElem hm) (by rw [← hk, hv])]
end Go.Proofs.Ytnlmbjmgmofeiaa.ix

/- Plain: From's keys, one behind the other. -/
namespace Go.Proofs.Ytnlmbjmgmofeiaa.ix
open Go.ChangeShapes Go.WideShapes Go.ChangeAt Go.RowKit Go.Proofs.Ytnlmbjmgmofeiaa.lib Go.Proofs.Ytnlmbjmgmofeiaa.val Go.Proofs.Ytnlmbjmgmofeiaa.tb
set_option linter.unusedVariables false

/-- a key that From tells is an entry's -/
theorem from_ent {es : List En} {v kv : V} {n : Int} {j : Nat} (h : (fromN es v n)[j]? = some kv) : ∃ x, (geE es v)[j]? = some x ∧ x.k = kv := by
  unfold fromN at h
  obtain ⟨hj, e⟩ := List.getElem?_eq_some_iff.1 h
  rw [List.getElem_take] at e
  rw [List.length_take] at hj
  have h2 : (geN es v)[j]? = some kv := by rw [← e]; exact List.getElem?_eq_getElem (by omega)
  rw [geN_E, List.getElem?_map] at h2
  cases hx : (geE es v)[j]? with
  | none => rw [hx] at h2; cases h2
  | some x => rw [hx] at h2; exact ⟨x, rfl, by injection h2⟩
/-- the value kept by the last round is not above the next one's -/
def LastP (es : List En) (v u : V) (j : Nat) : Prop := vchk u = 0 ∧ ∀ x, (geE es v)[j]? = some x → 0 ≤ cmpV x.v u
theorem lastP_0 {es : List En} {v : V} (hv : vchk v = 0) : LastP es v v 0 := ⟨hv, fun x hx => geE_ge (List.mem_of_getElem? hx)⟩
theorem lastP_step {es : List En} {v : V} {j : Nat} {x : En} (ho : Srt es) (h : (geE es v)[j]? = some x) (hx : vchk x.v = 0) : LastP es v x.v (j + 1) := ⟨hx, fun y hy => geE_up ho h hy⟩
end Go.Proofs.Ytnlmbjmgmofeiaa.ix

/- Plain: one index is kept while another one is changed; how many entries there are then. -/
namespace Go.Proofs.Ytnlmbjmgmofeiaa.ix
open Go.ChangeShapes Go.WideShapes Go.ChangeAt Go.RowKit Go.Proofs.Ytnlmbjmgmofeiaa.lib Go.Proofs.Ytnlmbjmgmofeiaa.val Go.Proofs.Ytnlmbjmgmofeiaa.tb
set_option linter.unusedVariables false

theorem own_keptK {w w' : World} {base size n g : Nat} {e : TypeId} {v : Value} {xs : List Value} {o : Option Nat} (h : w.ownsRow base e size v n xs) (hk : Kept w w' g o) (hg : v.ownBlock = none ∨ v.ownBlock ≠ some g) (ho : v.ownBlock = none ∨ v.ownBlock ≠ o) : w'.ownsRow base e size v n xs := by
  refine ⟨h.1, ?_⟩
  rcases h.2 with hn | ⟨b, cap, cur, rfl, hb, hgg, rest⟩
  · exact .inl hn
  · refine .inr ⟨b, cap, cur, rfl, hb, ?_, rest⟩
    have h1 : b ≠ g := by
      rcases hg with h1 | h1
      · cases h1
      · exact fun e => h1 (by rw [← e]; rfl)
    have h2 : some b ≠ o := by
      rcases ho with h1 | h1
      · cases h1
      · exact fun e => h1 (by rw [← e]; rfl)
    rw [hk.block b (Array.getElem?_eq_some_iff.1 hgg).1 h1 h2]
    exact hgg
/-- a row of another kind is kept while an index is changed -/
theorem IxA.keeps {w w' : World} {g B col key base size n c : Nat} {e : TypeId} {v : Value} {xs : List Value} {ws : List Ew} {A : Option Addr} (hx : IxA w g B col key ws A c) (hk : Kept w w' g (Value.slice A ws.length c).ownBlock) (h : w.ownsRow base e size v n xs) (h1 : e ≠ 75) (h2 : e ≠ 78) : w'.ownsRow base e size v n xs :=
  own_keptK h hk (own_ne_blk h hx.blk h1) (own_ne h hx.own h2)
/-- an index is kept while another one, built ahead of it, is changed -/
theorem IxA.kept {w w' : World} {g B col key g' B' col' key' c c' : Nat} {ws ws' : List Ew} {A A' : Option Addr} (hy : IxA w g' B' col' key' ws' A' c') (hx : IxA w g B col key ws A c) (hk : Kept w w' g (Value.slice A ws.length c).ownBlock) (hg : g < g') (hlt : ∀ n, (Value.slice A ws.length c).ownBlock = some n → n < g') : IxA w' g' B' col' key' ws' A' c' := by
  have hb : some g' ≠ (Value.slice A ws.length c).ownBlock := fun e => by have := hlt _ e.symm; omega
  refine ⟨(hk.block g' hy.blk.lt (by omega) hb).trans hy.blk, own_keptK hy.own hk (own_ne_blk hy.own hx.blk (by decide)) ?_, fun x hxx => ⟨(hy.all x hxx).ok, own_keptK (hy.all x hxx).own hk (own_ne_blk (hy.all x hxx).own hx.blk (by decide)) (own_ne (hy.all x hxx).own hx.own (by decide))⟩, hy.srt, hy.gB, Nat.le_trans hy.hB hk.size⟩
  cases he : (Value.slice A' ws'.length c').ownBlock with
  | none => exact .inl rfl
  | some b =>
    refine .inr fun e => ?_
    have h1 := (hy.own.lt _ he).1
    have h2 := hlt _ e.symm
    have h3 := hy.gB
    omega
theorem addN_new {col key : Nat} {rows : List (List V)} {e : En} (h : ∀ r ∈ rows, (enR col key r).k ≠ e.k) : (addN (buildN col key rows) e).length = (buildN col key rows).length + 1 := by
  have hi : isN e (buildN col key rows) = false := by
    cases hh : isN e (buildN col key rows) with
    | false => rfl
    | true =>
      obtain ⟨x, hx, hz⟩ := n_isL_at hh
      obtain ⟨r, hr, rfl⟩ := mem_buildN (List.mem_of_getElem? hx)
      exact absurd (congrArg En.k (cmpN_zero hz)) (h r hr)
  unfold addN
  rw [hi, if_neg (by simp), List.length_append, List.length_cons, List.length_take, List.length_drop]
  have := n_at_le e (buildN col key rows)
  omega
theorem dropN_was {col key : Nat} {rows : List (List V)} {r : List V} (h : r ∈ rows) : (dropN (buildN col key rows) (enR col key r)).length + 1 = (buildN col key rows).length := by
  have hi : isN (enR col key r) (buildN col key rows) = true := n_isL_some (buildN_srt _ _ _) (buildN_mem h) (cmpN_refl _)
  obtain ⟨x, hx, _⟩ := n_isL_at hi
  have := (List.getElem?_eq_some_iff.1 hx).1
  unfold dropN
  rw [if_pos hi, List.length_append, List.length_take, List.length_drop]
  omega
end Go.Proofs.Ytnlmbjmgmofeiaa.ix
