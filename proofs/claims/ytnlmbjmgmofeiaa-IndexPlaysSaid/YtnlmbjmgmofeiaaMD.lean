/- Contracts: Keys, From. Printed by gen11.py. -/
import Derived.Test.YtnlmbjmgmofeiaaMC
import Derived.Shelf.Abstract
namespace Go.Proofs.Ytnlmbjmgmofeiaa.ix
open Go.ChangeShapes Go.WideShapes Go.ChangeAt Go.RowKit Go.Proofs.Ytnlmbjmgmofeiaa.lib Go.Proofs.Ytnlmbjmgmofeiaa.val Go.Proofs.Ytnlmbjmgmofeiaa.tb
set_option linter.unusedVariables false

/-- the keys that are gathered: the box go, the row of one's own -/
structure Out (w : World) (go H : Nat) (outs : List V) (A : Option Addr) (c : Nat) : Prop where
  box : Blk w go 38 #[.slice A outs.length c]
  own : w.ownsRow H 41 3 (.slice A outs.length c) outs.length (cellsV outs)
theorem Out.ext {w w' : World} {go H : Nat} {outs : List V} {A : Option Addr} {c : Nat} (h : Out w go H outs A c) (hb : Below w.heap.size w w') : Out w' go H outs A c := ⟨h.box.ext hb, own_ext h.own hb⟩
/-- what a closure does to them -/
def OutP (outs' : List V) (go vb H : Nat) (VBt : TypeId) (VB : Array Value) (w w' : World) : Prop := ∃ A c, Out w' go H outs' A c ∧ Blk w' vb VBt VB ∧ w.heap.size ≤ w'.heap.size ∧ w'.os = w.os ∧ w'.tape = w.tape ∧ w'.output = w.output ∧ ∀ k, k < H → k ≠ go → w'.heap[k]? = w.heap[k]?
theorem OutP.same {outs : List V} {go vb H : Nat} {VBt : TypeId} {VB : Array Value} {w w' : World} {A : Option Addr} {c : Nat} (h : Out w go H outs A c) (hv : Blk w vb VBt VB) (hb : Below w.heap.size w w') (hH : H ≤ w.heap.size) : OutP outs go vb H VBt VB w w' :=
  ⟨A, c, h.ext hb, hv.ext hb, hb.size, hb.os, hb.tape, hb.output, fun k hk _ => hb.block k (by omega)⟩
theorem OutP.low {outs : List V} {go vb H h0 : Nat} {VBt : TypeId} {VB : Array Value} {w0 w w' : World} (h : OutP outs go vb H VBt VB w w') (hb : Below h0 w0 w) (h1 : h0 ≤ H) (h2 : h0 ≤ go) : Below h0 w0 w' := by
  obtain ⟨A, c, _, _, hs, ho, ht, hp, hk⟩ := h
  exact ⟨ho.trans hb.os, ht.trans hb.tape, hp.trans hb.output, Nat.le_trans hb.size hs, fun k hk2 => (hk k (by omega) (by omega)).trans (hb.block k hk2)⟩
/-- out = append(out, k): the last steps' memory -/
theorem out_put {w wq wr ws : World} {go vb H : Nat} {outs : List V} {A A' : Option Addr} {c c' : Nat} {VBt : TypeId} {VB : Array Value} {o : Obj} {k : V} (hb : Below w.heap.size w wq) (hH : H ≤ w.heap.size) (hO : Out wq go H outs A c) (hv : Blk wq vb VBt VB) (hgo : go < H) (hvH : vb < H) (hvg : vb ≠ go)
    (hown : wr.ownsRow H 41 3 (.slice A' (outs.length + 1) c') (outs.length + 1) (cellsV outs ++ encV k)) (hgrow : (wq.alloc o).grownBy wr (Value.slice A outs.length c).ownBlock) (hB : Blk wr go 38 #[.slice A outs.length c]) (hset : Blk ws go 38 #[.slice A' (outs.length + 1) c']) (hgr : wr.grownBy ws (some go)) :
    OutP (outs ++ [k]) go vb H VBt VB w ws := by
  have hlt := hO.own.lt
  have hal := (Below.refl wq.heap.size wq).alloc (Nat.le_refl _) o
  have hb1 := Below.trans hb (Below.mono hal hb.size)
  have hbr : Below H w wr := (hb1.mono hH).grown hgrow (Nat.le_trans hH hb1.size) (fun b hb => (hlt b hb).1)
  have hvr : Blk wr vb VBt VB := (hv.ext hal).grown hgrow (fun e => by have := (hlt _ e.symm).1; omega)
  refine ⟨A', c', ⟨by rw [List.length_append]; exact hset, ?_⟩, hvr.grown hgr (by simpa using hvg), Nat.le_trans hbr.size hgr.size, hgr.os.trans hbr.os, hgr.tape.trans hbr.tape, hgr.output.trans hbr.output, fun n hn hg => (hgr.block n (Nat.lt_of_lt_of_le hn (Nat.le_trans hH hbr.size)) (by simpa using hg)).trans (hbr.block n hn)⟩
  have e : cellsV (outs ++ [k]) = cellsV outs ++ encV k := by simp [cellsV, flatK_append, flatK_one]
  rw [e, List.length_append]
  exact hown.kept hgr (own_ne_blk hown hB (by decide))
set_option maxRecDepth 1000000 in
set_option maxHeartbeats 4000000 in
theorem keys1_ (x : Ew) (v : V) (outs : List V) (go vb H : Nat) (A : Option Addr) (c : Nat) (w : World) (hO : Out w go H outs A c) (hV : Blk w vb 41 #[.int .i64 v.k, .int .i64 v.n, .string v.s]) (hgo : go < H) (hvH : vb < H) (hvg : vb ≠ go) (hH : H ≤ w.heap.size) (hl : outs.length ≤ 5000) :
    Calls Try.prog 36 #[x.agg, .pointer (some ⟨vb, 0, none⟩), .pointer (some ⟨go, 0, none⟩)] w fun e w' => e = .returned (.bool (cmpV x.e.v v == 0)) ∧ OutP (if cmpV x.e.v v = 0 then outs ++ [x.e.k] else outs) go vb H 41 #[.int .i64 v.k, .int .i64 v.n, .string v.s] w w' := by
  obtain ⟨i0, hi, hy0, hy1, hy2⟩ := info_parts (P := Try.prog) (e := 41) (z := .agg #[.int .i64 0, .int .i64 0, .string ⟨#[]⟩]) (size := 3) (bytes := 32) (by kernel_rfl)
  unfold Ew.agg
  go_enter Try.func36, Try.ntmps36
  go_upto_region 1 with fail
  obtain ⟨W, hW_, hbW, BE⟩ : ∃ W_, W_ = (w.alloc (.cells #[.int .i64 x.e.v.k, .int .i64 x.e.v.n, .string x.e.v.s, .int .i64 x.e.k.k, .int .i64 x.e.k.n, .string x.e.k.s, .slice (some ⟨x.g, 0, none⟩) x.n x.c] 78)) ∧ Below w.heap.size w W_ ∧ Blk W_ (w.heap.size) 78 #[.int .i64 x.e.v.k, .int .i64 x.e.v.n, .string x.e.v.s, .int .i64 x.e.k.k, .int .i64 x.e.k.n, .string x.e.k.s, .slice (some ⟨x.g, 0, none⟩) x.n x.c] :=
    ⟨_, rfl, ((Below.refl _ _).alloc (Nat.le_refl _) _), (blk_new_at w (w.heap.size) _ _ (by simp))⟩
  rw [← hW_]
  clear hW_
  have qe := seven BE (Below.refl _ _)
  have qv := (hV.ext hbW).three (Below.refl _ _)
  go_wp2_with fail
  clear qe qv
  refine (compare x.e.v.k x.e.v.n x.e.v.s v.k v.n v.s _).mono ?_
  rintro e1 wq ⟨rfl, hb2⟩
  have hcmp : (or3 (ord x.e.v.k v.k) (ord x.e.v.n v.n) (Lib.compareBytes x.e.v.s.data.toList v.s.data.toList)) = cmpV x.e.v v := rfl
  rw [hcmp]
  have hbq := Below.trans hbW (Below.mono hb2 hbW.size)
  have BE := BE.ext hb2
  have hOq := hO.ext hbq
  have hVq := hV.ext hbq
  have HOq := Lib.hid hOq
  have hB1 := hOq.box
  have hO1 := hOq.own
  have hHq : H ≤ wq.heap.size := Nat.le_trans hH hbq.size
  clear hb2 hbW hcmp hOq
  by_cases hc : cmpV x.e.v v = 0
  case neg =>
    have hd : (cmpV x.e.v v == 0) = false := by simpa using hc
    have HC := Lib.hid hc
    have HP := Lib.hid (OutP.same hO hV hbq hH)
    clear hc
    go_wp2
    go_ret
    first | exact ⟨ret_bool (by simp), by rw [if_neg HC.out]; exact HP.out⟩ | exact ⟨ret_bool (by simp), HP.out⟩
  have hd : (cmpV x.e.v v == 0) = true := by simpa using hc
  have HC := Lib.hid hc
  clear hc
  have q0 := hB1.cell 0
  have qe := seven BE (Below.refl _ _)
  have hgoq := hB1.lt
  have qo := fun o => hB1.alloc o |>.cell 0
  go_wp2_with (at_builtin; refine wpList_append_own _ rfl (.tmp 12) (.tmp 15) 38 rfl H 41 i0 _ 3 32 Try.underlying38 hi hy0 hy1 hy2 rfl (by decide) _ outs.length _ rfl (hO1.alloc _) ⟨wq.heap.size, 0, none⟩ 1 1 (encV x.e.k) rfl ?a1 ?a2 ?a3 ?a4 ?a5 ?a6 ?_)
  all_goals try (case a1 => rfl)
  all_goals try (case a2 => exact (Row.of_blk (Blk.new wq _ _) (Nat.zero_le _) 1 1 (Nat.le_refl _)).src)
  all_goals try (case a3 => exact fun u hu => oneV [x.e.k] u (by simpa [cellsV, flatK_one] using hu))
  all_goals try (case a4 => unfold maxLen; omega)
  all_goals try (case a5 => omega)
  all_goals try (case a6 => have := hHq; simp; omega)
  intro v' wr hown hgrow _
  obtain ⟨A', c', rfl⟩ := own_slice hown
  have hlt := hO1.lt
  have hBr := (hB1.alloc (.cells #[.int .i64 x.e.k.k, .int .i64 x.e.k.n, .string x.e.k.s] 41)).grown hgrow (fun e => by have := (hlt _ e.symm).1; omega)
  have f0 := hBr.frozen 0
  have q0 := hBr.cell 0
  have Hown := Lib.hid hown
  have Hgrow := Lib.hid hgrow
  clear hown hgrow qe qo hlt
  go_upto_region 4 with fail
  obtain ⟨ws, hws, hset, hl1, hgr⟩ := Blk.set1 (i := 0) hBr (.slice A' (outs.length + 1) c')
  rw [← hws]
  clear hws f0 q0
  have HP := Lib.hid (out_put (w := w) hbq hH HOq.out hVq hgo hvH hvg Hown.out Hgrow.out hBr hset hgr)
  clear hl1 hgr hset hBr
  go_wp2
  go_ret
  first | exact ⟨ret_bool (by simp), by rw [if_pos HC.out]; exact HP.out⟩ | exact ⟨ret_bool (by simp), HP.out⟩

set_option maxRecDepth 1000000 in
set_option maxHeartbeats 4000000 in
theorem from1_ (x : Ew) (most : Int) (outs : List V) (go vb H : Nat) (A : Option Addr) (c : Nat) (w : World) (hO : Out w go H outs A c) (hV : Blk w vb 3 #[.int .i64 most]) (hgo : go < H) (hvH : vb < H) (hvg : vb ≠ go) (hH : H ≤ w.heap.size) (hl : outs.length ≤ 5000) :
    Calls Try.prog 41 #[x.agg, .pointer (some ⟨go, 0, none⟩), .pointer (some ⟨vb, 0, none⟩)] w fun e w' => ((outs.length : Int) < most → e = .returned (.bool (decide ((outs.length : Int) + 1 < most))) ∧ OutP (outs ++ [x.e.k]) go vb H 3 #[.int .i64 most] w w') ∧ (¬ (outs.length : Int) < most → e = .returned (.bool false) ∧ OutP outs go vb H 3 #[.int .i64 most] w w') := by
  obtain ⟨i0, hi, hy0, hy1, hy2⟩ := info_parts (P := Try.prog) (e := 41) (z := .agg #[.int .i64 0, .int .i64 0, .string ⟨#[]⟩]) (size := 3) (bytes := 32) (by kernel_rfl)
  unfold Ew.agg
  go_enter Try.func41, Try.ntmps41
  go_upto_region 1 with fail
  obtain ⟨wq, hW_, hbW, BE⟩ : ∃ W_, W_ = (w.alloc (.cells #[.int .i64 x.e.v.k, .int .i64 x.e.v.n, .string x.e.v.s, .int .i64 x.e.k.k, .int .i64 x.e.k.n, .string x.e.k.s, .slice (some ⟨x.g, 0, none⟩) x.n x.c] 78)) ∧ Below w.heap.size w W_ ∧ Blk W_ (w.heap.size) 78 #[.int .i64 x.e.v.k, .int .i64 x.e.v.n, .string x.e.v.s, .int .i64 x.e.k.k, .int .i64 x.e.k.n, .string x.e.k.s, .slice (some ⟨x.g, 0, none⟩) x.n x.c] :=
    ⟨_, rfl, ((Below.refl _ _).alloc (Nat.le_refl _) _), (blk_new_at w (w.heap.size) _ _ (by simp))⟩
  rw [← hW_]
  clear hW_
  have hOq := hO.ext hbW
  have hVq := hV.ext hbW
  have HOq := Lib.hid hOq
  have hB1 := hOq.box
  have hO1 := hOq.own
  have hHq : H ≤ wq.heap.size := Nat.le_trans hH hbW.size
  clear hOq
  have q0 := hB1.cell 0
  have qv := hVq.cell 0
  by_cases hc : (outs.length : Int) < most
  case neg =>
    have hd : decide ((outs.length : Int) < most) = false := by simpa using hc
    have HP := Lib.hid (OutP.same hO hV hbW hH)
    have HC := Lib.hid hc
    clear hc
    go_wp2
    go_ret
    exact ⟨fun h => absurd h (by have := HC.out; omega), fun _ => ⟨rfl, HP.out⟩⟩
  have hd : decide ((outs.length : Int) < most) = true := by simpa using hc
  have HC := Lib.hid hc
  clear hc
  have qe := seven BE (Below.refl _ _)
  have hgoq := hB1.lt
  have qo := fun o => hB1.alloc o |>.cell 0
  go_wp2_with (at_builtin; refine wpList_append_own _ rfl (.tmp 9) (.tmp 12) 38 rfl H 41 i0 _ 3 32 Try.underlying38 hi hy0 hy1 hy2 rfl (by decide) _ outs.length _ rfl (hO1.alloc _) ⟨wq.heap.size, 0, none⟩ 1 1 (encV x.e.k) rfl ?a1 ?a2 ?a3 ?a4 ?a5 ?a6 ?_)
  all_goals try (case a1 => rfl)
  all_goals try (case a2 => exact (Row.of_blk (Blk.new wq _ _) (Nat.zero_le _) 1 1 (Nat.le_refl _)).src)
  all_goals try (case a3 => exact fun u hu => oneV [x.e.k] u (by simpa [cellsV, flatK_one] using hu))
  all_goals try (case a4 => unfold maxLen; omega)
  all_goals try (case a5 => omega)
  all_goals try (case a6 => have := hHq; simp; omega)
  intro v' wr hown hgrow _
  obtain ⟨A', c', rfl⟩ := own_slice hown
  have hlt := hO1.lt
  have hBr := (hB1.alloc (.cells #[.int .i64 x.e.k.k, .int .i64 x.e.k.n, .string x.e.k.s] 41)).grown hgrow (fun e => by have := (hlt _ e.symm).1; omega)
  have f0 := hBr.frozen 0
  have q0 := hBr.cell 0
  have Hown := Lib.hid hown
  have Hgrow := Lib.hid hgrow
  clear hown hgrow qe qo qv hlt
  go_upto_region 3 with fail
  obtain ⟨ws, hws, hset, hl1, hgr⟩ := Blk.set1 (i := 0) hBr (.slice A' (outs.length + 1) c')
  rw [← hws]
  clear hws f0 q0
  have HP := Lib.hid (out_put (w := w) hbW hH HOq.out hVq hgo hvH hvg Hown.out Hgrow.out hBr hset hgr)
  have hVs : Blk ws vb 3 #[.int .i64 most] := by obtain ⟨_, _, _, h, _⟩ := HP.out; exact h
  have qv := hVs.cell 0
  have q0 : ws.cell? ⟨go, 0, none⟩ = some (.slice A' (outs.length + 1) c') := hset.cell 0
  clear hl1 hgr hset hBr hVs
  go_wp2
  go_ret
  exact ⟨fun _ => ⟨ret_bool (by simp), HP.out⟩, fun h => absurd HC.out (by omega)⟩
end Go.Proofs.Ytnlmbjmgmofeiaa.ix

/- Contracts: Keys, From, whole. Printed by gen12.py. -/
namespace Go.Proofs.Ytnlmbjmgmofeiaa.ix
open Go.ChangeShapes Go.WideShapes Go.ChangeAt Go.RowKit Go.Proofs.Ytnlmbjmgmofeiaa.lib Go.Proofs.Ytnlmbjmgmofeiaa.val Go.Proofs.Ytnlmbjmgmofeiaa.tb
set_option linter.unusedVariables false

theorem keysN_snoc {es : List En} {v : V} {i : Nat} {x : En} (h : es[i]? = some x) : keysN (es.take (i + 1)) v = if cmpV x.v v = 0 then keysN (es.take i) v ++ [x.k] else keysN (es.take i) v := by
  unfold keysN
  rw [filter_snoc _ _ _ _ h]
  by_cases hc : cmpV x.v v = 0
  · rw [if_pos (by simpa using hc), if_pos hc, List.map_append]; rfl
  · rw [if_neg (by simpa using hc), if_neg hc]
theorem geN_snoc {es : List En} {v : V} {i : Nat} {x : En} (h : es[i]? = some x) : geN (es.take (i + 1)) v = if 0 ≤ cmpV x.v v then geN (es.take i) v ++ [x.k] else geN (es.take i) v := by
  unfold geN
  rw [filter_snoc _ _ _ _ h]
  by_cases hc : 0 ≤ cmpV x.v v
  · rw [if_pos (by simpa using hc), if_pos hc, List.map_append]; rfl
  · rw [if_neg (by simpa using hc), if_neg hc]
theorem keysN_len (es : List En) (v : V) : (keysN es v).length ≤ es.length := by unfold keysN; rw [List.length_map]; exact List.length_filter_le _ _
theorem geN_len (es : List En) (v : V) : (geN es v).length ≤ es.length := by unfold geN; rw [List.length_map]; exact List.length_filter_le _ _
theorem cmpV_of_N {a b : En} (h : cmpN a b < 0) : cmpV a.v b.v ≤ 0 := by
  unfold cmpN at h
  split at h <;> omega
/-- behind one that is above v none is v's -/
theorem keysN_stop {es : List En} (ho : Srt es) {v : V} {i : Nat} {x : En} (h : es[i]? = some x) (hx : 0 < cmpV x.v v) : keysN (es.take i) v = keysN es v := by
  have hlt := (List.getElem?_eq_some_iff.1 h).1
  have e : es = es.take i ++ es.drop i := (List.take_append_drop i es).symm
  have hd : (es.drop i).filter (fun x => decide (cmpV x.v v = 0)) = [] := by
    rw [List.filter_eq_nil_iff]
    intro y hy
    simp only [decide_eq_true_eq]
    obtain ⟨j, hj, hjy⟩ := List.getElem_of_mem hy
    rw [List.getElem_drop] at hjy
    have hle : cmpV x.v y.v ≤ 0 := by
      by_cases hj0 : j = 0
      · subst hj0
        have : es[i] = y := by simpa using hjy
        rw [List.getElem?_eq_getElem hlt] at h
        injection h with h
        rw [← h, this, cmpV_refl]
        exact Int.le_refl _
      · have hp := List.pairwise_iff_getElem.1 ho i (i + j) hlt (by rw [List.length_drop] at hj; omega) (by omega)
        rw [hjy] at hp
        rw [List.getElem?_eq_getElem hlt] at h
        injection h with h
        rw [h] at hp
        exact cmpV_of_N hp
    intro hz
    have := (cmpV_hang x.v y.v v).1 hle (by omega)
    omega
  unfold keysN
  conv => rhs; rw [e, List.filter_append, hd, List.append_nil]
theorem geN_front (es : List En) (v : V) (i : Nat) : ∃ r, geN es v = geN (es.take i) v ++ r := by
  refine ⟨((es.drop i).filter fun x => decide (0 ≤ cmpV x.v v)).map (·.k), ?_⟩
  unfold geN
  conv => lhs; rw [← List.take_append_drop i es, List.filter_append, List.map_append]
set_option maxRecDepth 1000000 in
set_option maxHeartbeats 4000000 in
theorem keys_ (ws : List Ew) (v : V) (g B col key : Nat) (A : Option Addr) (c : Nat) (w : World) (hx : IxA w g B col key ws A c) (hn : ws.length ≤ 5000) :
    Calls Try.prog 18 #[.pointer (some ⟨g, 0, none⟩), .agg #[.int .i64 v.k, .int .i64 v.n, .string v.s]] w (OwnV (keysN (ws.map (·.e)) v) (keysN (ws.map (·.e)) v).length w) := by
  have hrow := hx.row
  have HX := Lib.hid hx
  have HROW := Lib.hid hrow
  clear hx hrow
  go_enter Try.func18, Try.ntmps18
  go_upto_region 2 with fail
  obtain ⟨W, hW_, hbW, BV, BO⟩ : ∃ W_, W_ = ((w.alloc (.cells #[.int .i64 v.k, .int .i64 v.n, .string v.s] 41)).alloc (.cells #[.slice none 0 0] 38)) ∧ Below w.heap.size w W_ ∧ Blk W_ (w.heap.size) 41 #[.int .i64 v.k, .int .i64 v.n, .string v.s] ∧ Blk W_ (w.heap.size + 1) 38 #[.slice none 0 0] :=
    ⟨_, rfl, (((Below.refl _ _).alloc (Nat.le_refl _) _).alloc (by simp; try omega) _), ((blk_new_at w (w.heap.size) _ _ (by simp)).alloc _), (blk_new_at (w.alloc (.cells #[.int .i64 v.k, .int .i64 v.n, .string v.s] 41)) (w.heap.size + 1) _ _ (by simp))⟩
  rw [← hW_]
  clear hW_
  have BG := HX.out.blk.ext hbW
  have qv := BV.three (Below.refl _ _)
  have hvl := BV.lt
  have hol := BO.lt
  obtain ⟨vb, hvb⟩ : ∃ g, w.heap.size = g := ⟨_, rfl⟩
  obtain ⟨go, hgo⟩ : ∃ g, w.heap.size + 1 = g := ⟨_, rfl⟩
  rw [hgo] at BO hol ⊢
  rw [hvb] at BV hvl qv ⊢
  have hne : vb ≠ go := by omega
  go_wp2_with fail
  clear qv
  refine (each_ ws v 36 (.pointer (some ⟨vb, 0, none⟩)) (.pointer (some ⟨go, 0, none⟩)) g go _ _ _ A c
    (fun H i w' => ∃ A' c', Out w' go H (keysN ((ws.map (·.e)).take i) v) A' c' ∧ Blk w' vb 41 #[.int .i64 v.k, .int .i64 v.n, .string v.s] ∧ Below w.heap.size w w')
    (fun w' => ∃ H A' c', Out w' go H (keysN (ws.map (·.e)) v) A' c' ∧ Below w.heap.size w w') W BG ?_ ?_ hol hn (enters_of Try.func36 (by kernel_rfl) rfl)).mono ?_
  · intro H hH
    refine ⟨?_, ?_, ?_, ?_, ?_⟩
    · rintro i w1 w2 ⟨A', c', h1, h2, h3⟩ hb
      exact ⟨A', c', h1.ext hb, h2.ext hb, Below.trans h3 (Below.mono hb h3.size)⟩
    · rintro i w1 ⟨A', c', h1, h2, h3⟩
      exact HROW.out.ext h3
    · rintro i x w1 hi hlt ⟨A', c', h1, h2, h3⟩
      refine ⟨A', c', ?_, h2, h3⟩
      rw [keysN_snoc (x := x.e) (by rw [List.getElem?_map, hi]; rfl), if_neg (by omega)]
      exact h1
    · rintro i x w1 hi hge ⟨A', c', h1, h2, h3⟩ hHw
      have hil := (List.getElem?_eq_some_iff.1 hi).1
      have hlen : (keysN ((ws.map (·.e)).take i) v).length ≤ 5000 := by
        have h4 := keysN_len ((ws.map (·.e)).take i) v
        rw [List.length_take, List.length_map] at h4
        omega
      refine (keys1_ x v _ go vb H A' c' w1 h1 h2 (by omega) (by omega) hne hHw hlen).mono ?_
      rintro e w2 ⟨rfl, hP⟩
      have hlow := OutP.low hP h3 (by omega) (by omega)
      have hi' : (ws.map (·.e))[i]? = some x.e := by rw [List.getElem?_map, hi]; rfl
      refine ⟨_, rfl, fun hb => ?_, fun hb => ?_, ?_, ?_⟩
      · have hc : cmpV x.e.v v = 0 := by simpa using hb
        rw [if_pos hc] at hP
        obtain ⟨A2, c2, k1, k2, _⟩ := hP
        refine ⟨A2, c2, ?_, k2, hlow⟩
        rw [keysN_snoc hi', if_pos hc]
        exact k1
      · have hc : ¬ cmpV x.e.v v = 0 := by simpa using hb
        rw [if_neg hc] at hP
        obtain ⟨A2, c2, k1, k2, _⟩ := hP
        refine ⟨H, A2, c2, ?_, hlow⟩
        rw [← keysN_stop HX.out.srt hi' (by omega)]
        exact k1
      · obtain ⟨_, _, _, _, hs, _⟩ := hP; exact hs
      · obtain ⟨_, _, _, _, _, _, _, _, hk⟩ := hP; exact hk
    · rintro w1 ⟨A', c', h1, h2, h3⟩
      rw [List.take_of_length_le (by simp)] at h1
      exact ⟨H, A', c', h1, h3⟩
  · intro H w1 hb hH
    exact ⟨none, 0, ⟨BO.ext hb, World.ownsRow_nil _ _ _ _⟩, BV.ext hb, Below.trans hbW (Below.mono hb hbW.size)⟩
  rintro e w3 ⟨rfl, H, A', c', hO, hb3⟩
  have q := hO.box.cell 0
  have hr := (Vs.of_own hO.own).base (Nat.zero_le _)
  have hlen : (keysN (ws.map (·.e)) v).length ≤ 5000 := by
    have h4 := keysN_len (ws.map (·.e)) v
    rw [List.length_map] at h4
    omega
  go_wp2_with fail
  clear q
  refine (cloneV _ 0 A' _ c' _ (by omega) hr).mono ?_
  rintro e w4 ⟨A2, c2, rfl, hown, hb4⟩
  have HO := Lib.hid (own_base hown hb3.size)
  have hbf := Below.trans hb3 (Below.mono hb4 hb3.size)
  clear hown hb4
  go_wp2
  go_ret
  exact ⟨A2, c2, rfl, HO.out, hbf⟩
set_option maxRecDepth 1000000 in
set_option maxHeartbeats 4000000 in
theorem from_ (ws : List Ew) (v : V) (most : Int) (g B col key : Nat) (A : Option Addr) (c : Nat) (w : World) (hx : IxA w g B col key ws A c) (hn : ws.length ≤ 5000) :
    Calls Try.prog 21 #[.pointer (some ⟨g, 0, none⟩), .agg #[.int .i64 v.k, .int .i64 v.n, .string v.s], .int .i64 most] w (OwnV (fromN (ws.map (·.e)) v most) (fromN (ws.map (·.e)) v most).length w) := by
  have hrow := hx.row
  have HX := Lib.hid hx
  have HROW := Lib.hid hrow
  clear hx hrow
  go_enter Try.func21, Try.ntmps21
  go_upto_region 2 with fail
  obtain ⟨W, hW_, hbW, BV, BM, BO⟩ : ∃ W_, W_ = (((w.alloc (.cells #[.int .i64 v.k, .int .i64 v.n, .string v.s] 41)).alloc (.cells #[.int .i64 most] 3)).alloc (.cells #[.slice none 0 0] 38)) ∧ Below w.heap.size w W_ ∧ Blk W_ (w.heap.size) 41 #[.int .i64 v.k, .int .i64 v.n, .string v.s] ∧ Blk W_ (w.heap.size + 1) 3 #[.int .i64 most] ∧ Blk W_ (w.heap.size + 1 + 1) 38 #[.slice none 0 0] :=
    ⟨_, rfl, ((((Below.refl _ _).alloc (Nat.le_refl _) _).alloc (by simp; try omega) _).alloc (by simp; try omega) _), (((blk_new_at w (w.heap.size) _ _ (by simp)).alloc _).alloc _), ((blk_new_at (w.alloc (.cells #[.int .i64 v.k, .int .i64 v.n, .string v.s] 41)) (w.heap.size + 1) _ _ (by simp)).alloc _), (blk_new_at ((w.alloc (.cells #[.int .i64 v.k, .int .i64 v.n, .string v.s] 41)).alloc (.cells #[.int .i64 most] 3)) (w.heap.size + 1 + 1) _ _ (by simp))⟩
  rw [← hW_]
  clear hW_
  have BG := HX.out.blk.ext hbW
  have qv := BV.three (Below.refl _ _)
  have hvl := BM.lt
  have hol := BO.lt
  obtain ⟨vb, hvb⟩ : ∃ g, w.heap.size + 1 = g := ⟨_, rfl⟩
  obtain ⟨go, hgo⟩ : ∃ g, w.heap.size + 1 + 1 = g := ⟨_, rfl⟩
  rw [hgo] at BO hol ⊢
  rw [hvb] at BM hvl ⊢
  have hne : vb ≠ go := by omega
  go_wp2_with fail
  clear qv
  refine (each_ ws v 41 (.pointer (some ⟨go, 0, none⟩)) (.pointer (some ⟨vb, 0, none⟩)) g go _ _ _ A c
    (fun H i w' => ∃ A' c', Out w' go H (geN ((ws.map (·.e)).take i) v) A' c' ∧ Blk w' vb 3 #[.int .i64 most] ∧ Below w.heap.size w w' ∧ (((geN ((ws.map (·.e)).take i) v).length : Int) < most ∨ geN ((ws.map (·.e)).take i) v = []))
    (fun w' => ∃ H A' c', Out w' go H (fromN (ws.map (·.e)) v most) A' c' ∧ Below w.heap.size w w') W BG ?_ ?_ hol hn (enters_of Try.func41 (by kernel_rfl) rfl)).mono ?_
  · intro H hH
    refine ⟨?_, ?_, ?_, ?_, ?_⟩
    · rintro i w1 w2 ⟨A', c', h1, h2, h3, h4⟩ hb
      exact ⟨A', c', h1.ext hb, h2.ext hb, Below.trans h3 (Below.mono hb h3.size), h4⟩
    · rintro i w1 ⟨A', c', h1, h2, h3, h4⟩
      exact HROW.out.ext h3
    · rintro i x w1 hi hlt ⟨A', c', h1, h2, h3, h4⟩
      refine ⟨A', c', ?_, h2, h3, ?_⟩ <;> rw [geN_snoc (x := x.e) (by rw [List.getElem?_map, hi]; rfl), if_neg (by omega)]
      · exact h1
      · exact h4
    · rintro i x w1 hi hge ⟨A', c', h1, h2, h3, h4⟩ hHw
      have hil := (List.getElem?_eq_some_iff.1 hi).1
      have hlen : (geN ((ws.map (·.e)).take i) v).length ≤ 5000 := by
        have h4 := geN_len ((ws.map (·.e)).take i) v
        rw [List.length_take, List.length_map] at h4
        omega
      have hi' : (ws.map (·.e))[i]? = some x.e := by rw [List.getElem?_map, hi]; rfl
      have hs := geN_snoc (v := v) hi'
      rw [if_pos (by omega)] at hs
      refine (from1_ x most _ go vb H A' c' w1 h1 h2 (by omega) (by omega) hne hHw hlen).mono ?_
      rintro e w2 ⟨hy, hno⟩
      by_cases hc : ((geN ((ws.map (·.e)).take i) v).length : Int) < most
      · obtain ⟨rfl, hP⟩ := hy hc
        rw [← hs] at hP
        have hlow := OutP.low hP h3 (by omega) (by omega)
        have hsl : (geN ((ws.map (·.e)).take (i + 1)) v).length = (geN ((ws.map (·.e)).take i) v).length + 1 := by rw [hs]; simp
        refine ⟨_, rfl, fun hb => ?_, fun hb => ?_, ?_, ?_⟩
        · have hc2 : ((geN ((ws.map (·.e)).take i) v).length : Int) + 1 < most := by simpa using hb
          obtain ⟨A2, c2, k1, k2, _⟩ := hP
          exact ⟨A2, c2, k1, k2, hlow, .inl (by omega)⟩
        · have hc2 : ¬ ((geN ((ws.map (·.e)).take i) v).length : Int) + 1 < most := by simpa using hb
          obtain ⟨A2, c2, k1, k2, _⟩ := hP
          refine ⟨H, A2, c2, ?_, hlow⟩
          obtain ⟨r, hr⟩ := geN_front (ws.map (·.e)) v (i + 1)
          unfold fromN
          rw [hr, List.take_append_of_le_length (by omega), List.take_of_length_le (by omega)]
          exact k1
        · obtain ⟨_, _, _, _, hs, _⟩ := hP; exact hs
        · obtain ⟨_, _, _, _, _, _, _, _, hk⟩ := hP; exact hk
      · obtain ⟨rfl, hP⟩ := hno hc
        have hlow := OutP.low hP h3 (by omega) (by omega)
        have h0 : geN ((ws.map (·.e)).take i) v = [] := h4.resolve_left hc
        refine ⟨_, rfl, (fun hb => by cases hb), fun hb => ?_, ?_, ?_⟩
        · obtain ⟨A2, c2, k1, k2, _⟩ := hP
          refine ⟨H, A2, c2, ?_, hlow⟩
          rw [h0] at k1 hc
          unfold fromN
          rw [show most.toNat = 0 by simp at hc; omega, List.take_zero]
          exact k1
        · obtain ⟨_, _, _, _, hs, _⟩ := hP; exact hs
        · obtain ⟨_, _, _, _, _, _, _, _, hk⟩ := hP; exact hk
    · rintro w1 ⟨A', c', h1, h2, h3, h4⟩
      rw [List.take_of_length_le (by simp)] at h1 h4
      refine ⟨H, A', c', ?_, h3⟩
      unfold fromN
      rcases h4 with h4 | h4
      · rw [List.take_of_length_le (by omega)]; exact h1
      · rw [h4] at h1 ⊢; rw [List.take_nil]; exact h1
  · intro H w1 hb hH
    exact ⟨none, 0, ⟨BO.ext hb, World.ownsRow_nil _ _ _ _⟩, BM.ext hb, Below.trans hbW (Below.mono hb hbW.size), .inr rfl⟩
  rintro e w3 ⟨rfl, H, A', c', hO, hb3⟩
  have q := hO.box.cell 0
  have hr := (Vs.of_own hO.own).base (Nat.zero_le _)
  have hlen : (fromN (ws.map (·.e)) v most).length ≤ 5000 := by
    have h4 := geN_len (ws.map (·.e)) v
    rw [List.length_map] at h4
    unfold fromN
    rw [List.length_take]
    omega
  go_wp2_with fail
  clear q
  refine (cloneV _ 0 A' _ c' _ (by omega) hr).mono ?_
  rintro e w4 ⟨A2, c2, rfl, hown, hb4⟩
  have HO := Lib.hid (own_base hown hb3.size)
  have hbf := Below.trans hb3 (Below.mono hb4 hb3.size)
  clear hown hb4
  go_wp2
  go_ret
  exact ⟨A2, c2, rfl, HO.out, hbf⟩
end Go.Proofs.Ytnlmbjmgmofeiaa.ix

/- Contract: index.Build. -/
namespace Go.Proofs.Ytnlmbjmgmofeiaa.ix
open Go.ChangeShapes Go.WideShapes Go.ChangeAt Go.RowKit Go.Proofs.Ytnlmbjmgmofeiaa.lib Go.Proofs.Ytnlmbjmgmofeiaa.val Go.Proofs.Ytnlmbjmgmofeiaa.tb
set_option linter.unusedVariables false

/-- a row's entry -/
def enR (col key : Nat) (r : List V) : En := ⟨(r[col]?).getD ⟨0, 0, ⟨#[]⟩⟩, (r[key]?).getD ⟨0, 0, ⟨#[]⟩⟩⟩
/-- a row that an index of these columns may have -/
structure RowN (col key : Nat) (r : List V) : Prop where
  colLt : col < r.length
  keyLt : key < r.length
  short : r.length ≤ 100000
  ok : EnOk (enR col key r)
theorem RowN.colAt {col key : Nat} {r : List V} (h : RowN col key r) : r[col]? = some (enR col key r).v := by
  unfold enR
  rw [List.getElem?_eq_getElem h.colLt]; rfl
theorem RowN.keyAt {col key : Nat} {r : List V} (h : RowN col key r) : r[key]? = some (enR col key r).k := by
  unfold enR
  rw [List.getElem?_eq_getElem h.keyLt]; rfl
def buildN (col key : Nat) (rows : List (List V)) : List En := rows.foldl (fun es r => addN es (enR col key r)) []
theorem buildN_snoc {col key : Nat} {rows : List (List V)} {i : Nat} {r : List V} (h : rows[i]? = some r) : buildN col key (rows.take (i + 1)) = addN (buildN col key (rows.take i)) (enR col key r) := by
  unfold buildN
  rw [List.take_add_one, h, List.foldl_append]; rfl
theorem addN_le (l : List En) (e : En) : (addN l e).length ≤ l.length + 1 := by
  unfold addN
  split
  · omega
  · rw [List.length_append, List.length_cons, List.length_take, List.length_drop]; omega
theorem buildN_len (col key : Nat) (rows : List (List V)) (i : Nat) : (buildN col key (rows.take i)).length ≤ i := by
  induction i with
  | zero => rw [List.take_zero]; exact Nat.le_refl _
  | succ i ih =>
    cases h : rows[i]? with
    | none =>
      rw [List.take_add_one, h, Option.toList_none, List.append_nil]
      omega
    | some r =>
      rw [buildN_snoc h]
      have := addN_le (buildN col key (rows.take i)) (enR col key r)
      omega
/-- what Build answers -/
def BuildP (col key : Nat) (rows : List (List V)) (w : World) (e : Ending) (w' : World) : Prop := ∃ g ws A c, e = .returned (.pointer (some ⟨g, 0, none⟩)) ∧ IxA w' g (g + 1) col key ws A c ∧ ws.map (·.e) = buildN col key rows ∧ w.heap.size ≤ g ∧ Below w.heap.size w w'
set_option maxRecDepth 1000000 in
set_option maxHeartbeats 8000000 in
theorem build_ (S : Sch) (rows : List (List V)) (col key lo : Nat) (At : Option Addr) (nt ct : Nat) (A' : Option Addr) (n c' : Nat) (w : World) (hkey : (S.key : Int) = (key : Int)) (hr : Rs w lo A' n c' rows) (hn : n ≤ 5000) (hok : ∀ r ∈ rows, RowN col key r) :
    Calls Try.prog 14 #[.agg (tabA S At nt ct A' n c'), .int .i64 col] w (BuildP col key rows w) := by
  have HL := Lib.hid hr.len
  have hr0 := hr
  have HOK := Lib.hid hok
  clear hok
  simp only [tabA]
  rw [hkey]
  clear hkey
  go_enter Try.func14, Try.ntmps14
  go_upto_region 1 with fail
  obtain ⟨W, hW_, hbW, BT⟩ : ∃ W_, W_ = (w.alloc (.cells #[.string S.name, .slice At nt ct, .int .i64 key, .bool S.only, .slice A' n c'] 36)) ∧ Below w.heap.size w W_ ∧ Blk W_ (w.heap.size) 36 #[.string S.name, .slice At nt ct, .int .i64 key, .bool S.only, .slice A' n c'] :=
    ⟨_, rfl, ((Below.refl _ _).alloc (Nat.le_refl _) _), (blk_new_at w (w.heap.size) _ _ (by simp))⟩
  rw [← hW_]
  clear hW_
  have q := five BT (Below.refl _ _)
  have hbt := BT.lt
  obtain ⟨tb, htb⟩ : ∃ g, w.heap.size = g := ⟨_, rfl⟩
  rw [htb] at BT q hbt ⊢
  go_upto_region 2 with fail
  obtain ⟨W1, hW_, hbX, BX⟩ : ∃ W_, W_ = (W.alloc (.cells #[.int .i64 col, .int .i64 key, .slice none 0 0, .int .i64 0] 75)) ∧ Below W.heap.size W W_ ∧ Blk W_ (W.heap.size) 75 #[.int .i64 col, .int .i64 key, .slice none 0 0, .int .i64 0] :=
    ⟨_, rfl, ((Below.refl _ _).alloc (Nat.le_refl _) _), (blk_new_at W (W.heap.size) _ _ (by simp))⟩
  rw [← hW_]
  clear hW_
  have hxl := BX.lt
  obtain ⟨g, hg⟩ : ∃ g, W.heap.size = g := ⟨_, rfl⟩
  have hbw := Below.trans hbW (Below.mono hbX hbW.size)
  have hlow : w.heap.size ≤ g := by rw [← hg]; exact hbW.size
  have BT := BT.ext hbX
  have hsz : g + 1 ≤ W1.heap.size := by rw [hg] at hxl; omega
  rw [hg] at BX hxl ⊢
  clear q hbX hbt
  have q := five BT (Below.refl _ _)
  have h0 : IxA W1 g (g + 1) col key [] none 0 := ⟨BX, World.ownsRow_nil _ _ _ _, by simp, List.Pairwise.nil, Nat.lt_succ_self _, hsz⟩
  have H0 := Lib.hid h0
  clear h0 hg
  go_wp2_with fail
  clear q
  have hW1 : w.heap.size ≤ W1.heap.size := hbw.size
  go_loopw [20] (fun i w' => ∃ (k : Nat) (ws : List Ew) (A : Option Addr) (c : Nat), i = .int .i64 k ∧ k ≤ n ∧ IxA w' g (g + 1) col key ws A c ∧ ws.map (·.e) = buildN col key (rows.take k) ∧ Below w.heap.size w w') (fun i _ => n - (intOf i).toNat)
  case atStart => exact ⟨0, [], none, 0, rfl, Nat.zero_le _, H0.out, by rw [List.take_zero]; rfl, hbw⟩
  case round =>
    obtain ⟨k, ws, A, c, rfl, hk, hx, hmap, hbr⟩ := hrel
    have HX := Lib.hid hx
    have HM := Lib.hid hmap
    have hlen : ws.length ≤ k := by
      have h4 := buildN_len col key rows k
      rw [← hmap, List.length_map] at h4
      exact h4
    clear hx hmap
    rcases Nat.lt_or_ge k n with hlt | hge
    case inr =>
      have hd : decide ((k : Int) < (n : Int)) = false := by simp; omega
      obtain rfl : k = n := by omega
      go_wp2
      go_ret
      exact ⟨g, ws, A, c, rfl, HX.out, by rw [HM.out, List.take_of_length_le (by rw [HL.out]; exact Nat.le_refl _)], hlow, hbr⟩
    have hd : decide ((k : Int) < (n : Int)) = true := by simp; omega
    have hkn : (k : Int) < (n : Int) := by omega
    obtain ⟨x, hx⟩ : ∃ x, rows[k]? = some x := ⟨_, List.getElem?_eq_getElem (by rw [HL.out]; exact hlt)⟩
    obtain ⟨b, o, rfl, _, _, hb⟩ := hr0.some_ (by omega)
    obtain ⟨A1, c1, q1, v1⟩ := (hr0.ext hbr).at_ hx
    have hrow := HOK.out x (List.mem_of_getElem? hx)
    have HS := Lib.hid (buildN_snoc (col := col) (key := key) hx)
    have hcv := hrow.colAt
    have hkv := hrow.keyAt
    have hxl := hrow.short
    have HR := Lib.hid hrow.ok
    have HA := Lib.hid (add_ ws x (enR col key x) g (g + 1) col key A c lo A1 x.length c1 wr HX.out v1 hxl hcv hkv hrow.ok (by omega))
    clear hrow hcv hkv hx v1
    go_wp2_with fail
    refine (HA.out).mono ?_
    rintro e w2 ⟨ws', A2, c2, rfl, hx2, hm2, hk2⟩
    have hb2 : Below w.heap.size wr w2 := hk2.below hbr.size hlow (fun m h => by have := (HX.out.own.lt m h).1; omega)
    have HX2 := Lib.hid hx2
    have HM2 := Lib.hid hm2
    clear hx2 hm2 hk2 q1
    go_wp2
    go_roundw
    case rel => exact ⟨k + 1, ws', A2, c2, by go_num, by omega, HX2.out, by rw [HM2.out, HM.out, HS.out], Below.trans hbr hb2⟩
    case measure => simp [intOf]; omega
end Go.Proofs.Ytnlmbjmgmofeiaa.ix
