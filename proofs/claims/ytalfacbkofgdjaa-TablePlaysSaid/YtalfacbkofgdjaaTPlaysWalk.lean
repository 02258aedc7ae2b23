/- TablePlays: the walk. Printed by genplayst.py. -/
import Derived.Test.YtalfacbkofgdjaaW1
import Derived.Test.YtalfacbkofgdjaaW2
import Derived.Test.YtalfacbkofgdjaaJ
import Derived.Test.YtalfacbkofgdjaaFr
namespace Go.Proofs.Ytalfacbkofgdjaa.tb
open Go.ChangeShapes Go.WideShapes Go.ChangeAt Go.RowKit Go.Proofs.Ytalfacbkofgdjaa.lib Go.Proofs.Ytalfacbkofgdjaa.val
set_option linter.unusedVariables false

theorem ActW.ext {w w' : World} {a : Act} (h : ActW w a) (hb : Below w.heap.size w w') : ActW w' a := ⟨h.k, h.n, h.v.ext hb, h.m, h.raw⟩
theorem rowL_len {cs : List Col} {key : Nat} {rows : List (List V)} (h : Ok cs key rows) (hn : cs.length ≤ 100) (kv : V) : (rowL key rows kv).length ≤ 100000 := by
  unfold rowL
  split
  · rename_i hi
    obtain ⟨r, hr, _⟩ := isL_at hi
    rw [List.getD_eq_getElem?_getD, hr]
    exact h.small hn r (List.mem_of_getElem? hr)
  · exact Nat.zero_le _
/-- a table in a block g, its rows not below H -/
def TabH (w0 w : World) (g H : Nat) (S : Sch) (rows : List (List V)) : Prop := ∃ A n c A' n' c', Blk w g 32 (tabA S A n c A' n' c') ∧ (Cs w H A n c S.cols ∨ ∀ w', Below w0.heap.size w0 w' → Cs w' 0 A n c S.cols) ∧ Rs w H A' n' c' rows ∧ Fine A'
def RefH (w : World) (g H : Nat) (S : Sch) (A7 : Option Addr) (c7 : Nat) (rows : List (List V)) : Prop := ∃ A' n' c', Blk w g 48 (tabA S A7 S.cols.length c7 A' n' c') ∧ Rs w H A' n' c' rows ∧ Fine A'
theorem TabH.ext {w0 w w' : World} {g H : Nat} {S : Sch} {rows : List (List V)} (h : TabH w0 w g H S rows) (hb : Below w.heap.size w w') : TabH w0 w' g H S rows := by
  obtain ⟨A, n, c, A', n', c', h1, h2, h3, h4⟩ := h
  exact ⟨A, n, c, A', n', c', h1.ext hb, h2.imp (fun k => k.ext hb) id, h3.ext hb, h4⟩
theorem RefH.ext {w w' : World} {g H : Nat} {S : Sch} {A7 : Option Addr} {c7 : Nat} {rows : List (List V)} (h : RefH w g H S A7 c7 rows) (hb : Below w.heap.size w w') : RefH w' g H S A7 c7 rows := by
  obtain ⟨A', n', c', h1, h3, h4⟩ := h
  exact ⟨A', n', c', h1.ext hb, h3.ext hb, h4⟩
theorem TabH.open {w0 w : World} {g H : Nat} {S : Sch} {rows : List (List V)} (h : TabH w0 w g H S rows) (hb : Below w0.heap.size w0 w) : ∃ A n c A' n' c', Blk w g 32 (tabA S A n c A' n' c') ∧ Cs w 0 A n c S.cols ∧ Rs w 0 A' n' c' rows ∧ Fine A' := by
  obtain ⟨A, n, c, A', n', c', h1, h2, h3, h4⟩ := h
  exact ⟨A, n, c, A', n', c', h1, h2.elim (fun k => k.base (Nat.zero_le _)) (fun k => k w hb), h3.base (Nat.zero_le _), h4⟩
/-- what is known within a round: the two tables, as they stood at its begin -/
structure Mid (w0 w : World) (ga gb H : Nat) (S : Sch) (A7 : Option Addr) (c7 : Nat) (rows : List (List V)) (A1 : Option Addr) (n1 c1 : Nat) (A2 : Option Addr) (n2 c2 : Nat) (A3 : Option Addr) (n3 c3 : Nat) : Prop where
  hbg : Below w0.heap.size w0 w
  b7 : Blk w w0.heap.size 24 #[.string S.name, .slice A7 S.cols.length c7, .int .i64 S.key, .bool S.only]
  b8 : Blk w ga 32 (tabA S A1 n1 c1 A2 n2 c2)
  bx : Blk w gb 48 (tabA S A7 S.cols.length c7 A3 n3 c3)
  c8 : Cs w 0 A1 n1 c1 S.cols
  r8 : Rs w 0 A2 n2 c2 rows
  f8 : Fine A2
  rx : Rs w H A3 n3 c3 rows
  fx : Fine A3
  hz : H ≤ w.heap.size
theorem Mid.ext {w0 w w' : World} {ga gb H : Nat} {S : Sch} {A7 : Option Addr} {c7 : Nat} {rows : List (List V)} {A1 : Option Addr} {n1 c1 : Nat} {A2 : Option Addr} {n2 c2 : Nat} {A3 : Option Addr} {n3 c3 : Nat} (h : Mid w0 w ga gb H S A7 c7 rows A1 n1 c1 A2 n2 c2 A3 n3 c3) (hb : Below w.heap.size w w') :
    Mid w0 w' ga gb H S A7 c7 rows A1 n1 c1 A2 n2 c2 A3 n3 c3 :=
  ⟨Below.trans h.hbg (Below.mono hb h.hbg.size), h.b7.ext hb, h.b8.ext hb, h.bx.ext hb, h.c8.ext hb, h.r8.ext hb, h.f8, h.rx.ext hb, h.fx, Nat.le_trans h.hz hb.size⟩
theorem ext_cell {w w' : World} {p : Addr} {v : Value} (h : Ext w w') (k : w.cell? p = some v) : w'.cell? p = some v := (Below.cell h (World.block_lt_of_cell? w p k)).trans k
theorem ext_blk {w w' : World} {g : Nat} {o : Obj} (h : Ext w w') (k : w.heap[g]? = some o) : w'.heap[g]? = some o := (Below.block h g (Array.getElem?_eq_some_iff.1 k).1).trans k
/-- a block of noughts is not one whose values are of a kind -/
theorem zero_blk {w : World} {g b o : Nat} {k : Int} (h : Blk w g 39 #[.int .i64 0, .int .i64 0, .string ⟨#[]⟩]) (e : w.cell? ⟨b, o, none⟩ = some (.int .i64 k)) (hk : k ≠ 0) : b ≠ g := by
  rintro rfl
  have h2 := h.cell o
  rw [e] at h2
  match o, h2 with
  | 0, h2 => simp at h2; exact hk h2
  | 1, h2 => simp at h2; exact hk h2
  | 2, h2 => simp at h2
  | o + 3, h2 => simp at h2
theorem far3 {w w' : World} {g b o : Nat} {x y z : Value} (hw : w' = ((w.setCell ⟨g, 0, none⟩ x).setCell ⟨g, 1, none⟩ y).setCell ⟨g, 2, none⟩ z) (h : b ≠ g) : w'.cell? ⟨b, o, none⟩ = w.cell? ⟨b, o, none⟩ := by
  subst hw
  apply World.cell?_of_block
  show _ = w.heap[b]?
  rw [Below.heap_setCell _ _ _ _ (by simpa using h), Below.heap_setCell _ _ _ _ (by simpa using h), Below.heap_setCell _ _ _ _ (by simpa using h)]
/-! what a table of noughts is not: a block of columns, of values, of rows -/
theorem Row.zero {w w' : World} {lo c : Nat} {A : Option Addr} (h : Row w lo A 0 c []) : Row w' lo A 0 c [] := by
  rcases h with h | ⟨ad, h1, h2, h3, h4⟩ | ⟨b, off, h1, h2, _⟩
  · exact .inl h
  · exact .inr (.inl ⟨ad, h1, h2, h3, h4⟩)
  · exact .inr (.inl ⟨_, h1, rfl, h2, rfl⟩)
theorem zt_no2 {w : World} {g off : Nat} {t : TypeId} {u v : Value} (hB : Blk w g t #[.string ⟨#[]⟩, .slice none 0 0, .int .i64 0, .bool false, .slice none 0 0]) (h0 : w.cell? ⟨g, off, none⟩ = some u) (h1 : w.cell? ⟨g, off + 1, none⟩ = some v) : (off = 0 ∧ u = .string ⟨#[]⟩ ∧ v = .slice none 0 0) ∨ (off = 1 ∧ u = .slice none 0 0 ∧ v = .int .i64 0) ∨ (off = 2 ∧ u = .int .i64 0 ∧ v = .bool false) ∨ (off = 3 ∧ u = .bool false) := by
  rw [hB.cell off] at h0
  rw [hB.cell (off + 1)] at h1
  match off, h0, h1 with
  | 0, h0, h1 => simp at h0 h1; exact .inl ⟨rfl, h0.symm, h1.symm⟩
  | 1, h0, h1 => simp at h0 h1; exact .inr (.inl ⟨rfl, h0.symm, h1.symm⟩)
  | 2, h0, h1 => simp at h0 h1; exact .inr (.inr (.inl ⟨rfl, h0.symm, h1.symm⟩))
  | 3, h0, h1 => simp at h0; exact .inr (.inr (.inr ⟨rfl, h0.symm⟩))
  | off + 4, h0, h1 => simp at h1
theorem zt_cs {w w' : World} {g lo n c : Nat} {t : TypeId} {A : Option Addr} {l : List Col} (h : Cs w lo A n c l) (hB : Blk w g t #[.string ⟨#[]⟩, .slice none 0 0, .int .i64 0, .bool false, .slice none 0 0]) (hg : w.grownBy w' (some g)) (hl : 1 ≤ l.length) : Cs w' lo A n c l := by
  refine ⟨h.1.grown hg (fun b off e e2 => ?_), h.2⟩
  injection e2 with e2
  subst e e2
  obtain ⟨x, hx⟩ : ∃ x, l[0]? = some x := ⟨_, List.getElem?_eq_getElem (by omega)⟩
  obtain ⟨h0, h1, _⟩ := h.at_ hx
  rcases zt_no2 hB h0 h1 with ⟨_, _, k⟩ | ⟨_, k, _⟩ | ⟨_, k, _⟩ | ⟨_, k⟩ <;> cases k
theorem zt_vs {w w' : World} {g lo n c : Nat} {t : TypeId} {A : Option Addr} {l : List V} (h : Vs w lo A n c l) (hB : Blk w g t #[.string ⟨#[]⟩, .slice none 0 0, .int .i64 0, .bool false, .slice none 0 0]) (hg : w.grownBy w' (some g)) : Vs w' lo A n c l := by
  obtain ⟨h, rfl⟩ := h
  cases l with
  | nil => exact ⟨Row.zero h, rfl⟩
  | cons x l =>
    refine ⟨h.grown hg (fun b off e e2 => ?_), rfl⟩
    injection e2 with e2
    subst e e2
    obtain ⟨h0, h1, _⟩ := Vs.at_ (l := x :: l) ⟨h, rfl⟩ (i := 0) rfl
    rcases zt_no2 hB h0 h1 with ⟨_, _, k⟩ | ⟨_, k, _⟩ | ⟨_, _, k⟩ | ⟨_, k⟩ <;> cases k
theorem zt_rs {w w' : World} {g lo n c : Nat} {t : TypeId} {A : Option Addr} {rows : List (List V)} (h : Rs w lo A n c rows) (hB : Blk w g t #[.string ⟨#[]⟩, .slice none 0 0, .int .i64 0, .bool false, .slice none 0 0]) (hg : w.grownBy w' (some g)) (hl : ∀ r ∈ rows, 1 ≤ r.length) : Rs w' lo A n c rows := by
  obtain ⟨hs, hrow, hhs, hn⟩ := h
  have hhs' : Hs w' lo hs rows := ⟨hhs.1, fun i h r h1 h2 => by
    obtain ⟨A', c', e, hv⟩ := hhs.2 i h r h1 h2
    exact ⟨A', c', e, zt_vs hv hB hg⟩⟩
  refine ⟨hs, ?_, hhs', hn⟩
  cases rows with
  | nil =>
    obtain rfl : hs = [] := List.eq_nil_of_length_eq_zero hhs.1
    simp only [List.length_nil] at hn
    subst hn
    exact Row.zero hrow
  | cons r rows =>
    refine hrow.grown hg (fun b off e e2 => ?_)
    injection e2 with e2
    subst e e2
    obtain ⟨A', c', h0, _⟩ := hhs.at_ (i := 0) (r := r) rfl
    have h1 := hrow.at_ h0
    rw [Nat.add_zero, hB.cell off] at h1
    have := hl r (List.mem_cons_self ..)
    match off, h1 with
    | 0, h1 => simp at h1
    | 1, h1 => simp at h1; omega
    | 2, h1 => simp at h1
    | 3, h1 => simp at h1
    | 4, h1 => simp at h1; omega
    | off + 5, h1 => simp at h1

set_option maxRecDepth 1000000 in
set_option maxHeartbeats 8000000 in
theorem plays_walk (s : ByteArray) (A : Option Addr) (n c : Nat) (l : List Col) (key : Int) (only : Bool) (Ai : Option Addr) (ni ci : Nat) (acts : List Act) (w : World) (hs : s.size ≤ maxLen) (hC : Cs w 0 A n c l) (hn : n ≤ maxLen) (hp : ∀ x ∈ l, RawC x) (hkey : ok64 key)
    (hRA : Row w 0 Ai ni ci (flatK encA acts)) (hni : acts.length = ni) (hi2 : ni ≤ maxLen) (hact : ∀ x ∈ acts, ActW w x) :
    Calls Try.prog 9 #[.agg #[.string s, .slice A n c, .int .i64 key, .bool only], .slice Ai ni ci] w fun e W' => e = .returned (.bool true) ∧ Below w.heap.size w W' := by
  have HNI := Lib.hid hni
  have HACT := Lib.hid hact
  obtain ⟨i0, hi, hy0, hy1, hy2⟩ := info_parts (P := Try.prog) (e := 39) (z := .agg #[.int .i64 0, .int .i64 0, .string ⟨#[]⟩]) (size := 3) (bytes := 32) (by kernel_rfl)
  clear hni hact
  go_enter Try.func9, Try.ntmps9
  go_upto_region 1 with fail
  obtain ⟨W0, hW_, hbW0, BS⟩ : ∃ W_, W_ = (w.alloc (.cells #[.string s, .slice A n c, .int .i64 key, .bool only] 24)) ∧ Below w.heap.size w W_ ∧ Blk W_ (w.heap.size) 24 #[.string s, .slice A n c, .int .i64 key, .bool only] :=
    ⟨_, rfl, ((Below.refl _ _).alloc (Nat.le_refl _) _), (blk_new_at w (w.heap.size) _ _ (by simp))⟩
  rw [← hW_]
  clear hW_
  go_wp2_with fail
  refine (known_ _).mono ?_
  rintro e w1 ⟨rfl, hb1⟩
  have hbw1 := Below.trans hbW0 (Below.mono hb1 hbW0.size)
  have BS := BS.ext hb1
  clear hbW0 hb1
  have q := four BS (Below.refl _ _)
  go_wp2_with fail
  refine (few9_ s A n c l key only _ hs (hC.ext hbw1) hn (fun x hx => (hp x hx).s)).mono ?_
  rintro e w2 ⟨⟨b, rfl⟩, hb2⟩
  have hbw2 := Below.trans hbw1 (Below.mono hb2 hbw1.size)
  have BS := BS.ext hb2
  clear hbw1 hb2 q
  by_cases hbt : b = true
  case neg =>
    obtain rfl : b = false := by cases b with | false => rfl | true => exact absurd rfl hbt
    go_wp2
    go_ret
    exact ⟨rfl, hbw2⟩
  subst hbt
  go_wp2_with fail
  refine (few10_ acts Ai ni ci _ (hRA.ext hbw2) HNI.out hi2 (fun x hx => (HACT.out x hx).ext hbw2)).mono ?_
  rintro e wq ⟨⟨b2, rfl, hsix⟩, hbq⟩
  have hbwq := Below.trans hbw2 (Below.mono hbq hbw2.size)
  have BS := BS.ext hbq
  clear hbw2 hbq
  by_cases hbt : b2 = true
  case neg =>
    obtain rfl : b2 = false := by cases b2 with | false => rfl | true => exact absurd rfl hbt
    go_wp2
    go_ret
    exact ⟨rfl, hbwq⟩
  subst hbt
  obtain ⟨h60, h12⟩ := hsix rfl
  have H12 := Lib.hid h12
  clear hsix h12
  have q := four BS (Below.refl _ _)
  go_wp2_with fail
  refine (good9_ s A n c l key only _ (hC.ext hbwq) hn hp hkey).mono ?_
  rintro e w3 ⟨A7, c7, rfl, hC7, hF7, hb3⟩
  have hbw3 := Below.trans hbwq (Below.mono hb3 hbwq.size)
  have hS : SOk (goodS l key only) := good_ok l key only
  generalize goodS l key only = S at *
  clear hbwq hb3 q BS
  have h6 := hS.six
  have hn7 : S.cols.length ≤ 100 := by omega
  simp only [schA]
  go_wp2_with fail
  obtain ⟨W, hW_, hbW1, B7⟩ : ∃ W_, W_ = (w3.alloc (.cells #[.string S.name, .slice A7 S.cols.length c7, .int .i64 S.key, .bool S.only] 24)) ∧ Below w3.heap.size w3 W_ ∧ Blk W_ (w3.heap.size) 24 #[.string S.name, .slice A7 S.cols.length c7, .int .i64 S.key, .bool S.only] :=
    ⟨_, rfl, ((Below.refl _ _).alloc (Nat.le_refl _) _), (blk_new_at w3 (w3.heap.size) _ _ (by simp))⟩
  rw [← hW_]
  clear hW_
  have B7z := B7.lt
  have hCs : Hid (∀ w', Below w3.heap.size w3 w' → Cs w' 0 A7 S.cols.length c7 S.cols) := Lib.hid (fun w' h => (hC7.ext h).base (Nat.zero_le _))
  clear hC7 hF7
  have D7 := fun w' (h : Below W.heap.size W.drew w') => four B7 (Below.trans (Below.refl _ _).drew h)
  refine wp_region_mix2 ⟨4, 6, fun g => .pointer (some ⟨g, 0, none⟩), .cells #[.string ⟨#[]⟩, .slice none 0 0, .int .i64 0, .bool false, .slice none 0 0] 32⟩ ⟨5, 7, fun g => .pointer (some ⟨g, 0, none⟩), .cells #[.string ⟨#[]⟩, .slice none 0 0, .int .i64 0, .bool false, .slice none 0 0] 48⟩
    [(0, true), (1, true), (2, true), (3, true)] [] [(6, false), (7, false)] (by kernel_rfl) (by kernel_rfl) ?_
  repeat ((with_reducible show wpI _ _ _ _ _ ((_, true) :: _) _ _); (first | (refine wpI_on (v := ?_) rfl rfl (wanted_free rfl) (fun w' hS => ?_) ?_; rotate_left; (focus (go_simp; (try with_reducible rfl); done)); try simp only [List.setIfInBounds_toArray, List.set_cons_zero, List.set_cons_succ]) | (refine wpI_on (v := ?_) rfl rfl (wanted_yes rfl rfl rfl) (fun w' hS => ?_) ?_; rotate_left; (focus (go_simp; (try with_reducible rfl); done)); try simp only [List.setIfInBounds_toArray, List.set_cons_zero, List.set_cons_succ]) | (refine wpI_off rfl rfl (wanted_no rfl rfl rfl) ?_; try simp only [List.setIfInBounds_toArray, List.set_cons_zero, List.set_cons_succ]) | (refine wpI_off rfl rfl (wanted_undef rfl rfl rfl) ?_; try simp only [List.setIfInBounds_toArray, List.set_cons_zero, List.set_cons_succ])))
  refine wpI_done ⟨?_, ?_⟩
  · intro u hu
    simp only [List.mem_cons, List.not_mem_nil, or_false] at hu
    rcases hu with rfl | rfl <;> exact ⟨_, rfl, rfl, wanted_free rfl, fun w => by go_simp⟩
  clear D7
  refine wpI_done ?_
  intro ga gb wf he hb hlo1 hhi1 hat1 hlo2 hhi2 hat2 hne
  try simp only [List.setIfInBounds_toArray, List.set_cons_zero, List.set_cons_succ]
  have C1 : Blk wf ga 32 #[.string ⟨#[]⟩, .slice none 0 0, .int .i64 0, .bool false, .slice none 0 0] := hat1
  have C2 : Blk wf gb 48 #[.string ⟨#[]⟩, .slice none 0 0, .int .i64 0, .bool false, .slice none 0 0] := hat2
  clear hat1 hat2 he
  have f0 := C1.frozen 0
  have f1 := C1.frozen 1
  have f2 := C1.frozen 2
  have f3 := C1.frozen 3
  have f4 := C1.frozen 4
  have q := five C1 (Below.refl _ _)
  refine wpPerm_do rfl (wanted_free rfl) (fun K hK => ?_); go_simp
  clear f0 f1 f2 f3 f4 q
  obtain ⟨wh, hw, C1, hl1, hg1⟩ := Blk.set5 C1 (.string S.name) (.slice A7 S.cols.length c7) (.int .i64 S.key) (.bool S.only) (.slice none 0 0)
  rw [← hw]
  clear hw
  have C2 := C2.grown hg1 (by simpa using hne.symm)
  have hb := Below.trans hb (hl1 _ hlo1)
  refine hK.out _ _ hb ?_
  clear hK K
  have f0 := C2.frozen 0
  have f1 := C2.frozen 1
  have f2 := C2.frozen 2
  have f3 := C2.frozen 3
  have f4 := C2.frozen 4
  have q := five C2 (Below.refl _ _)
  refine wpPerm_do rfl (wanted_free rfl) (fun K hK => ?_); go_simp
  clear f0 f1 f2 f3 f4 q
  obtain ⟨wj, hw, C2, hl2, hg2⟩ := Blk.set5 C2 (.string S.name) (.slice A7 S.cols.length c7) (.int .i64 S.key) (.bool S.only) (.slice none 0 0)
  rw [← hw]
  clear hw
  have C1 := C1.grown hg2 (by simpa using hne)
  have hb := Below.trans hb (hl2 _ hlo2)
  refine hK.out _ _ hb ?_
  clear hK K
  refine wpPerm_done ?_
  have hbj := Below.trans ((Below.refl W.heap.size W).drew) hb
  have B7 := B7.ext hbj
  have hg3 := Below.trans hbW1 (Below.mono hbj hbW1.size)
  have hz1 := hbW1.size
  have hgab : ga < wj.heap.size ∧ gb < wj.heap.size := ⟨C1.lt, C2.lt⟩
  have hwg : w3.heap.size < ga ∧ w3.heap.size < gb := by omega
  obtain ⟨H0, hH0e⟩ : ∃ H0, H0 = wj.heap.size := ⟨_, rfl⟩
  rw [← hH0e] at hgab
  have hH0 : H0 ≤ wj.heap.size := by omega
  clear hH0e
  clear hl1 hl2 hg1 hg2 hhi1 hhi2 hb hbj
  have hA0 : TabH w3 wj ga H0 S [] := ⟨_, _, _, _, _, _, C1, .inr hCs.out, Rs.nil _ _, .inl rfl⟩
  have hB0 : RefH wj gb H0 S A7 c7 [] := ⟨_, _, _, C2, Rs.nil _ _, .inl rfl⟩
  clear C1 C2
  go_wp2_with fail
  go_loopw [8] (fun i wr => ∃ (k : Nat) (rows : List (List V)), i = .int .i64 k ∧ k ≤ ni ∧ rows.length ≤ k ∧ Ok S.cols S.key rows ∧ TabH w3 wr ga H0 S rows ∧ RefH wr gb H0 S A7 c7 rows ∧ Blk wr w3.heap.size 24 #[.string S.name, .slice A7 S.cols.length c7, .int .i64 S.key, .bool S.only] ∧ Below w3.heap.size w3 wr ∧ H0 ≤ wr.heap.size) (fun i _ => ni - (intOf i).toNat)
  case atStart => exact ⟨0, [], rfl, Nat.zero_le _, Nat.zero_le _, hS.ok0, hA0, hB0, B7, hg3, hH0⟩
  case round =>
    clear hA0 hB0 B7 hg3 hH0
    obtain ⟨k, rows, rfl, hk, hlen, hOk, hA, hB, B7, hbg, hHz⟩ := hrel
    have hOk := Lib.hid hOk
    have hbw := Below.trans hbw3 (Below.mono hbg hbw3.size)
    rcases Nat.lt_or_ge k ni with hlt | hge
    case inr =>
      have hd : decide ((k : Int) < (ni : Int)) = false := by simp; omega
      go_wp2
      go_ret
      exact ⟨rfl, hbw⟩
    have hd : decide ((k : Int) < (ni : Int)) = true := by simp; omega
    have hkn : (k : Int) < (ni : Int) := by omega
    obtain ⟨x, hx⟩ : ∃ x, acts[k]? = some x := ⟨_, List.getElem?_eq_getElem (by rw [HNI.out]; exact hlt)⟩
    have hxw := (HACT.out x (List.mem_of_getElem? hx))
    have hx12 := H12.out x (List.mem_of_getElem? hx)
    obtain ⟨bi, oi, rfl, _, _, _⟩ := hRA.some_ (by omega)
    have c0 := hRA.at_ (flatK_at encA 3 (fun _ => rfl) acts k x 0 _ hx rfl)
    have c1 := hRA.at_ (flatK_at encA 3 (fun _ => rfl) acts k x 1 _ hx rfl)
    have c2 := hRA.at_ (flatK_at encA 3 (fun _ => rfl) acts k x 2 _ hx rfl)
    simp only [Nat.add_zero, ← Nat.add_assoc] at c0 c1 c2
    obtain ⟨xk, xn, xA, xm, xc, xv⟩ := x
    have HK0 := Lib.hid c0
    have HN0 := Lib.hid c1
    have HV0 := Lib.hid c2
    have hxk := hxw.k
    have hxn := hxw.n
    have hxv := hxw.v
    have hxs := Lib.hid (show Small xv from fun v hv => (hxw.raw v hv).s)
    simp only at hxk hxn hxv hx12
    clear c0 c1 c2 hx hxw
    obtain ⟨A1, n1, c1, A2, n2, c2, B8, hC8, hR8, hF8⟩ := hA.open hbg
    obtain ⟨A3, n3, c3, BX, hRx, hFx⟩ := hB
    have M : Mid w3 wr ga gb H0 S A7 c7 rows A1 n1 c1 A2 n2 c2 A3 n3 c3 := ⟨hbg, B7, B8, BX, hC8, hR8, hF8, hRx, hFx, hHz⟩
    have q8 := five B8 (Below.refl _ _)
    clear hA B7 BX hC8 hR8 hRx
    go_wp2_with fail
    clear q8 B8
    obtain ⟨W1, hW_, hb1, B9⟩ : ∃ W_, W_ = (wr.alloc (.cells #[.string S.name, .slice A1 n1 c1, .int .i64 S.key, .bool S.only, .slice A2 n2 c2] 32)) ∧ Below wr.heap.size wr W_ ∧ Blk W_ (wr.heap.size) 32 #[.string S.name, .slice A1 n1 c1, .int .i64 S.key, .bool S.only, .slice A2 n2 c2] :=
      ⟨_, rfl, ((Below.refl _ _).alloc (Nat.le_refl _) _), (blk_new_at wr (wr.heap.size) _ _ (by simp))⟩
    rw [← hW_]
    clear hW_
    have M := M.ext hb1
    have hbw1 := Below.trans hbw3 (Below.mono M.hbg hbw3.size)
    clear hb1 hbg hbw
    have D7 := fun w' (h : Below W1.heap.size W1.drew w') => four M.b7 (Below.trans (Below.refl _ _).drew h)
    have D2 := fun w' (h : Below W1.heap.size W1.drew w') => ext_cell (Below.trans hbw1 (Below.mono (Below.trans (Below.refl _ W1).drew h) hbw1.size)) HN0.out
    refine wp_region_one [(0, true), (1, true), (2, true), (3, true), (4, true), (5, true), (6, false), (7, true)] (by kernel_rfl) (by kernel_rfl) (by kernel_rfl) (by decide) ?_
    repeat ((with_reducible show wpPerm _ _ _ _ ((_, true) :: _) _ _); (first | (refine wpPerm_on (v := ?_) rfl rfl (wanted_free rfl) (fun w' hS => ?_) ?_; rotate_left; (focus (go_simp; (try with_reducible rfl); done)); try simp only [List.setIfInBounds_toArray, List.set_cons_zero, List.set_cons_succ]) | (refine wpPerm_on (v := ?_) rfl rfl (wanted_yes rfl rfl rfl) (fun w' hS => ?_) ?_; rotate_left; (focus (go_simp; (try with_reducible rfl); done)); try simp only [List.setIfInBounds_toArray, List.set_cons_zero, List.set_cons_succ]) | (refine wpPerm_off rfl rfl (wanted_no rfl rfl rfl) ?_; try simp only [List.setIfInBounds_toArray, List.set_cons_zero, List.set_cons_succ]) | (refine wpPerm_off rfl rfl (wanted_undef rfl rfl rfl) ?_; try simp only [List.setIfInBounds_toArray, List.set_cons_zero, List.set_cons_succ])))
    refine wpPerm_do rfl (wanted_free rfl) (fun K hK => ?_); go_simp
    have hdr := (Below.refl W1.heap.size W1).drew
    refine (fit_ S 0 A7 S.cols.length c7 xn _ (hCs.out _ (Below.trans M.hbg (Below.mono hdr M.hbg.size))) hn7 hS.kinds hxn.1 hxn.2).mono ?_
    rintro e w5 ⟨Ar, cr, rfl, hown5, hb5⟩
    refine hK.out _ _ hb5 ?_
    clear hK K
    repeat ((with_reducible show wpPerm _ _ _ _ ((_, true) :: _) _ _); (first | (refine wpPerm_on (v := ?_) rfl rfl (wanted_free rfl) (fun w' hS => ?_) ?_; rotate_left; (focus (go_simp; (try with_reducible rfl); done)); try simp only [List.setIfInBounds_toArray, List.set_cons_zero, List.set_cons_succ]) | (refine wpPerm_on (v := ?_) rfl rfl (wanted_yes rfl rfl rfl) (fun w' hS => ?_) ?_; rotate_left; (focus (go_simp; (try with_reducible rfl); done)); try simp only [List.setIfInBounds_toArray, List.set_cons_zero, List.set_cons_succ]) | (refine wpPerm_off rfl rfl (wanted_no rfl rfl rfl) ?_; try simp only [List.setIfInBounds_toArray, List.set_cons_zero, List.set_cons_succ]) | (refine wpPerm_off rfl rfl (wanted_undef rfl rfl rfl) ?_; try simp only [List.setIfInBounds_toArray, List.set_cons_zero, List.set_cons_succ])))
    refine wpPerm_done ?_
    clear D7 D2
    have hb5 := Below.trans hdr hb5
    have M := M.ext hb5
    have B9 := B9.ext hb5
    have hVr : Vs w5 0 Ar S.cols.length cr (fitL S.cols xn) := (Vs.of_own hown5).base (Nat.zero_le _)
    obtain ⟨kv, hri⟩ := row_i hS xn
    obtain ⟨r0, hr0⟩ : ∃ r, fitL S.cols xn = r := ⟨_, rfl⟩
    rw [hr0] at hVr hri
    have HR0 := Lib.hid hr0
    have hri := Lib.hid hri
    have hbw5 := Below.trans hbw3 (Below.mono M.hbg hbw3.size)
    have HK5 := Lib.hid (ext_cell hbw5 HK0.out)
    have HN5 := Lib.hid (ext_cell hbw5 HN0.out)
    have HV5 := Lib.hid (ext_cell hbw5 HV0.out)
    have hxv := hxv.ext hbw5
    clear hdr hb5 hown5 hr0 hbw1 HK0 HN0 HV0 hbw5
    obtain ⟨km, hkm⟩ : ∃ km, xk % 6 = km := ⟨_, rfl⟩
    have hkm6 : 0 ≤ km ∧ km < 6 := by omega
    have hkl : S.key < S.cols.length := hS.key
    have hki : (S.key : Int) < (S.cols.length : Int) := by omega
    have hpos : 0 < S.cols.length := hS.pos
    have qk5 := HK5.out
    go_wp2_with fail
    clear qk5
    refine (within10 xk 6 km hkm _ (by decide) (by decide) hxk.1 hxk.2).mono ?_
    rintro e wx ⟨rfl, rfl⟩
    by_cases h3 : km = 3
    case pos =>
      have hdk : (km == 3) = true := by simp [h3]
      have hd4 : decide (km < 4) = true := by simp; omega
      have hVq := hxv
      have HSQ := hxs
      have hmq : xm ≤ 12 := hx12
      have qv := HV5.out
      go_wp2_with fail
      clear qv hVr
      have D7 := fun w' (h : Below w5.heap.size w5.drew w') => four M.b7 (Below.trans (Below.refl _ _).drew h)
      have D2 := fun w' (h : Below w5.heap.size w5.drew w') => ext_cell (Below.trans (Below.refl _ w5).drew h) (HN5.out)
      refine wp_region_mixJ1 ⟨11, 11, fun g => .pointer (some ⟨g, 0, none⟩), .cells #[.int .i64 0, .int .i64 0, .string ⟨#[]⟩] 39⟩
        [(0, true), (1, true), (2, true), (3, true), (4, true), (5, true), (7, true), (8, true)] [(6, false), (9, true), (10, true)] [(12, false)] (by kernel_rfl) (by kernel_rfl) ?_
      repeat ((with_reducible show wpI _ _ _ _ _ ((_, true) :: _) _ _); (first | (refine wpI_on (v := ?_) rfl rfl (wanted_free rfl) (fun w' hS => ?_) ?_; rotate_left; (focus (go_simp; (try with_reducible rfl); done)); try simp only [List.setIfInBounds_toArray, List.set_cons_zero, List.set_cons_succ]) | (refine wpI_on (v := ?_) rfl rfl (wanted_yes rfl rfl rfl) (fun w' hS => ?_) ?_; rotate_left; (focus (go_simp; (try with_reducible rfl); done)); try simp only [List.setIfInBounds_toArray, List.set_cons_zero, List.set_cons_succ]) | (refine wpI_off rfl rfl (wanted_no rfl rfl rfl) ?_; try simp only [List.setIfInBounds_toArray, List.set_cons_zero, List.set_cons_succ]) | (refine wpI_off rfl rfl (wanted_undef rfl rfl rfl) ?_; try simp only [List.setIfInBounds_toArray, List.set_cons_zero, List.set_cons_succ])))
      refine wpI_done ⟨?_, ?_⟩
      · intro u hu
        simp only [List.mem_cons, List.not_mem_nil, or_false] at hu
        rcases hu with rfl
        exact ⟨_, rfl, rfl, wanted_free rfl, fun w => by go_simp⟩
      clear D7 D2
      refine wpJ_do rfl (wanted_free rfl) (fun wI hI hSI K hK => ?_); go_simp
      have hId : Below w5.heap.size w5 wI := Below.trans (Below.refl _ _).drew hSI
      refine (fit_ S 0 A7 S.cols.length c7 xn _ (hCs.out _ (Below.trans M.hbg (Below.mono hId M.hbg.size))) hn7 hS.kinds hxn.1 hxn.2).mono ?_
      rintro e w8 ⟨Ak, ck, rfl, hown8, hb8⟩
      rw [HR0.out] at hown8
      have hVp : Vs w8 0 Ak S.cols.length ck r0 := (Vs.of_own hown8).base (Nat.zero_le _)
      obtain ⟨bp, op, rfl, _, _, _⟩ := hVp.1.some_ (by omega)
      have hkk := key_kind hS.ok0 hri.out.fit
      rw [hri.out.keyOf] at hkk
      refine hK.out _ _ (fun w' => Below w5.heap.size w5.drew w' ∧ w'.cell? ⟨bp, op + S.key * 3, none⟩ = some (.int .i64 kv.k) ∧ w'.cell? ⟨bp, op + S.key * 3 + 1, none⟩ = some (.int .i64 kv.n) ∧ w'.cell? ⟨bp, op + S.key * 3 + 2, none⟩ = some (.string kv.s)) hb8 (fun x h => h.1)
        (fun x y h k => ⟨Below.trans k.1 (Below.mono h k.1.size), (ext_cell h k.2.1), (ext_cell h k.2.2.1), (ext_cell h k.2.2.2)⟩) ⟨Below.trans hSI (Below.mono hb8 hSI.size), hVp.at_ hri.out.key⟩ ?_
      clear hK K hown8 hb8 hI hSI hId hVp
      repeat ((with_reducible show wpJ _ _ _ _ ((_, true) :: _) _ _ _); (refine wpJ_on (v := ?_) rfl rfl (wanted_free rfl) (fun w' hS => ?_) ?_; rotate_left; (focus (go_simp; (try with_reducible rfl); done)); try simp only [List.setIfInBounds_toArray, List.set_cons_zero, List.set_cons_succ]))
      refine wpJ_done ?_
      intro gk wf he hb hlo1 hhi1 hat1
      try simp only [List.setIfInBounds_toArray, List.set_cons_zero, List.set_cons_succ]
      have BK : Blk wf gk 39 #[.int .i64 0, .int .i64 0, .string ⟨#[]⟩] := hat1
      obtain ⟨hb, e0, e1, e2⟩ := hb
      have hpk : bp ≠ gk := zero_blk BK e0 hkk
      clear hat1 he hhi1
      have q := BK.three (Below.refl _ _)
      have f := BK.free3
      refine wpPerm_do rfl (wanted_free rfl) (fun K hK => ?_); go_simp
      clear q f
      obtain ⟨wk, hw, BK, hl1, hf1, hz1⟩ := BK.set3 (.int .i64 kv.k) (.int .i64 kv.n) (.string kv.s)
      rw [← hw]
      have HW := Lib.hid hw
      clear hw
      have hb := Below.trans hb (hl1 _ hlo1)
      refine hK.out _ _ ⟨hb, (far3 HW.out hpk).trans e0, (far3 HW.out hpk).trans e1, (far3 HW.out hpk).trans e2⟩ ?_
      clear hK K HW e0 e1 e2 hf1 hz1 hl1 hkk hpk
      refine wpPerm_done ?_
      have hbk := Below.trans ((Below.refl w5.heap.size w5).drew) hb
      have hgk : H0 ≤ gk := Nat.le_trans M.hz hlo1
      have M := M.ext hbk
      have B9 := B9.ext hbk
      have hVq := hVq.ext hbk
      have HK5 := Lib.hid (ext_cell hbk HK5.out)
      clear hb hbk HN5 HV5 hlo1
      have qk5 := HK5.out
      go_wp2_with fail
      clear qk5
      refine (within10 xk 6 km hkm _ (by decide) (by decide) hxk.1 hxk.2).mono ?_
      rintro e wx ⟨rfl, rfl⟩
      clear HK5
      obtain ⟨p, hp⟩ : ∃ p, putL S.cols S.key rows xv = p := ⟨_, rfl⟩
      have hput := fun w' (h : Below wk.heap.size wk w') Ax cx (hV : Vs w' 0 Ax xm cx xv) => put_ S rows xv 0 A1 n1 c1 A2 n2 c2 0 Ax xm cx w' (M.c8.ext h) (M.r8.ext h) M.f8 hV HSQ.out hOk.out hn7 (by omega) (by omega)
      rw [hp] at hput
      have Hput := Lib.hid hput
      have hok' := putL_ok hOk.out xv
      have htl := put_len (cs := S.cols) (key := S.key) (rows := rows) (r := xv)
      rw [hp] at hok' htl
      have HOK := Lib.hid hok'
      have hpl : p.2.length ≤ k + 1 := by split at htl <;> omega
      have HP := Lib.hid hp
      clear hput hp hok' htl
      go_wp2_with fail
      have D8 := fun w' (h : Below wk.heap.size wk.drew w') => five M.b8 (Below.trans (Below.refl _ _).drew h)
      refine wp_region_mix1 ⟨8, 12, fun g => .pointer (some ⟨g, 0, none⟩), .cells #[.string ⟨#[]⟩, .slice none 0 0, .int .i64 0, .bool false, .slice none 0 0] 32⟩
        [(0, true), (2, true)] [(1, false), (3, false), (4, false), (5, true), (6, true), (7, true)] [(9, false), (10, true)] (by kernel_rfl) (by kernel_rfl) ?_
      repeat ((with_reducible show wpI _ _ _ _ _ ((_, true) :: _) _ _); (first | (refine wpI_on (v := ?_) rfl rfl (wanted_free rfl) (fun w' hS => ?_) ?_; rotate_left; (focus (go_simp; (try with_reducible rfl); done)); try simp only [List.setIfInBounds_toArray, List.set_cons_zero, List.set_cons_succ]) | (refine wpI_on (v := ?_) rfl rfl (wanted_yes rfl rfl rfl) (fun w' hS => ?_) ?_; rotate_left; (focus (go_simp; (try with_reducible rfl); done)); try simp only [List.setIfInBounds_toArray, List.set_cons_zero, List.set_cons_succ]) | (refine wpI_off rfl rfl (wanted_no rfl rfl rfl) ?_; try simp only [List.setIfInBounds_toArray, List.set_cons_zero, List.set_cons_succ]) | (refine wpI_off rfl rfl (wanted_undef rfl rfl rfl) ?_; try simp only [List.setIfInBounds_toArray, List.set_cons_zero, List.set_cons_succ])))
      refine wpI_done ⟨?_, ?_⟩
      · intro u hu
        simp only [List.mem_cons, List.not_mem_nil, or_false] at hu
        rcases hu with rfl
        exact ⟨_, rfl, rfl, wanted_free rfl, fun w => by go_simp⟩
      clear D8
      refine wpI_do rfl (wanted_free rfl) (fun wI hI hSI K hK => ?_); go_simp
      refine hK.out _ _ ((Below.refl _ _).alloc (Nat.le_refl _) _) ?_
      clear hK K
      have hgE : (wI.alloc (.cells #[] 39)).heap[wI.heap.size]? = some (.cells #[] 39 (0, 0)) := heap_alloc_new _ _
      have hSE := hSI.alloc hSI.size (.cells #[] 39)
      generalize hwE : wI.alloc (.cells #[] 39) = wE at *
      clear hwE hI hSI
      generalize wI.heap.size = gE at *
      refine wpI_do rfl (wanted_free rfl) (fun wI hI hSI K hK => ?_)
      refine wp_append_fresh (.tmp 88) (.tmp 89) 33 rfl 39 i0 _ 3 32 Try.underlying33 hi hy0 hy1 hy2 rfl (by decide) gE (ext_blk hI hgE) rfl xA xm xc 0 (cellsV xv) rfl ((hVq.1.ext (Below.refl _ wk).drew).ext hSI) (by rw [lenV, hVq.2]) (oneV xv) (by unfold maxLen; omega) (by omega) ?_
      intro A88 c88 w6 hown6 hb6
      refine hK.out _ _ hb6 ?_
      clear hK K hgE hI hSI hb6 hSE
      refine wpI_do rfl (wanted_free rfl) (fun wI hI hSI K hK => ?_); go_simp
      refine (Hput.out _ (Below.trans (Below.refl _ wk).drew hSI) A88 c88 ((Vs.of_own (own_ext hown6 hI)).base (Nat.zero_le _))).mono ?_
      rintro e w8 ⟨v, rfl, hT, hb8⟩
      have hHI : H0 ≤ wI.heap.size := Nat.le_trans M.hz (Below.trans (Below.refl _ wk).drew hSI).size
      obtain ⟨A5, n5, c5, A6, n6, c6, rfl, hC5, hR5, hF5⟩ := hT
      have hC5 := hC5.base hHI
      have hR5 := hR5.base hHI
      simp only [tabA]
      refine hK.out _ _ hb8 ?_
      clear hK K hb8 hI hSI hown6 hHI
      repeat ((with_reducible show wpI _ _ _ _ _ ((_, true) :: _) _ _); (first | (refine wpI_on (v := ?_) rfl rfl (wanted_free rfl) (fun w' hS => ?_) ?_; rotate_left; (focus (go_simp; (try with_reducible rfl); done)); try simp only [List.setIfInBounds_toArray, List.set_cons_zero, List.set_cons_succ]) | (refine wpI_on (v := ?_) rfl rfl (wanted_yes rfl rfl rfl) (fun w' hS => ?_) ?_; rotate_left; (focus (go_simp; (try with_reducible rfl); done)); try simp only [List.setIfInBounds_toArray, List.set_cons_zero, List.set_cons_succ]) | (refine wpI_off rfl rfl (wanted_no rfl rfl rfl) ?_; try simp only [List.setIfInBounds_toArray, List.set_cons_zero, List.set_cons_succ]) | (refine wpI_off rfl rfl (wanted_undef rfl rfl rfl) ?_; try simp only [List.setIfInBounds_toArray, List.set_cons_zero, List.set_cons_succ])))
      refine wpI_done ?_
      intro g12 wf he hb hlo1 hhi1 hat1
      try simp only [List.setIfInBounds_toArray, List.set_cons_zero, List.set_cons_succ]
      have B12 : Blk wf g12 32 #[.string ⟨#[]⟩, .slice none 0 0, .int .i64 0, .bool false, .slice none 0 0] := hat1
      have hC5 := hC5.ext he
      have hR5 := hR5.ext he
      have hg12 : H0 ≤ g12 := Nat.le_trans M.hz hlo1
      clear hat1 he hhi1
      have f0 := B12.frozen 0
      have f1 := B12.frozen 1
      have f2 := B12.frozen 2
      have f3 := B12.frozen 3
      have f4 := B12.frozen 4
      have q := five B12 (Below.refl _ _)
      refine wpPerm_do rfl (wanted_free rfl) (fun K hK => ?_); go_simp
      clear f0 f1 f2 f3 f4 q
      obtain ⟨w6, hw, B12', hl1, hgr⟩ := Blk.set5 B12 (.string S.name) (.slice A5 n5 c5) (.int .i64 S.key) (.bool S.only) (.slice A6 n6 c6)
      rw [← hw]
      clear hw
      have hC5 := zt_cs hC5 B12 hgr hS.pos
      have hR5 := zt_rs hR5 B12 hgr (fun r hr => by have := fits_len (HOK.out.fit r hr); have := hS.pos; omega)
      have B12 := B12'
      have hb := Below.trans hb (hl1 _ hlo1)
      refine hK.out _ _ hb ?_
      clear hK K B12' hgr hl1
      repeat ((with_reducible show wpPerm _ _ _ _ ((_, true) :: _) _ _); (first | (refine wpPerm_on (v := ?_) rfl rfl (wanted_free rfl) (fun w' hS => ?_) ?_; rotate_left; (focus (go_simp; (try with_reducible rfl); done)); try simp only [List.setIfInBounds_toArray, List.set_cons_zero, List.set_cons_succ]) | (refine wpPerm_on (v := ?_) rfl rfl (wanted_yes rfl rfl rfl) (fun w' hS => ?_) ?_; rotate_left; (focus (go_simp; (try with_reducible rfl); done)); try simp only [List.setIfInBounds_toArray, List.set_cons_zero, List.set_cons_succ]) | (refine wpPerm_off rfl rfl (wanted_no rfl rfl rfl) ?_; try simp only [List.setIfInBounds_toArray, List.set_cons_zero, List.set_cons_succ]) | (refine wpPerm_off rfl rfl (wanted_undef rfl rfl rfl) ?_; try simp only [List.setIfInBounds_toArray, List.set_cons_zero, List.set_cons_succ])))
      refine wpPerm_done ?_
      have hb6 := Below.trans (Below.refl _ wk).drew hb
      have M := M.ext hb6
      have B9 := B9.ext hb6
      have BK := BK.ext hb6
      have hVq := hVq.ext hb6
      clear hb hb6 Hput hlo1
      have qx := five M.bx (Below.refl _ _)
      go_wp2_with fail
      clear qx
      refine (rput_ S rows xv 0 H0 A7 S.cols.length c7 A3 n3 c3 0 xA xm xc _ (hCs.out _ M.hbg) M.rx M.fx M.hz hVq HSQ.out hOk.out hn7 (by omega) (by omega)).mono ?_
      rintro e w7 ⟨A4, n4, c4, rfl, hR4, hF4, hb7⟩
      rw [HP.out] at hR4 ⊢
      simp only [tabA]
      have M := M.ext hb7
      have B9 := B9.ext hb7
      have B12 := B12.ext hb7
      have BK := BK.ext hb7
      have hC5 := hC5.ext hb7
      have hR5 := hR5.ext hb7
      clear hb7 hVq HSQ
      obtain ⟨pe, hpe⟩ : ∃ e, p.1 = e := ⟨_, rfl⟩
      rw [hpe]
      clear hpe
      have q9 := fun o => five B9 ((Below.refl _ _).alloc (Nat.le_refl _) o)
      have q8 := fun o => five M.b8 ((Below.refl _ _).alloc (Nat.le_refl _) o)
      have hg14 := M.hz
      go_wp2_with fail
      clear q9 q8
      obtain ⟨W8, hW_, hb8, B14⟩ : ∃ W_, W_ = (w7.alloc (.cells #[.string S.name, .slice A7 S.cols.length c7, .int .i64 S.key, .bool S.only, .slice A4 n4 c4] 48)) ∧ Below w7.heap.size w7 W_ ∧ Blk W_ (w7.heap.size) 48 #[.string S.name, .slice A7 S.cols.length c7, .int .i64 S.key, .bool S.only, .slice A4 n4 c4] :=
        ⟨_, rfl, ((Below.refl _ _).alloc (Nat.le_refl _) _), (blk_new_at w7 (w7.heap.size) _ _ (by simp))⟩
      rw [← hW_]
      clear hW_
      have M := M.ext hb8
      have hsmo := Lib.hid (hOk.out.small hn7)
      refine (same_ S rows 0 0 (.agg (tabA S A1 n1 c1 A2 n2 c2)) (.agg (tabA S A1 n1 c1 A2 n2 c2)) _ hn7 (by omega) hsmo.out (TabR.of M.c8 M.r8 M.f8) (TabR.of M.c8 M.r8 M.f8)).mono ?_
      rintro e w8 ⟨rfl, hbs⟩
      have hb8 := Below.trans hb8 (Below.mono hbs hb8.size)
      have M := M.ext hbs
      have B12 := B12.ext hb8
      have B14 := B14.ext hbs
      have BK := BK.ext hb8
      have hC5 := hC5.ext hb8
      have hR5 := hR5.ext hb8
      have hR4 := hR4.ext hb8
      clear hbs hb8 B9 hsmo HP
      obtain ⟨g14, hg14e⟩ : ∃ g, w7.heap.size = g := ⟨_, rfl⟩
      rw [hg14e] at B14 hg14 ⊢
      clear hg14e
      go_wp2_with fail
      have D12 := fun w' (h : Blk w' g12 32 #[.string S.name, .slice A5 n5 c5, .int .i64 S.key, .bool S.only, .slice A6 n6 c6] ∧ Blk w' g14 48 #[.string S.name, .slice A7 S.cols.length c7, .int .i64 S.key, .bool S.only, .slice A4 n4 c4]) => five h.1 (Below.refl _ _)
      have D14 := fun w' (h : Blk w' g12 32 #[.string S.name, .slice A5 n5 c5, .int .i64 S.key, .bool S.only, .slice A6 n6 c6] ∧ Blk w' g14 48 #[.string S.name, .slice A7 S.cols.length c7, .int .i64 S.key, .bool S.only, .slice A4 n4 c4]) => five h.2 (Below.refl _ _)
      refine wp_region_oneS (S := fun w' => Blk w' g12 32 #[.string S.name, .slice A5 n5 c5, .int .i64 S.key, .bool S.only, .slice A6 n6 c6] ∧ Blk w' g14 48 #[.string S.name, .slice A7 S.cols.length c7, .int .i64 S.key, .bool S.only, .slice A4 n4 c4]) [(0, true), (1, true), (2, false), (3, false)] (by kernel_rfl) (by kernel_rfl) (by kernel_rfl) (by decide) ⟨B12, B14⟩ ?_
      have hdr := (Below.refl w8.heap.size w8).drew
      have M := M.ext hdr
      have BK := BK.ext hdr
      have B12 := B12.ext hdr
      have B14 := B14.ext hdr
      have hC5 := hC5.ext hdr
      have hR5 := hR5.ext hdr
      have hR4 := hR4.ext hdr
      clear hdr
      generalize w8.drew = wd at *
      repeat ((with_reducible show wpPerm _ _ _ _ ((_, true) :: _) _ _); (first | (refine wpPerm_on (v := ?_) rfl rfl (wanted_free rfl) (fun w' hS => ?_) ?_; rotate_left; (focus (go_simp; (try with_reducible rfl); done)); try simp only [List.setIfInBounds_toArray, List.set_cons_zero, List.set_cons_succ]) | (refine wpPerm_on (v := ?_) rfl rfl (wanted_yes rfl rfl rfl) (fun w' hS => ?_) ?_; rotate_left; (focus (go_simp; (try with_reducible rfl); done)); try simp only [List.setIfInBounds_toArray, List.set_cons_zero, List.set_cons_succ]) | (refine wpPerm_off rfl rfl (wanted_no rfl rfl rfl) ?_; try simp only [List.setIfInBounds_toArray, List.set_cons_zero, List.set_cons_succ]) | (refine wpPerm_off rfl rfl (wanted_undef rfl rfl rfl) ?_; try simp only [List.setIfInBounds_toArray, List.set_cons_zero, List.set_cons_succ])))
      clear D12 D14
      have B8 := M.b8
      have B7 := M.b7
      have BX := M.bx
      have hbg := M.hbg
      have hHz := M.hz
      clear M
      have f0 := B8.frozen 0
      have f1 := B8.frozen 1
      have f2 := B8.frozen 2
      have f3 := B8.frozen 3
      have f4 := B8.frozen 4
      have q := five B8 (Below.refl _ _)
      refine wpPerm_do rfl (wanted_free rfl) (fun K hK => ?_); go_simp
      clear f0 f1 f2 f3 f4 q
      obtain ⟨wy, hw, B8, hl1, hg1⟩ := Blk.set5 B8 (.string S.name) (.slice A5 n5 c5) (.int .i64 S.key) (.bool S.only) (.slice A6 n6 c6)
      rw [← hw]
      clear hw
      have B12 := B12.grown hg1 (by simp; omega)
      have B14 := B14.grown hg1 (by simp; omega)
      have BX := BX.grown hg1 (by simp; omega)
      have BK := BK.grown hg1 (by simp; omega)
      have B7 := B7.grown hg1 (by simp; omega)
      have hC5 := hC5.grownL hg1 hgab.1
      have hR5 := hR5.grownL hg1 hgab.1
      have hR4 := hR4.grownL hg1 hgab.1
      have hbg := Below.trans hbg (hl1 _ (by omega))
      have hHz := Nat.le_trans hHz hg1.size
      refine hK.out _ _ ⟨B12, B14⟩ ?_
      clear hK K hl1 hg1
      have f0 := BX.frozen 0
      have f1 := BX.frozen 1
      have f2 := BX.frozen 2
      have f3 := BX.frozen 3
      have f4 := BX.frozen 4
      have q := five BX (Below.refl _ _)
      refine wpPerm_do rfl (wanted_free rfl) (fun K hK => ?_); go_simp
      clear f0 f1 f2 f3 f4 q
      obtain ⟨wz, hw, BX, hl1, hg1⟩ := Blk.set5 BX (.string S.name) (.slice A7 S.cols.length c7) (.int .i64 S.key) (.bool S.only) (.slice A4 n4 c4)
      rw [← hw]
      clear hw
      have B12 := B12.grown hg1 (by simp; omega)
      have B14 := B14.grown hg1 (by simp; omega)
      have B8 := B8.grown hg1 (by simp; omega)
      have BK := BK.grown hg1 (by simp; omega)
      have B7 := B7.grown hg1 (by simp; omega)
      have hC5 := hC5.grownL hg1 hgab.2
      have hR5 := hR5.grownL hg1 hgab.2
      have hR4 := hR4.grownL hg1 hgab.2
      have hbg := Below.trans hbg (hl1 _ (by omega))
      have hHz := Nat.le_trans hHz hg1.size
      refine hK.out _ _ ⟨B12, B14⟩ ?_
      clear hK K hl1 hg1
      refine wpPerm_done ?_
      have hA : TabH w3 wz ga H0 S p.2 := ⟨_, _, _, _, _, _, B8, .inl hC5, hR5, hF5⟩
      have hB : RefH wz gb H0 S A7 c7 p.2 := ⟨_, _, _, BX, hR4, hF4⟩
      clear B12 B14 B8 BX hC5 hR5 hR4
      have hbw := Below.trans hbw3 (Below.mono hbg hbw3.size)
      obtain ⟨Aa, na, ca, Ab, nb, cb, B8, hC8, hR8, hF8⟩ := hA.open hbg
      have hB' := hB
      obtain ⟨Ac, nc, cc, BX, hRx, hFx⟩ := hB'
      have q8 := five B8 (Below.refl _ _)
      have qk := BK.three (Below.refl _ _)
      go_wp2_with fail
      clear q8 qk
      refine (get_ S p.2 kv 0 Aa na ca Ab nb cb _ hR8 HOK.out hn7 (by omega)).mono ?_
      rintro e wa ⟨Ag, mg, cg, rfl, hVg, hba⟩
      have hbg := Below.trans hbg (Below.mono hba hbg.size)
      have hVg := hVg.base (Nat.zero_le _)
      have B8 := B8.ext hba
      have BX := BX.ext hba
      have B7 := B7.ext hba
      have BK := BK.ext hba
      have hC8 := hC8.ext hba
      have hR8 := hR8.ext hba
      have hRx := hRx.ext hba
      have hA := hA.ext hba
      have hB := hB.ext hba
      have hHz := Nat.le_trans hHz hba.size
      clear hba
      have qx := five BX (Below.refl _ _)
      have qk := BK.three (Below.refl _ _)
      go_wp2_with fail
      clear qx qk
      refine (rget_ S p.2 kv H0 A7 S.cols.length c7 Ac nc cc _ hRx HOK.out hn7 (by omega) hri.out.chk).mono ?_
      rintro e wb ⟨Ah, mh, ch, rfl, hVh, hbb⟩
      have hbg := Below.trans hbg (Below.mono hbb hbg.size)
      have hVg := hVg.ext hbb
      have hVh := hVh.base (Nat.zero_le _)
      have B8 := B8.ext hbb
      have BX := BX.ext hbb
      have B7 := B7.ext hbb
      have hC8 := hC8.ext hbb
      have hR8 := hR8.ext hbb
      have hRx := hRx.ext hbb
      have hA := hA.ext hbb
      have hB := hB.ext hbb
      have hHz := Nat.le_trans hHz hbb.size
      clear hbb BK
      obtain ⟨iv, hiv⟩ : ∃ b, isL S.key kv p.2 = b := ⟨_, rfl⟩
      rw [hiv]
      obtain ⟨rr, hrr⟩ : ∃ b, rowL S.key p.2 kv = b := ⟨_, rfl⟩
      rw [hrr] at hVg hVh
      have hrm : mg ≤ 100000 := by rw [← hVg.2, ← hrr]; exact rowL_len HOK.out hn7 kv
      clear hiv hrr
      have hsm := Lib.hid (HOK.out.small hn7)
      have D8 := fun w' (h : Below wb.heap.size wb.drew w') => five B8 (Below.trans (Below.refl _ _).drew h)
      have DX := fun w' (h : Below wb.heap.size wb.drew w') => five BX (Below.trans (Below.refl _ _).drew h)
      have hCx := hCs.out _ hbg
      have HRe := Lib.hid (fun w' (h : Below wb.heap.size wb.drew w') => Below.trans (Below.refl _ wb).drew h)
      go_wp2_with fail
      refine wp_region_one [(0, true), (1, true), (2, false), (3, false), (4, true), (5, true), (6, true), (8, true), (7, false), (9, false), (10, true), (11, true), (12, true), (13, true), (14, true), (15, false), (16, true), (17, true), (18, true), (19, true), (20, true), (21, true), (22, true)] (by kernel_rfl) (by kernel_rfl) (by kernel_rfl) (by decide) ?_
      have hq : Below wb.heap.size wb.drew wb.drew := Below.refl _ _
      repeat ((with_reducible show wpPerm _ _ _ _ ((_, true) :: _) _ _); (first | (refine wpPerm_on (v := ?_) rfl rfl (wanted_free rfl) (fun w' hS => ?_) ?_; rotate_left; (focus (go_simp; (try with_reducible rfl); done)); try simp only [List.setIfInBounds_toArray, List.set_cons_zero, List.set_cons_succ]) | (refine wpPerm_on (v := ?_) rfl rfl (wanted_yes rfl rfl rfl) (fun w' hS => ?_) ?_; rotate_left; (focus (go_simp; (try with_reducible rfl); done)); try simp only [List.setIfInBounds_toArray, List.set_cons_zero, List.set_cons_succ]) | (refine wpPerm_off rfl rfl (wanted_no rfl rfl rfl) ?_; try simp only [List.setIfInBounds_toArray, List.set_cons_zero, List.set_cons_succ]) | (refine wpPerm_off rfl rfl (wanted_undef rfl rfl rfl) ?_; try simp only [List.setIfInBounds_toArray, List.set_cons_zero, List.set_cons_succ])))
      refine wpPerm_do rfl (wanted_free rfl) (fun K hK => ?_); go_simp
      refine (of_ S A7 S.cols.length c7 Ac nc cc _).mono ?_
      rintro e wc ⟨rfl, hbc⟩
      have hq := Below.trans hq hbc
      refine hK.out _ _ hq ?_
      clear hK K
      simp only [tabA]
      refine wpPerm_do rfl (wanted_free rfl) (fun K hK => ?_); go_simp
      refine (same_ S p.2 0 0 (.agg (tabA S Aa na ca Ab nb cb)) (.agg (tabA S A7 S.cols.length c7 Ac nc cc)) _ hn7 (by omega) hsm.out (TabR.of (hC8.ext (HRe.out _ hq)) (hR8.ext (HRe.out _ hq)) hF8) (TabR.of (hCx.ext (HRe.out _ hq)) ((hRx.ext (HRe.out _ hq)).base (Nat.zero_le _)) hFx)).mono ?_
      rintro e wd ⟨rfl, hbd⟩
      have hq := Below.trans hq (Below.mono hbd hq.size)
      refine hK.out _ _ hq ?_
      clear hK K
      repeat ((with_reducible show wpPerm _ _ _ _ ((_, true) :: _) _ _); (first | (refine wpPerm_on (v := ?_) rfl rfl (wanted_free rfl) (fun w' hS => ?_) ?_; rotate_left; (focus (go_simp; (try with_reducible rfl); done)); try simp only [List.setIfInBounds_toArray, List.set_cons_zero, List.set_cons_succ]) | (refine wpPerm_on (v := ?_) rfl rfl (wanted_yes rfl rfl rfl) (fun w' hS => ?_) ?_; rotate_left; (focus (go_simp; (try with_reducible rfl); done)); try simp only [List.setIfInBounds_toArray, List.set_cons_zero, List.set_cons_succ]) | (refine wpPerm_off rfl rfl (wanted_no rfl rfl rfl) ?_; try simp only [List.setIfInBounds_toArray, List.set_cons_zero, List.set_cons_succ]) | (refine wpPerm_off rfl rfl (wanted_undef rfl rfl rfl) ?_; try simp only [List.setIfInBounds_toArray, List.set_cons_zero, List.set_cons_succ])))
      refine wpPerm_do rfl (wanted_yes rfl rfl rfl) (fun K hK => ?_); go_simp
      refine (toRef_ S Aa na ca Ab nb cb _).mono ?_
      rintro e we ⟨rfl, hbe⟩
      have hq := Below.trans hq (Below.mono hbe hq.size)
      refine hK.out _ _ hq ?_
      clear hK K
      simp only [tabA]
      refine wpPerm_do rfl (wanted_yes rfl rfl rfl) (fun K hK => ?_); go_simp
      refine (rsame_ S p.2 0 0 Aa A7 Ab Ac na ca S.cols.length c7 nb cb nc cc _ hn7 (by omega) hsm.out (hC8.ext (HRe.out _ hq)) (hCx.ext (HRe.out _ hq)) (hR8.ext (HRe.out _ hq)) ((hRx.ext (HRe.out _ hq)).base (Nat.zero_le _))).mono ?_
      rintro e wg ⟨rfl, hbh⟩
      have hq := Below.trans hq (Below.mono hbh hq.size)
      refine hK.out _ _ hq ?_
      clear hK K
      repeat ((with_reducible show wpPerm _ _ _ _ ((_, true) :: _) _ _); (first | (refine wpPerm_on (v := ?_) rfl rfl (wanted_free rfl) (fun w' hS => ?_) ?_; rotate_left; (focus (go_simp; (try with_reducible rfl); done)); try simp only [List.setIfInBounds_toArray, List.set_cons_zero, List.set_cons_succ]) | (refine wpPerm_on (v := ?_) rfl rfl (wanted_yes rfl rfl rfl) (fun w' hS => ?_) ?_; rotate_left; (focus (go_simp; (try with_reducible rfl); done)); try simp only [List.setIfInBounds_toArray, List.set_cons_zero, List.set_cons_succ]) | (refine wpPerm_off rfl rfl (wanted_no rfl rfl rfl) ?_; try simp only [List.setIfInBounds_toArray, List.set_cons_zero, List.set_cons_succ]) | (refine wpPerm_off rfl rfl (wanted_undef rfl rfl rfl) ?_; try simp only [List.setIfInBounds_toArray, List.set_cons_zero, List.set_cons_succ])))
      refine wpPerm_do rfl (wanted_yes rfl rfl rfl) (fun K hK => ?_); go_simp
      refine (rrowSame_ rr 0 0 Ag Ah mg cg mh ch _ hrm (hVg.ext (HRe.out _ hq)) (hVh.ext (HRe.out _ hq))).mono ?_
      rintro e wi ⟨rfl, hbi⟩
      have hq := Below.trans hq (Below.mono hbi hq.size)
      refine hK.out _ _ hq ?_
      clear hK K
      repeat ((with_reducible show wpPerm _ _ _ _ ((_, true) :: _) _ _); (first | (refine wpPerm_on (v := ?_) rfl rfl (wanted_free rfl) (fun w' hS => ?_) ?_; rotate_left; (focus (go_simp; (try with_reducible rfl); done)); try simp only [List.setIfInBounds_toArray, List.set_cons_zero, List.set_cons_succ]) | (refine wpPerm_on (v := ?_) rfl rfl (wanted_yes rfl rfl rfl) (fun w' hS => ?_) ?_; rotate_left; (focus (go_simp; (try with_reducible rfl); done)); try simp only [List.setIfInBounds_toArray, List.set_cons_zero, List.set_cons_succ]) | (refine wpPerm_off rfl rfl (wanted_no rfl rfl rfl) ?_; try simp only [List.setIfInBounds_toArray, List.set_cons_zero, List.set_cons_succ]) | (refine wpPerm_off rfl rfl (wanted_undef rfl rfl rfl) ?_; try simp only [List.setIfInBounds_toArray, List.set_cons_zero, List.set_cons_succ])))
      refine wpPerm_done ?_
      have hbx := HRe.out _ hq
      clear D8 DX HRe hq
      go_wp2
      go_roundw
      case rel => exact ⟨k + 1, p.2, by go_num, by omega, by omega, HOK.out, hA.ext hbx, hB.ext hbx, B7.ext hbx, Below.trans hbg (Below.mono hbx hbg.size), Nat.le_trans hHz hbx.size⟩
      case measure => simp [intOf]; omega
    have hdk : (km == 3) = false := by simp [h3]
    have hVq := hVr
    have HSQ := Lib.hid hri.out.small
    have hmq : S.cols.length ≤ 12 := by omega
    clear hxv hxs
    go_wp2_with fail
    have D7 := fun w' (h : Below w5.heap.size w5.drew w') => four M.b7 (Below.trans (Below.refl _ _).drew h)
    have D2 := fun w' (h : Below w5.heap.size w5.drew w') => ext_cell (Below.trans (Below.refl _ w5).drew h) (HN5.out)
    refine wp_region_mixJ1 ⟨11, 11, fun g => .pointer (some ⟨g, 0, none⟩), .cells #[.int .i64 0, .int .i64 0, .string ⟨#[]⟩] 39⟩
      [(0, true), (1, true), (2, true), (3, true), (4, true), (5, true), (7, true), (8, true)] [(6, false), (9, true), (10, true)] [(12, false)] (by kernel_rfl) (by kernel_rfl) ?_
    repeat ((with_reducible show wpI _ _ _ _ _ ((_, true) :: _) _ _); (first | (refine wpI_on (v := ?_) rfl rfl (wanted_free rfl) (fun w' hS => ?_) ?_; rotate_left; (focus (go_simp; (try with_reducible rfl); done)); try simp only [List.setIfInBounds_toArray, List.set_cons_zero, List.set_cons_succ]) | (refine wpI_on (v := ?_) rfl rfl (wanted_yes rfl rfl rfl) (fun w' hS => ?_) ?_; rotate_left; (focus (go_simp; (try with_reducible rfl); done)); try simp only [List.setIfInBounds_toArray, List.set_cons_zero, List.set_cons_succ]) | (refine wpI_off rfl rfl (wanted_no rfl rfl rfl) ?_; try simp only [List.setIfInBounds_toArray, List.set_cons_zero, List.set_cons_succ]) | (refine wpI_off rfl rfl (wanted_undef rfl rfl rfl) ?_; try simp only [List.setIfInBounds_toArray, List.set_cons_zero, List.set_cons_succ])))
    refine wpI_done ⟨?_, ?_⟩
    · intro u hu
      simp only [List.mem_cons, List.not_mem_nil, or_false] at hu
      rcases hu with rfl
      exact ⟨_, rfl, rfl, wanted_free rfl, fun w => by go_simp⟩
    clear D7 D2
    refine wpJ_do rfl (wanted_free rfl) (fun wI hI hSI K hK => ?_); go_simp
    have hId : Below w5.heap.size w5 wI := Below.trans (Below.refl _ _).drew hSI
    refine (fit_ S 0 A7 S.cols.length c7 xn _ (hCs.out _ (Below.trans M.hbg (Below.mono hId M.hbg.size))) hn7 hS.kinds hxn.1 hxn.2).mono ?_
    rintro e w8 ⟨Ak, ck, rfl, hown8, hb8⟩
    rw [HR0.out] at hown8
    have hVp : Vs w8 0 Ak S.cols.length ck r0 := (Vs.of_own hown8).base (Nat.zero_le _)
    obtain ⟨bp, op, rfl, _, _, _⟩ := hVp.1.some_ (by omega)
    have hkk := key_kind hS.ok0 hri.out.fit
    rw [hri.out.keyOf] at hkk
    refine hK.out _ _ (fun w' => Below w5.heap.size w5.drew w' ∧ w'.cell? ⟨bp, op + S.key * 3, none⟩ = some (.int .i64 kv.k) ∧ w'.cell? ⟨bp, op + S.key * 3 + 1, none⟩ = some (.int .i64 kv.n) ∧ w'.cell? ⟨bp, op + S.key * 3 + 2, none⟩ = some (.string kv.s)) hb8 (fun x h => h.1)
      (fun x y h k => ⟨Below.trans k.1 (Below.mono h k.1.size), (ext_cell h k.2.1), (ext_cell h k.2.2.1), (ext_cell h k.2.2.2)⟩) ⟨Below.trans hSI (Below.mono hb8 hSI.size), hVp.at_ hri.out.key⟩ ?_
    clear hK K hown8 hb8 hI hSI hId hVp
    repeat ((with_reducible show wpJ _ _ _ _ ((_, true) :: _) _ _ _); (refine wpJ_on (v := ?_) rfl rfl (wanted_free rfl) (fun w' hS => ?_) ?_; rotate_left; (focus (go_simp; (try with_reducible rfl); done)); try simp only [List.setIfInBounds_toArray, List.set_cons_zero, List.set_cons_succ]))
    refine wpJ_done ?_
    intro gk wf he hb hlo1 hhi1 hat1
    try simp only [List.setIfInBounds_toArray, List.set_cons_zero, List.set_cons_succ]
    have BK : Blk wf gk 39 #[.int .i64 0, .int .i64 0, .string ⟨#[]⟩] := hat1
    obtain ⟨hb, e0, e1, e2⟩ := hb
    have hpk : bp ≠ gk := zero_blk BK e0 hkk
    clear hat1 he hhi1
    have q := BK.three (Below.refl _ _)
    have f := BK.free3
    refine wpPerm_do rfl (wanted_free rfl) (fun K hK => ?_); go_simp
    clear q f
    obtain ⟨wk, hw, BK, hl1, hf1, hz1⟩ := BK.set3 (.int .i64 kv.k) (.int .i64 kv.n) (.string kv.s)
    rw [← hw]
    have HW := Lib.hid hw
    clear hw
    have hb := Below.trans hb (hl1 _ hlo1)
    refine hK.out _ _ ⟨hb, (far3 HW.out hpk).trans e0, (far3 HW.out hpk).trans e1, (far3 HW.out hpk).trans e2⟩ ?_
    clear hK K HW e0 e1 e2 hf1 hz1 hl1 hkk hpk
    refine wpPerm_done ?_
    have hbk := Below.trans ((Below.refl w5.heap.size w5).drew) hb
    have hgk : H0 ≤ gk := Nat.le_trans M.hz hlo1
    have M := M.ext hbk
    have B9 := B9.ext hbk
    have hVq := hVq.ext hbk
    have HK5 := Lib.hid (ext_cell hbk HK5.out)
    clear hb hbk HN5 HV5 hlo1
    have qk5 := HK5.out
    go_wp2_with fail
    clear qk5
    refine (within10 xk 6 km hkm _ (by decide) (by decide) hxk.1 hxk.2).mono ?_
    rintro e wx ⟨rfl, rfl⟩
    clear HK5
    by_cases h4 : km < 4
    case pos =>
      have hd4 : decide (km < 4) = true := by simp; omega
      obtain ⟨p, hp⟩ : ∃ p, putL S.cols S.key rows r0 = p := ⟨_, rfl⟩
      have hput := fun w' (h : Below wk.heap.size wk w') Ax cx (hV : Vs w' 0 Ax S.cols.length cx r0) => put_ S rows r0 0 A1 n1 c1 A2 n2 c2 0 Ax S.cols.length cx w' (M.c8.ext h) (M.r8.ext h) M.f8 hV HSQ.out hOk.out hn7 (by omega) (by omega)
      rw [hp] at hput
      have Hput := Lib.hid hput
      have hok' := putL_ok hOk.out r0
      have htl := put_len (cs := S.cols) (key := S.key) (rows := rows) (r := r0)
      rw [hp] at hok' htl
      have HOK := Lib.hid hok'
      have hpl : p.2.length ≤ k + 1 := by split at htl <;> omega
      have HP := Lib.hid hp
      clear hput hp hok' htl
      go_wp2_with fail
      have D8 := fun w' (h : Below wk.heap.size wk.drew w') => five M.b8 (Below.trans (Below.refl _ _).drew h)
      refine wp_region_mix1 ⟨8, 12, fun g => .pointer (some ⟨g, 0, none⟩), .cells #[.string ⟨#[]⟩, .slice none 0 0, .int .i64 0, .bool false, .slice none 0 0] 32⟩
        [(0, true), (2, true)] [(1, false), (3, false), (4, false), (5, true), (6, true), (7, true)] [(9, false), (10, true)] (by kernel_rfl) (by kernel_rfl) ?_
      repeat ((with_reducible show wpI _ _ _ _ _ ((_, true) :: _) _ _); (first | (refine wpI_on (v := ?_) rfl rfl (wanted_free rfl) (fun w' hS => ?_) ?_; rotate_left; (focus (go_simp; (try with_reducible rfl); done)); try simp only [List.setIfInBounds_toArray, List.set_cons_zero, List.set_cons_succ]) | (refine wpI_on (v := ?_) rfl rfl (wanted_yes rfl rfl rfl) (fun w' hS => ?_) ?_; rotate_left; (focus (go_simp; (try with_reducible rfl); done)); try simp only [List.setIfInBounds_toArray, List.set_cons_zero, List.set_cons_succ]) | (refine wpI_off rfl rfl (wanted_no rfl rfl rfl) ?_; try simp only [List.setIfInBounds_toArray, List.set_cons_zero, List.set_cons_succ]) | (refine wpI_off rfl rfl (wanted_undef rfl rfl rfl) ?_; try simp only [List.setIfInBounds_toArray, List.set_cons_zero, List.set_cons_succ])))
      refine wpI_done ⟨?_, ?_⟩
      · intro u hu
        simp only [List.mem_cons, List.not_mem_nil, or_false] at hu
        rcases hu with rfl
        exact ⟨_, rfl, rfl, wanted_free rfl, fun w => by go_simp⟩
      clear D8
      refine wpI_do rfl (wanted_free rfl) (fun wI hI hSI K hK => ?_); go_simp
      refine hK.out _ _ ((Below.refl _ _).alloc (Nat.le_refl _) _) ?_
      clear hK K
      have hgE : (wI.alloc (.cells #[] 39)).heap[wI.heap.size]? = some (.cells #[] 39 (0, 0)) := heap_alloc_new _ _
      have hSE := hSI.alloc hSI.size (.cells #[] 39)
      generalize hwE : wI.alloc (.cells #[] 39) = wE at *
      clear hwE hI hSI
      generalize wI.heap.size = gE at *
      refine wpI_do rfl (wanted_free rfl) (fun wI hI hSI K hK => ?_)
      refine wp_append_fresh (.tmp 88) (.tmp 89) 33 rfl 39 i0 _ 3 32 Try.underlying33 hi hy0 hy1 hy2 rfl (by decide) gE (ext_blk hI hgE) rfl Ar S.cols.length cr 0 (cellsV r0) rfl ((hVq.1.ext (Below.refl _ wk).drew).ext hSI) (by rw [lenV, hVq.2]) (oneV r0) (by unfold maxLen; omega) (by omega) ?_
      intro A88 c88 w6 hown6 hb6
      refine hK.out _ _ hb6 ?_
      clear hK K hgE hI hSI hb6 hSE
      refine wpI_do rfl (wanted_free rfl) (fun wI hI hSI K hK => ?_); go_simp
      refine (Hput.out _ (Below.trans (Below.refl _ wk).drew hSI) A88 c88 ((Vs.of_own (own_ext hown6 hI)).base (Nat.zero_le _))).mono ?_
      rintro e w8 ⟨v, rfl, hT, hb8⟩
      have hHI : H0 ≤ wI.heap.size := Nat.le_trans M.hz (Below.trans (Below.refl _ wk).drew hSI).size
      obtain ⟨A5, n5, c5, A6, n6, c6, rfl, hC5, hR5, hF5⟩ := hT
      have hC5 := hC5.base hHI
      have hR5 := hR5.base hHI
      simp only [tabA]
      refine hK.out _ _ hb8 ?_
      clear hK K hb8 hI hSI hown6 hHI
      repeat ((with_reducible show wpI _ _ _ _ _ ((_, true) :: _) _ _); (first | (refine wpI_on (v := ?_) rfl rfl (wanted_free rfl) (fun w' hS => ?_) ?_; rotate_left; (focus (go_simp; (try with_reducible rfl); done)); try simp only [List.setIfInBounds_toArray, List.set_cons_zero, List.set_cons_succ]) | (refine wpI_on (v := ?_) rfl rfl (wanted_yes rfl rfl rfl) (fun w' hS => ?_) ?_; rotate_left; (focus (go_simp; (try with_reducible rfl); done)); try simp only [List.setIfInBounds_toArray, List.set_cons_zero, List.set_cons_succ]) | (refine wpI_off rfl rfl (wanted_no rfl rfl rfl) ?_; try simp only [List.setIfInBounds_toArray, List.set_cons_zero, List.set_cons_succ]) | (refine wpI_off rfl rfl (wanted_undef rfl rfl rfl) ?_; try simp only [List.setIfInBounds_toArray, List.set_cons_zero, List.set_cons_succ])))
      refine wpI_done ?_
      intro g12 wf he hb hlo1 hhi1 hat1
      try simp only [List.setIfInBounds_toArray, List.set_cons_zero, List.set_cons_succ]
      have B12 : Blk wf g12 32 #[.string ⟨#[]⟩, .slice none 0 0, .int .i64 0, .bool false, .slice none 0 0] := hat1
      have hC5 := hC5.ext he
      have hR5 := hR5.ext he
      have hg12 : H0 ≤ g12 := Nat.le_trans M.hz hlo1
      clear hat1 he hhi1
      have f0 := B12.frozen 0
      have f1 := B12.frozen 1
      have f2 := B12.frozen 2
      have f3 := B12.frozen 3
      have f4 := B12.frozen 4
      have q := five B12 (Below.refl _ _)
      refine wpPerm_do rfl (wanted_free rfl) (fun K hK => ?_); go_simp
      clear f0 f1 f2 f3 f4 q
      obtain ⟨w6, hw, B12', hl1, hgr⟩ := Blk.set5 B12 (.string S.name) (.slice A5 n5 c5) (.int .i64 S.key) (.bool S.only) (.slice A6 n6 c6)
      rw [← hw]
      clear hw
      have hC5 := zt_cs hC5 B12 hgr hS.pos
      have hR5 := zt_rs hR5 B12 hgr (fun r hr => by have := fits_len (HOK.out.fit r hr); have := hS.pos; omega)
      have B12 := B12'
      have hb := Below.trans hb (hl1 _ hlo1)
      refine hK.out _ _ hb ?_
      clear hK K B12' hgr hl1
      repeat ((with_reducible show wpPerm _ _ _ _ ((_, true) :: _) _ _); (first | (refine wpPerm_on (v := ?_) rfl rfl (wanted_free rfl) (fun w' hS => ?_) ?_; rotate_left; (focus (go_simp; (try with_reducible rfl); done)); try simp only [List.setIfInBounds_toArray, List.set_cons_zero, List.set_cons_succ]) | (refine wpPerm_on (v := ?_) rfl rfl (wanted_yes rfl rfl rfl) (fun w' hS => ?_) ?_; rotate_left; (focus (go_simp; (try with_reducible rfl); done)); try simp only [List.setIfInBounds_toArray, List.set_cons_zero, List.set_cons_succ]) | (refine wpPerm_off rfl rfl (wanted_no rfl rfl rfl) ?_; try simp only [List.setIfInBounds_toArray, List.set_cons_zero, List.set_cons_succ]) | (refine wpPerm_off rfl rfl (wanted_undef rfl rfl rfl) ?_; try simp only [List.setIfInBounds_toArray, List.set_cons_zero, List.set_cons_succ])))
      refine wpPerm_done ?_
      have hb6 := Below.trans (Below.refl _ wk).drew hb
      have M := M.ext hb6
      have B9 := B9.ext hb6
      have BK := BK.ext hb6
      have hVq := hVq.ext hb6
      clear hb hb6 Hput hlo1
      have qx := five M.bx (Below.refl _ _)
      go_wp2_with fail
      clear qx
      refine (rput_ S rows r0 0 H0 A7 S.cols.length c7 A3 n3 c3 0 Ar S.cols.length cr _ (hCs.out _ M.hbg) M.rx M.fx M.hz hVq HSQ.out hOk.out hn7 (by omega) (by omega)).mono ?_
      rintro e w7 ⟨A4, n4, c4, rfl, hR4, hF4, hb7⟩
      rw [HP.out] at hR4 ⊢
      simp only [tabA]
      have M := M.ext hb7
      have B9 := B9.ext hb7
      have B12 := B12.ext hb7
      have BK := BK.ext hb7
      have hC5 := hC5.ext hb7
      have hR5 := hR5.ext hb7
      clear hb7 hVq HSQ
      obtain ⟨pe, hpe⟩ : ∃ e, p.1 = e := ⟨_, rfl⟩
      rw [hpe]
      clear hpe
      have q9 := fun o => five B9 ((Below.refl _ _).alloc (Nat.le_refl _) o)
      have q8 := fun o => five M.b8 ((Below.refl _ _).alloc (Nat.le_refl _) o)
      have hg14 := M.hz
      go_wp2_with fail
      clear q9 q8
      obtain ⟨W8, hW_, hb8, B14⟩ : ∃ W_, W_ = (w7.alloc (.cells #[.string S.name, .slice A7 S.cols.length c7, .int .i64 S.key, .bool S.only, .slice A4 n4 c4] 48)) ∧ Below w7.heap.size w7 W_ ∧ Blk W_ (w7.heap.size) 48 #[.string S.name, .slice A7 S.cols.length c7, .int .i64 S.key, .bool S.only, .slice A4 n4 c4] :=
        ⟨_, rfl, ((Below.refl _ _).alloc (Nat.le_refl _) _), (blk_new_at w7 (w7.heap.size) _ _ (by simp))⟩
      rw [← hW_]
      clear hW_
      have M := M.ext hb8
      have hsmo := Lib.hid (hOk.out.small hn7)
      refine (same_ S rows 0 0 (.agg (tabA S A1 n1 c1 A2 n2 c2)) (.agg (tabA S A1 n1 c1 A2 n2 c2)) _ hn7 (by omega) hsmo.out (TabR.of M.c8 M.r8 M.f8) (TabR.of M.c8 M.r8 M.f8)).mono ?_
      rintro e w8 ⟨rfl, hbs⟩
      have hb8 := Below.trans hb8 (Below.mono hbs hb8.size)
      have M := M.ext hbs
      have B12 := B12.ext hb8
      have B14 := B14.ext hbs
      have BK := BK.ext hb8
      have hC5 := hC5.ext hb8
      have hR5 := hR5.ext hb8
      have hR4 := hR4.ext hb8
      clear hbs hb8 B9 hsmo HP
      obtain ⟨g14, hg14e⟩ : ∃ g, w7.heap.size = g := ⟨_, rfl⟩
      rw [hg14e] at B14 hg14 ⊢
      clear hg14e
      go_wp2_with fail
      have D12 := fun w' (h : Blk w' g12 32 #[.string S.name, .slice A5 n5 c5, .int .i64 S.key, .bool S.only, .slice A6 n6 c6] ∧ Blk w' g14 48 #[.string S.name, .slice A7 S.cols.length c7, .int .i64 S.key, .bool S.only, .slice A4 n4 c4]) => five h.1 (Below.refl _ _)
      have D14 := fun w' (h : Blk w' g12 32 #[.string S.name, .slice A5 n5 c5, .int .i64 S.key, .bool S.only, .slice A6 n6 c6] ∧ Blk w' g14 48 #[.string S.name, .slice A7 S.cols.length c7, .int .i64 S.key, .bool S.only, .slice A4 n4 c4]) => five h.2 (Below.refl _ _)
      refine wp_region_oneS (S := fun w' => Blk w' g12 32 #[.string S.name, .slice A5 n5 c5, .int .i64 S.key, .bool S.only, .slice A6 n6 c6] ∧ Blk w' g14 48 #[.string S.name, .slice A7 S.cols.length c7, .int .i64 S.key, .bool S.only, .slice A4 n4 c4]) [(0, true), (1, true), (2, false), (3, false)] (by kernel_rfl) (by kernel_rfl) (by kernel_rfl) (by decide) ⟨B12, B14⟩ ?_
      have hdr := (Below.refl w8.heap.size w8).drew
      have M := M.ext hdr
      have BK := BK.ext hdr
      have B12 := B12.ext hdr
      have B14 := B14.ext hdr
      have hC5 := hC5.ext hdr
      have hR5 := hR5.ext hdr
      have hR4 := hR4.ext hdr
      clear hdr
      generalize w8.drew = wd at *
      repeat ((with_reducible show wpPerm _ _ _ _ ((_, true) :: _) _ _); (first | (refine wpPerm_on (v := ?_) rfl rfl (wanted_free rfl) (fun w' hS => ?_) ?_; rotate_left; (focus (go_simp; (try with_reducible rfl); done)); try simp only [List.setIfInBounds_toArray, List.set_cons_zero, List.set_cons_succ]) | (refine wpPerm_on (v := ?_) rfl rfl (wanted_yes rfl rfl rfl) (fun w' hS => ?_) ?_; rotate_left; (focus (go_simp; (try with_reducible rfl); done)); try simp only [List.setIfInBounds_toArray, List.set_cons_zero, List.set_cons_succ]) | (refine wpPerm_off rfl rfl (wanted_no rfl rfl rfl) ?_; try simp only [List.setIfInBounds_toArray, List.set_cons_zero, List.set_cons_succ]) | (refine wpPerm_off rfl rfl (wanted_undef rfl rfl rfl) ?_; try simp only [List.setIfInBounds_toArray, List.set_cons_zero, List.set_cons_succ])))
      clear D12 D14
      have B8 := M.b8
      have B7 := M.b7
      have BX := M.bx
      have hbg := M.hbg
      have hHz := M.hz
      clear M
      have f0 := B8.frozen 0
      have f1 := B8.frozen 1
      have f2 := B8.frozen 2
      have f3 := B8.frozen 3
      have f4 := B8.frozen 4
      have q := five B8 (Below.refl _ _)
      refine wpPerm_do rfl (wanted_free rfl) (fun K hK => ?_); go_simp
      clear f0 f1 f2 f3 f4 q
      obtain ⟨wy, hw, B8, hl1, hg1⟩ := Blk.set5 B8 (.string S.name) (.slice A5 n5 c5) (.int .i64 S.key) (.bool S.only) (.slice A6 n6 c6)
      rw [← hw]
      clear hw
      have B12 := B12.grown hg1 (by simp; omega)
      have B14 := B14.grown hg1 (by simp; omega)
      have BX := BX.grown hg1 (by simp; omega)
      have BK := BK.grown hg1 (by simp; omega)
      have B7 := B7.grown hg1 (by simp; omega)
      have hC5 := hC5.grownL hg1 hgab.1
      have hR5 := hR5.grownL hg1 hgab.1
      have hR4 := hR4.grownL hg1 hgab.1
      have hbg := Below.trans hbg (hl1 _ (by omega))
      have hHz := Nat.le_trans hHz hg1.size
      refine hK.out _ _ ⟨B12, B14⟩ ?_
      clear hK K hl1 hg1
      have f0 := BX.frozen 0
      have f1 := BX.frozen 1
      have f2 := BX.frozen 2
      have f3 := BX.frozen 3
      have f4 := BX.frozen 4
      have q := five BX (Below.refl _ _)
      refine wpPerm_do rfl (wanted_free rfl) (fun K hK => ?_); go_simp
      clear f0 f1 f2 f3 f4 q
      obtain ⟨wz, hw, BX, hl1, hg1⟩ := Blk.set5 BX (.string S.name) (.slice A7 S.cols.length c7) (.int .i64 S.key) (.bool S.only) (.slice A4 n4 c4)
      rw [← hw]
      clear hw
      have B12 := B12.grown hg1 (by simp; omega)
      have B14 := B14.grown hg1 (by simp; omega)
      have B8 := B8.grown hg1 (by simp; omega)
      have BK := BK.grown hg1 (by simp; omega)
      have B7 := B7.grown hg1 (by simp; omega)
      have hC5 := hC5.grownL hg1 hgab.2
      have hR5 := hR5.grownL hg1 hgab.2
      have hR4 := hR4.grownL hg1 hgab.2
      have hbg := Below.trans hbg (hl1 _ (by omega))
      have hHz := Nat.le_trans hHz hg1.size
      refine hK.out _ _ ⟨B12, B14⟩ ?_
      clear hK K hl1 hg1
      refine wpPerm_done ?_
      have hA : TabH w3 wz ga H0 S p.2 := ⟨_, _, _, _, _, _, B8, .inl hC5, hR5, hF5⟩
      have hB : RefH wz gb H0 S A7 c7 p.2 := ⟨_, _, _, BX, hR4, hF4⟩
      clear B12 B14 B8 BX hC5 hR5 hR4
      have hbw := Below.trans hbw3 (Below.mono hbg hbw3.size)
      obtain ⟨Aa, na, ca, Ab, nb, cb, B8, hC8, hR8, hF8⟩ := hA.open hbg
      have hB' := hB
      obtain ⟨Ac, nc, cc, BX, hRx, hFx⟩ := hB'
      have q8 := five B8 (Below.refl _ _)
      have qk := BK.three (Below.refl _ _)
      go_wp2_with fail
      clear q8 qk
      refine (get_ S p.2 kv 0 Aa na ca Ab nb cb _ hR8 HOK.out hn7 (by omega)).mono ?_
      rintro e wa ⟨Ag, mg, cg, rfl, hVg, hba⟩
      have hbg := Below.trans hbg (Below.mono hba hbg.size)
      have hVg := hVg.base (Nat.zero_le _)
      have B8 := B8.ext hba
      have BX := BX.ext hba
      have B7 := B7.ext hba
      have BK := BK.ext hba
      have hC8 := hC8.ext hba
      have hR8 := hR8.ext hba
      have hRx := hRx.ext hba
      have hA := hA.ext hba
      have hB := hB.ext hba
      have hHz := Nat.le_trans hHz hba.size
      clear hba
      have qx := five BX (Below.refl _ _)
      have qk := BK.three (Below.refl _ _)
      go_wp2_with fail
      clear qx qk
      refine (rget_ S p.2 kv H0 A7 S.cols.length c7 Ac nc cc _ hRx HOK.out hn7 (by omega) hri.out.chk).mono ?_
      rintro e wb ⟨Ah, mh, ch, rfl, hVh, hbb⟩
      have hbg := Below.trans hbg (Below.mono hbb hbg.size)
      have hVg := hVg.ext hbb
      have hVh := hVh.base (Nat.zero_le _)
      have B8 := B8.ext hbb
      have BX := BX.ext hbb
      have B7 := B7.ext hbb
      have hC8 := hC8.ext hbb
      have hR8 := hR8.ext hbb
      have hRx := hRx.ext hbb
      have hA := hA.ext hbb
      have hB := hB.ext hbb
      have hHz := Nat.le_trans hHz hbb.size
      clear hbb BK
      obtain ⟨iv, hiv⟩ : ∃ b, isL S.key kv p.2 = b := ⟨_, rfl⟩
      rw [hiv]
      obtain ⟨rr, hrr⟩ : ∃ b, rowL S.key p.2 kv = b := ⟨_, rfl⟩
      rw [hrr] at hVg hVh
      have hrm : mg ≤ 100000 := by rw [← hVg.2, ← hrr]; exact rowL_len HOK.out hn7 kv
      clear hiv hrr
      have hsm := Lib.hid (HOK.out.small hn7)
      have D8 := fun w' (h : Below wb.heap.size wb.drew w') => five B8 (Below.trans (Below.refl _ _).drew h)
      have DX := fun w' (h : Below wb.heap.size wb.drew w') => five BX (Below.trans (Below.refl _ _).drew h)
      have hCx := hCs.out _ hbg
      have HRe := Lib.hid (fun w' (h : Below wb.heap.size wb.drew w') => Below.trans (Below.refl _ wb).drew h)
      go_wp2_with fail
      refine wp_region_one [(0, true), (1, true), (2, false), (3, false), (4, true), (5, true), (6, true), (8, true), (7, false), (9, false), (10, true), (11, true), (12, true), (13, true), (14, true), (15, false), (16, true), (17, true), (18, true), (19, true), (20, true), (21, true), (22, true)] (by kernel_rfl) (by kernel_rfl) (by kernel_rfl) (by decide) ?_
      have hq : Below wb.heap.size wb.drew wb.drew := Below.refl _ _
      repeat ((with_reducible show wpPerm _ _ _ _ ((_, true) :: _) _ _); (first | (refine wpPerm_on (v := ?_) rfl rfl (wanted_free rfl) (fun w' hS => ?_) ?_; rotate_left; (focus (go_simp; (try with_reducible rfl); done)); try simp only [List.setIfInBounds_toArray, List.set_cons_zero, List.set_cons_succ]) | (refine wpPerm_on (v := ?_) rfl rfl (wanted_yes rfl rfl rfl) (fun w' hS => ?_) ?_; rotate_left; (focus (go_simp; (try with_reducible rfl); done)); try simp only [List.setIfInBounds_toArray, List.set_cons_zero, List.set_cons_succ]) | (refine wpPerm_off rfl rfl (wanted_no rfl rfl rfl) ?_; try simp only [List.setIfInBounds_toArray, List.set_cons_zero, List.set_cons_succ]) | (refine wpPerm_off rfl rfl (wanted_undef rfl rfl rfl) ?_; try simp only [List.setIfInBounds_toArray, List.set_cons_zero, List.set_cons_succ])))
      refine wpPerm_do rfl (wanted_free rfl) (fun K hK => ?_); go_simp
      refine (of_ S A7 S.cols.length c7 Ac nc cc _).mono ?_
      rintro e wc ⟨rfl, hbc⟩
      have hq := Below.trans hq hbc
      refine hK.out _ _ hq ?_
      clear hK K
      simp only [tabA]
      refine wpPerm_do rfl (wanted_free rfl) (fun K hK => ?_); go_simp
      refine (same_ S p.2 0 0 (.agg (tabA S Aa na ca Ab nb cb)) (.agg (tabA S A7 S.cols.length c7 Ac nc cc)) _ hn7 (by omega) hsm.out (TabR.of (hC8.ext (HRe.out _ hq)) (hR8.ext (HRe.out _ hq)) hF8) (TabR.of (hCx.ext (HRe.out _ hq)) ((hRx.ext (HRe.out _ hq)).base (Nat.zero_le _)) hFx)).mono ?_
      rintro e wd ⟨rfl, hbd⟩
      have hq := Below.trans hq (Below.mono hbd hq.size)
      refine hK.out _ _ hq ?_
      clear hK K
      repeat ((with_reducible show wpPerm _ _ _ _ ((_, true) :: _) _ _); (first | (refine wpPerm_on (v := ?_) rfl rfl (wanted_free rfl) (fun w' hS => ?_) ?_; rotate_left; (focus (go_simp; (try with_reducible rfl); done)); try simp only [List.setIfInBounds_toArray, List.set_cons_zero, List.set_cons_succ]) | (refine wpPerm_on (v := ?_) rfl rfl (wanted_yes rfl rfl rfl) (fun w' hS => ?_) ?_; rotate_left; (focus (go_simp; (try with_reducible rfl); done)); try simp only [List.setIfInBounds_toArray, List.set_cons_zero, List.set_cons_succ]) | (refine wpPerm_off rfl rfl (wanted_no rfl rfl rfl) ?_; try simp only [List.setIfInBounds_toArray, List.set_cons_zero, List.set_cons_succ]) | (refine wpPerm_off rfl rfl (wanted_undef rfl rfl rfl) ?_; try simp only [List.setIfInBounds_toArray, List.set_cons_zero, List.set_cons_succ])))
      refine wpPerm_do rfl (wanted_yes rfl rfl rfl) (fun K hK => ?_); go_simp
      refine (toRef_ S Aa na ca Ab nb cb _).mono ?_
      rintro e we ⟨rfl, hbe⟩
      have hq := Below.trans hq (Below.mono hbe hq.size)
      refine hK.out _ _ hq ?_
      clear hK K
      simp only [tabA]
      refine wpPerm_do rfl (wanted_yes rfl rfl rfl) (fun K hK => ?_); go_simp
      refine (rsame_ S p.2 0 0 Aa A7 Ab Ac na ca S.cols.length c7 nb cb nc cc _ hn7 (by omega) hsm.out (hC8.ext (HRe.out _ hq)) (hCx.ext (HRe.out _ hq)) (hR8.ext (HRe.out _ hq)) ((hRx.ext (HRe.out _ hq)).base (Nat.zero_le _))).mono ?_
      rintro e wg ⟨rfl, hbh⟩
      have hq := Below.trans hq (Below.mono hbh hq.size)
      refine hK.out _ _ hq ?_
      clear hK K
      repeat ((with_reducible show wpPerm _ _ _ _ ((_, true) :: _) _ _); (first | (refine wpPerm_on (v := ?_) rfl rfl (wanted_free rfl) (fun w' hS => ?_) ?_; rotate_left; (focus (go_simp; (try with_reducible rfl); done)); try simp only [List.setIfInBounds_toArray, List.set_cons_zero, List.set_cons_succ]) | (refine wpPerm_on (v := ?_) rfl rfl (wanted_yes rfl rfl rfl) (fun w' hS => ?_) ?_; rotate_left; (focus (go_simp; (try with_reducible rfl); done)); try simp only [List.setIfInBounds_toArray, List.set_cons_zero, List.set_cons_succ]) | (refine wpPerm_off rfl rfl (wanted_no rfl rfl rfl) ?_; try simp only [List.setIfInBounds_toArray, List.set_cons_zero, List.set_cons_succ]) | (refine wpPerm_off rfl rfl (wanted_undef rfl rfl rfl) ?_; try simp only [List.setIfInBounds_toArray, List.set_cons_zero, List.set_cons_succ])))
      refine wpPerm_do rfl (wanted_yes rfl rfl rfl) (fun K hK => ?_); go_simp
      refine (rrowSame_ rr 0 0 Ag Ah mg cg mh ch _ hrm (hVg.ext (HRe.out _ hq)) (hVh.ext (HRe.out _ hq))).mono ?_
      rintro e wi ⟨rfl, hbi⟩
      have hq := Below.trans hq (Below.mono hbi hq.size)
      refine hK.out _ _ hq ?_
      clear hK K
      repeat ((with_reducible show wpPerm _ _ _ _ ((_, true) :: _) _ _); (first | (refine wpPerm_on (v := ?_) rfl rfl (wanted_free rfl) (fun w' hS => ?_) ?_; rotate_left; (focus (go_simp; (try with_reducible rfl); done)); try simp only [List.setIfInBounds_toArray, List.set_cons_zero, List.set_cons_succ]) | (refine wpPerm_on (v := ?_) rfl rfl (wanted_yes rfl rfl rfl) (fun w' hS => ?_) ?_; rotate_left; (focus (go_simp; (try with_reducible rfl); done)); try simp only [List.setIfInBounds_toArray, List.set_cons_zero, List.set_cons_succ]) | (refine wpPerm_off rfl rfl (wanted_no rfl rfl rfl) ?_; try simp only [List.setIfInBounds_toArray, List.set_cons_zero, List.set_cons_succ]) | (refine wpPerm_off rfl rfl (wanted_undef rfl rfl rfl) ?_; try simp only [List.setIfInBounds_toArray, List.set_cons_zero, List.set_cons_succ])))
      refine wpPerm_done ?_
      have hbx := HRe.out _ hq
      clear D8 DX HRe hq
      go_wp2
      go_roundw
      case rel => exact ⟨k + 1, p.2, by go_num, by omega, by omega, HOK.out, hA.ext hbx, hB.ext hbx, B7.ext hbx, Below.trans hbg (Below.mono hbx hbg.size), Nat.le_trans hHz hbx.size⟩
      case measure => simp [intOf]; omega
    have hd4 : decide (km < 4) = false := by simp; omega
    obtain ⟨p, hp⟩ : ∃ p, takeL S.key rows kv = p := ⟨_, rfl⟩
    have htk := take_ S rows kv 0 A1 n1 c1 A2 n2 c2 _ M.c8 M.r8 M.f8 hOk.out hn7 (by omega)
    rw [hp] at htk
    have Htk := Lib.hid htk
    have hok' := takeL_ok hOk.out kv
    have htl := take_len (key := S.key) (rows := rows) (k := kv)
    rw [hp] at hok' htl
    have HOK := Lib.hid hok'
    have hpl : p.2.length ≤ k + 1 := by omega
    have HP := Lib.hid hp
    clear htk hp hok' htl HSQ hVq
    have q8 := five M.b8 (Below.refl _ _)
    have qk := BK.three (Below.refl _ _)
    go_wp2_with fail
    clear q8 qk
    refine Htk.out.mono ?_
    rintro e w6 ⟨v, Ap, mp, cp, rfl, hT, hVp, hb6⟩
    obtain ⟨A5, n5, c5, A6, n6, c6, rfl, hC5, hR5, hF5⟩ := hT
    have hC5 := hC5.base M.hz
    have hR5 := hR5.base M.hz
    have hVp := hVp.base (Nat.zero_le _)
    simp only [tabA]
    have hg12 := Nat.le_trans M.hz hb6.size
    have M := M.ext hb6
    have BK := BK.ext hb6
    clear hb6 B9 Htk
    obtain ⟨rr, hrr⟩ : ∃ b, rowL S.key rows kv = b := ⟨_, rfl⟩
    rw [hrr] at hVp
    have hrm : mp ≤ 100000 := by rw [← hVp.2, ← hrr]; exact rowL_len hOk.out hn7 kv
    have HRR := Lib.hid hrr
    clear hrr
    have qx := fun o => five M.bx ((Below.refl _ _).alloc (Nat.le_refl _) o)
    have qk := fun o => BK.three ((Below.refl _ _).alloc (Nat.le_refl _) o)
    go_wp2_with fail
    clear qx qk
    obtain ⟨W6, hW_, hb6a, B12⟩ : ∃ W_, W_ = (w6.alloc (.cells #[.string S.name, .slice A5 n5 c5, .int .i64 S.key, .bool S.only, .slice A6 n6 c6] 32)) ∧ Below w6.heap.size w6 W_ ∧ Blk W_ (w6.heap.size) 32 #[.string S.name, .slice A5 n5 c5, .int .i64 S.key, .bool S.only, .slice A6 n6 c6] :=
      ⟨_, rfl, ((Below.refl _ _).alloc (Nat.le_refl _) _), (blk_new_at w6 (w6.heap.size) _ _ (by simp))⟩
    rw [← hW_]
    clear hW_
    have M := M.ext hb6a
    have BK := BK.ext hb6a
    have hC5 := hC5.ext hb6a
    have hR5 := hR5.ext hb6a
    have hVp := hVp.ext hb6a
    clear hb6a
    obtain ⟨g12, hg12e⟩ : ∃ g, w6.heap.size = g := ⟨_, rfl⟩
    rw [hg12e] at B12 hg12 ⊢
    clear hg12e
    refine (rtake_ S rows kv H0 A7 S.cols.length c7 A3 n3 c3 _ M.rx M.fx M.hz hOk.out hn7 (by omega) hri.out.chk).mono ?_
    rw [HP.out, HRR.out]
    rintro e w7 ⟨A4, n4, c4, Aq', S.cols.length', cq', rfl, hR4, hF4, hVq', hb7⟩
    simp only [tabA]
    have M := M.ext hb7
    have BK := BK.ext hb7
    have B12 := B12.ext hb7
    have hC5 := hC5.ext hb7
    have hR5 := hR5.ext hb7
    have hVp := hVp.ext hb7
    have hVq' := hVq'.base (Nat.zero_le _)
    clear hb7
    obtain ⟨pe, hpe⟩ : ∃ e, p.1 = e := ⟨_, rfl⟩
    rw [hpe]
    clear hpe
    have hg14 := M.hz
    go_wp2_with fail
    obtain ⟨W8, hW_, hb8, B14⟩ : ∃ W_, W_ = (w7.alloc (.cells #[.string S.name, .slice A7 S.cols.length c7, .int .i64 S.key, .bool S.only, .slice A4 n4 c4] 48)) ∧ Below w7.heap.size w7 W_ ∧ Blk W_ (w7.heap.size) 48 #[.string S.name, .slice A7 S.cols.length c7, .int .i64 S.key, .bool S.only, .slice A4 n4 c4] :=
      ⟨_, rfl, ((Below.refl _ _).alloc (Nat.le_refl _) _), (blk_new_at w7 (w7.heap.size) _ _ (by simp))⟩
    rw [← hW_]
    clear hW_
    refine (rrowSame_ rr 0 0 Ap Aq' mp cp S.cols.length' cq' _ hrm (hVp.ext hb8) (hVq'.ext hb8)).mono ?_
    rintro e w8 ⟨rfl, hbs⟩
    have hb8 := Below.trans hb8 (Below.mono hbs hb8.size)
    have M := M.ext hb8
    have B12 := B12.ext hb8
    have B14 := B14.ext hbs
    have BK := BK.ext hb8
    have hC5 := hC5.ext hb8
    have hR5 := hR5.ext hb8
    have hR4 := hR4.ext hb8
    clear hbs hb8 HP HRR hVp hVq'
    obtain ⟨g14, hg14e⟩ : ∃ g, w7.heap.size = g := ⟨_, rfl⟩
    rw [hg14e] at B14 hg14 ⊢
    clear hg14e
    go_wp2_with fail
    have D12 := fun w' (h : Blk w' g12 32 #[.string S.name, .slice A5 n5 c5, .int .i64 S.key, .bool S.only, .slice A6 n6 c6] ∧ Blk w' g14 48 #[.string S.name, .slice A7 S.cols.length c7, .int .i64 S.key, .bool S.only, .slice A4 n4 c4]) => five h.1 (Below.refl _ _)
    have D14 := fun w' (h : Blk w' g12 32 #[.string S.name, .slice A5 n5 c5, .int .i64 S.key, .bool S.only, .slice A6 n6 c6] ∧ Blk w' g14 48 #[.string S.name, .slice A7 S.cols.length c7, .int .i64 S.key, .bool S.only, .slice A4 n4 c4]) => five h.2 (Below.refl _ _)
    refine wp_region_oneS (S := fun w' => Blk w' g12 32 #[.string S.name, .slice A5 n5 c5, .int .i64 S.key, .bool S.only, .slice A6 n6 c6] ∧ Blk w' g14 48 #[.string S.name, .slice A7 S.cols.length c7, .int .i64 S.key, .bool S.only, .slice A4 n4 c4]) [(0, true), (1, true), (2, false), (3, false)] (by kernel_rfl) (by kernel_rfl) (by kernel_rfl) (by decide) ⟨B12, B14⟩ ?_
    have hdr := (Below.refl w8.heap.size w8).drew
    have M := M.ext hdr
    have BK := BK.ext hdr
    have B12 := B12.ext hdr
    have B14 := B14.ext hdr
    have hC5 := hC5.ext hdr
    have hR5 := hR5.ext hdr
    have hR4 := hR4.ext hdr
    clear hdr
    generalize w8.drew = wd at *
    repeat ((with_reducible show wpPerm _ _ _ _ ((_, true) :: _) _ _); (first | (refine wpPerm_on (v := ?_) rfl rfl (wanted_free rfl) (fun w' hS => ?_) ?_; rotate_left; (focus (go_simp; (try with_reducible rfl); done)); try simp only [List.setIfInBounds_toArray, List.set_cons_zero, List.set_cons_succ]) | (refine wpPerm_on (v := ?_) rfl rfl (wanted_yes rfl rfl rfl) (fun w' hS => ?_) ?_; rotate_left; (focus (go_simp; (try with_reducible rfl); done)); try simp only [List.setIfInBounds_toArray, List.set_cons_zero, List.set_cons_succ]) | (refine wpPerm_off rfl rfl (wanted_no rfl rfl rfl) ?_; try simp only [List.setIfInBounds_toArray, List.set_cons_zero, List.set_cons_succ]) | (refine wpPerm_off rfl rfl (wanted_undef rfl rfl rfl) ?_; try simp only [List.setIfInBounds_toArray, List.set_cons_zero, List.set_cons_succ])))
    clear D12 D14
    have B8 := M.b8
    have B7 := M.b7
    have BX := M.bx
    have hbg := M.hbg
    have hHz := M.hz
    clear M
    have f0 := B8.frozen 0
    have f1 := B8.frozen 1
    have f2 := B8.frozen 2
    have f3 := B8.frozen 3
    have f4 := B8.frozen 4
    have q := five B8 (Below.refl _ _)
    refine wpPerm_do rfl (wanted_free rfl) (fun K hK => ?_); go_simp
    clear f0 f1 f2 f3 f4 q
    obtain ⟨wy, hw, B8, hl1, hg1⟩ := Blk.set5 B8 (.string S.name) (.slice A5 n5 c5) (.int .i64 S.key) (.bool S.only) (.slice A6 n6 c6)
    rw [← hw]
    clear hw
    have B12 := B12.grown hg1 (by simp; omega)
    have B14 := B14.grown hg1 (by simp; omega)
    have BX := BX.grown hg1 (by simp; omega)
    have BK := BK.grown hg1 (by simp; omega)
    have B7 := B7.grown hg1 (by simp; omega)
    have hC5 := hC5.grownL hg1 hgab.1
    have hR5 := hR5.grownL hg1 hgab.1
    have hR4 := hR4.grownL hg1 hgab.1
    have hbg := Below.trans hbg (hl1 _ (by omega))
    have hHz := Nat.le_trans hHz hg1.size
    refine hK.out _ _ ⟨B12, B14⟩ ?_
    clear hK K hl1 hg1
    have f0 := BX.frozen 0
    have f1 := BX.frozen 1
    have f2 := BX.frozen 2
    have f3 := BX.frozen 3
    have f4 := BX.frozen 4
    have q := five BX (Below.refl _ _)
    refine wpPerm_do rfl (wanted_free rfl) (fun K hK => ?_); go_simp
    clear f0 f1 f2 f3 f4 q
    obtain ⟨wz, hw, BX, hl1, hg1⟩ := Blk.set5 BX (.string S.name) (.slice A7 S.cols.length c7) (.int .i64 S.key) (.bool S.only) (.slice A4 n4 c4)
    rw [← hw]
    clear hw
    have B12 := B12.grown hg1 (by simp; omega)
    have B14 := B14.grown hg1 (by simp; omega)
    have B8 := B8.grown hg1 (by simp; omega)
    have BK := BK.grown hg1 (by simp; omega)
    have B7 := B7.grown hg1 (by simp; omega)
    have hC5 := hC5.grownL hg1 hgab.2
    have hR5 := hR5.grownL hg1 hgab.2
    have hR4 := hR4.grownL hg1 hgab.2
    have hbg := Below.trans hbg (hl1 _ (by omega))
    have hHz := Nat.le_trans hHz hg1.size
    refine hK.out _ _ ⟨B12, B14⟩ ?_
    clear hK K hl1 hg1
    refine wpPerm_done ?_
    have hA : TabH w3 wz ga H0 S p.2 := ⟨_, _, _, _, _, _, B8, .inl hC5, hR5, hF5⟩
    have hB : RefH wz gb H0 S A7 c7 p.2 := ⟨_, _, _, BX, hR4, hF4⟩
    clear B12 B14 B8 BX hC5 hR5 hR4
    have hbw := Below.trans hbw3 (Below.mono hbg hbw3.size)
    obtain ⟨Aa, na, ca, Ab, nb, cb, B8, hC8, hR8, hF8⟩ := hA.open hbg
    have hB' := hB
    obtain ⟨Ac, nc, cc, BX, hRx, hFx⟩ := hB'
    have q8 := five B8 (Below.refl _ _)
    have qk := BK.three (Below.refl _ _)
    go_wp2_with fail
    clear q8 qk
    refine (get_ S p.2 kv 0 Aa na ca Ab nb cb _ hR8 HOK.out hn7 (by omega)).mono ?_
    rintro e wa ⟨Ag, mg, cg, rfl, hVg, hba⟩
    have hbg := Below.trans hbg (Below.mono hba hbg.size)
    have hVg := hVg.base (Nat.zero_le _)
    have B8 := B8.ext hba
    have BX := BX.ext hba
    have B7 := B7.ext hba
    have BK := BK.ext hba
    have hC8 := hC8.ext hba
    have hR8 := hR8.ext hba
    have hRx := hRx.ext hba
    have hA := hA.ext hba
    have hB := hB.ext hba
    have hHz := Nat.le_trans hHz hba.size
    clear hba
    have qx := five BX (Below.refl _ _)
    have qk := BK.three (Below.refl _ _)
    go_wp2_with fail
    clear qx qk
    refine (rget_ S p.2 kv H0 A7 S.cols.length c7 Ac nc cc _ hRx HOK.out hn7 (by omega) hri.out.chk).mono ?_
    rintro e wb ⟨Ah, mh, ch, rfl, hVh, hbb⟩
    have hbg := Below.trans hbg (Below.mono hbb hbg.size)
    have hVg := hVg.ext hbb
    have hVh := hVh.base (Nat.zero_le _)
    have B8 := B8.ext hbb
    have BX := BX.ext hbb
    have B7 := B7.ext hbb
    have hC8 := hC8.ext hbb
    have hR8 := hR8.ext hbb
    have hRx := hRx.ext hbb
    have hA := hA.ext hbb
    have hB := hB.ext hbb
    have hHz := Nat.le_trans hHz hbb.size
    clear hbb BK
    obtain ⟨iv, hiv⟩ : ∃ b, isL S.key kv p.2 = b := ⟨_, rfl⟩
    rw [hiv]
    obtain ⟨rr, hrr⟩ : ∃ b, rowL S.key p.2 kv = b := ⟨_, rfl⟩
    rw [hrr] at hVg hVh
    have hrm : mg ≤ 100000 := by rw [← hVg.2, ← hrr]; exact rowL_len HOK.out hn7 kv
    clear hiv hrr
    have hsm := Lib.hid (HOK.out.small hn7)
    have D8 := fun w' (h : Below wb.heap.size wb.drew w') => five B8 (Below.trans (Below.refl _ _).drew h)
    have DX := fun w' (h : Below wb.heap.size wb.drew w') => five BX (Below.trans (Below.refl _ _).drew h)
    have hCx := hCs.out _ hbg
    have HRe := Lib.hid (fun w' (h : Below wb.heap.size wb.drew w') => Below.trans (Below.refl _ wb).drew h)
    go_wp2_with fail
    refine wp_region_one [(0, true), (1, true), (2, false), (3, false), (4, true), (5, true), (6, true), (8, true), (7, false), (9, false), (10, true), (11, true), (12, true), (13, true), (14, true), (15, false), (16, true), (17, true), (18, true), (19, true), (20, true), (21, true), (22, true)] (by kernel_rfl) (by kernel_rfl) (by kernel_rfl) (by decide) ?_
    have hq : Below wb.heap.size wb.drew wb.drew := Below.refl _ _
    repeat ((with_reducible show wpPerm _ _ _ _ ((_, true) :: _) _ _); (first | (refine wpPerm_on (v := ?_) rfl rfl (wanted_free rfl) (fun w' hS => ?_) ?_; rotate_left; (focus (go_simp; (try with_reducible rfl); done)); try simp only [List.setIfInBounds_toArray, List.set_cons_zero, List.set_cons_succ]) | (refine wpPerm_on (v := ?_) rfl rfl (wanted_yes rfl rfl rfl) (fun w' hS => ?_) ?_; rotate_left; (focus (go_simp; (try with_reducible rfl); done)); try simp only [List.setIfInBounds_toArray, List.set_cons_zero, List.set_cons_succ]) | (refine wpPerm_off rfl rfl (wanted_no rfl rfl rfl) ?_; try simp only [List.setIfInBounds_toArray, List.set_cons_zero, List.set_cons_succ]) | (refine wpPerm_off rfl rfl (wanted_undef rfl rfl rfl) ?_; try simp only [List.setIfInBounds_toArray, List.set_cons_zero, List.set_cons_succ])))
    refine wpPerm_do rfl (wanted_free rfl) (fun K hK => ?_); go_simp
    refine (of_ S A7 S.cols.length c7 Ac nc cc _).mono ?_
    rintro e wc ⟨rfl, hbc⟩
    have hq := Below.trans hq hbc
    refine hK.out _ _ hq ?_
    clear hK K
    simp only [tabA]
    refine wpPerm_do rfl (wanted_free rfl) (fun K hK => ?_); go_simp
    refine (same_ S p.2 0 0 (.agg (tabA S Aa na ca Ab nb cb)) (.agg (tabA S A7 S.cols.length c7 Ac nc cc)) _ hn7 (by omega) hsm.out (TabR.of (hC8.ext (HRe.out _ hq)) (hR8.ext (HRe.out _ hq)) hF8) (TabR.of (hCx.ext (HRe.out _ hq)) ((hRx.ext (HRe.out _ hq)).base (Nat.zero_le _)) hFx)).mono ?_
    rintro e wd ⟨rfl, hbd⟩
    have hq := Below.trans hq (Below.mono hbd hq.size)
    refine hK.out _ _ hq ?_
    clear hK K
    repeat ((with_reducible show wpPerm _ _ _ _ ((_, true) :: _) _ _); (first | (refine wpPerm_on (v := ?_) rfl rfl (wanted_free rfl) (fun w' hS => ?_) ?_; rotate_left; (focus (go_simp; (try with_reducible rfl); done)); try simp only [List.setIfInBounds_toArray, List.set_cons_zero, List.set_cons_succ]) | (refine wpPerm_on (v := ?_) rfl rfl (wanted_yes rfl rfl rfl) (fun w' hS => ?_) ?_; rotate_left; (focus (go_simp; (try with_reducible rfl); done)); try simp only [List.setIfInBounds_toArray, List.set_cons_zero, List.set_cons_succ]) | (refine wpPerm_off rfl rfl (wanted_no rfl rfl rfl) ?_; try simp only [List.setIfInBounds_toArray, List.set_cons_zero, List.set_cons_succ]) | (refine wpPerm_off rfl rfl (wanted_undef rfl rfl rfl) ?_; try simp only [List.setIfInBounds_toArray, List.set_cons_zero, List.set_cons_succ])))
    refine wpPerm_do rfl (wanted_yes rfl rfl rfl) (fun K hK => ?_); go_simp
    refine (toRef_ S Aa na ca Ab nb cb _).mono ?_
    rintro e we ⟨rfl, hbe⟩
    have hq := Below.trans hq (Below.mono hbe hq.size)
    refine hK.out _ _ hq ?_
    clear hK K
    simp only [tabA]
    refine wpPerm_do rfl (wanted_yes rfl rfl rfl) (fun K hK => ?_); go_simp
    refine (rsame_ S p.2 0 0 Aa A7 Ab Ac na ca S.cols.length c7 nb cb nc cc _ hn7 (by omega) hsm.out (hC8.ext (HRe.out _ hq)) (hCx.ext (HRe.out _ hq)) (hR8.ext (HRe.out _ hq)) ((hRx.ext (HRe.out _ hq)).base (Nat.zero_le _))).mono ?_
    rintro e wg ⟨rfl, hbh⟩
    have hq := Below.trans hq (Below.mono hbh hq.size)
    refine hK.out _ _ hq ?_
    clear hK K
    repeat ((with_reducible show wpPerm _ _ _ _ ((_, true) :: _) _ _); (first | (refine wpPerm_on (v := ?_) rfl rfl (wanted_free rfl) (fun w' hS => ?_) ?_; rotate_left; (focus (go_simp; (try with_reducible rfl); done)); try simp only [List.setIfInBounds_toArray, List.set_cons_zero, List.set_cons_succ]) | (refine wpPerm_on (v := ?_) rfl rfl (wanted_yes rfl rfl rfl) (fun w' hS => ?_) ?_; rotate_left; (focus (go_simp; (try with_reducible rfl); done)); try simp only [List.setIfInBounds_toArray, List.set_cons_zero, List.set_cons_succ]) | (refine wpPerm_off rfl rfl (wanted_no rfl rfl rfl) ?_; try simp only [List.setIfInBounds_toArray, List.set_cons_zero, List.set_cons_succ]) | (refine wpPerm_off rfl rfl (wanted_undef rfl rfl rfl) ?_; try simp only [List.setIfInBounds_toArray, List.set_cons_zero, List.set_cons_succ])))
    refine wpPerm_do rfl (wanted_yes rfl rfl rfl) (fun K hK => ?_); go_simp
    refine (rrowSame_ rr 0 0 Ag Ah mg cg mh ch _ hrm (hVg.ext (HRe.out _ hq)) (hVh.ext (HRe.out _ hq))).mono ?_
    rintro e wi ⟨rfl, hbi⟩
    have hq := Below.trans hq (Below.mono hbi hq.size)
    refine hK.out _ _ hq ?_
    clear hK K
    repeat ((with_reducible show wpPerm _ _ _ _ ((_, true) :: _) _ _); (first | (refine wpPerm_on (v := ?_) rfl rfl (wanted_free rfl) (fun w' hS => ?_) ?_; rotate_left; (focus (go_simp; (try with_reducible rfl); done)); try simp only [List.setIfInBounds_toArray, List.set_cons_zero, List.set_cons_succ]) | (refine wpPerm_on (v := ?_) rfl rfl (wanted_yes rfl rfl rfl) (fun w' hS => ?_) ?_; rotate_left; (focus (go_simp; (try with_reducible rfl); done)); try simp only [List.setIfInBounds_toArray, List.set_cons_zero, List.set_cons_succ]) | (refine wpPerm_off rfl rfl (wanted_no rfl rfl rfl) ?_; try simp only [List.setIfInBounds_toArray, List.set_cons_zero, List.set_cons_succ]) | (refine wpPerm_off rfl rfl (wanted_undef rfl rfl rfl) ?_; try simp only [List.setIfInBounds_toArray, List.set_cons_zero, List.set_cons_succ])))
    refine wpPerm_done ?_
    have hbx := HRe.out _ hq
    clear D8 DX HRe hq
    go_wp2
    go_roundw
    case rel => exact ⟨k + 1, p.2, by go_num, by omega, by omega, HOK.out, hA.ext hbx, hB.ext hbx, B7.ext hbx, Below.trans hbg (Below.mono hbx hbg.size), Nat.le_trans hHz hbx.size⟩
    case measure => simp [intOf]; omega
end Go.Proofs.Ytalfacbkofgdjaa.tb
