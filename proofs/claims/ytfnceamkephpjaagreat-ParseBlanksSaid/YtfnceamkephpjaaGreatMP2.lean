/- The program's parser in memory; fail, word, next. -/
import Derived.Test.YtfnceamkephpjaaGreatP1
import Derived.Test.YtfnceamkephpjaaGreatK9
import Derived.Test.YtfnceamkephpjaaGreatMp
import Derived.Tactics
import Derived.Tactics2
import Derived.LoopTactic
import Derived.Deep.CutRange
import Derived.Deep.CutBlock
import Derived.Test.YtfnceamkephpjaaGreatRow
namespace Go.Proofs.YtfnceamkephpjaaGreat.pg
open Go.ChangeShapes Go.WideShapes Go.ChangeAt Go.RowKit Go.Proofs.YtfnceamkephpjaaGreat.lib Go.Proofs.YtfnceamkephpjaaGreat.lx
set_option linter.unusedVariables false

/-- a parser in the block g: its words lie in the block b -/
structure Pb (w : World) (g : Nat) (W : List Wd) (b : Nat) (p : Pp) (a n c : Nat) : Prop where
  blk : Blk w g 52 #[.slice (some ⟨b, a, none⟩) n c, .int .i64 p.err]
  cells : ∀ (j : Nat) u, (cellsW W)[j]? = some u → w.cell? ⟨b, j, none⟩ = some u
  hb : b < w.heap.size
  ne : b ≠ g
  ha : a = p.at_ * 3
  hn : p.at_ + n = W.length
  hc : n ≤ c
  cc : c ≤ maxLen
  lt : p.at_ < W.length
  wok : WOk W
  wl : W.length ≤ 1000
  ws : ∀ x ∈ W, x.s.length ≤ 1000
def Pr (w : World) (g : Nat) (W : List Wd) (b : Nat) (p : Pp) : Prop := ∃ a n c, Pb w g W b p a n c
section
variable {w w' : World} {g : Nat} {W : List Wd} {b : Nat} {p : Pp} {a n c : Nat}
theorem Pb.same (h : Pb w g W b p a n c) (hs : w.heap.size ≤ w'.heap.size) (h1 : w'.heap[g]? = w.heap[g]?) (h2 : w'.heap[b]? = w.heap[b]?) : Pb w' g W b p a n c :=
  ⟨h1.trans h.blk, fun j u hu => (World.cell?_of_block h2).trans (h.cells j u hu), Nat.lt_of_lt_of_le h.hb hs, h.ne, h.ha, h.hn, h.hc, h.cc, h.lt, h.wok, h.wl, h.ws⟩
theorem Pb.ext (h : Pb w g W b p a n c) (hb : Below w.heap.size w w') : Pb w' g W b p a n c := h.same hb.size (hb.block g h.blk.lt) (hb.block b h.hb)
theorem Pr.ext (h : Pr w g W b p) (hb : Below w.heap.size w w') : Pr w' g W b p := by
  obtain ⟨a, n, c, h⟩ := h
  exact ⟨a, n, c, h.ext hb⟩
theorem Pr.grown {row : Option Nat} (h : Pr w g W b p) (hg : w.grownBy w' row) (h1 : some g ≠ row) (h2 : some b ≠ row) : Pr w' g W b p := by
  obtain ⟨a, n, c, h⟩ := h
  exact ⟨a, n, c, h.same hg.size (hg.block g h.blk.lt h1) (hg.block b h.hb h2)⟩
theorem Pr.lt (h : Pr w g W b p) : p.at_ < W.length := by
  obtain ⟨a, n, c, h⟩ := h
  exact h.lt
theorem Pr.wok (h : Pr w g W b p) : WOk W := by
  obtain ⟨a, n, c, h⟩ := h
  exact h.wok
theorem Pr.gl (h : Pr w g W b p) : g < w.heap.size := by
  obtain ⟨a, n, c, h⟩ := h
  exact h.blk.lt
theorem Pr.bl (h : Pr w g W b p) : b < w.heap.size := by
  obtain ⟨a, n, c, h⟩ := h
  exact h.hb
theorem Pr.wl (h : Pr w g W b p) : W.length ≤ 1000 := by
  obtain ⟨a, n, c, h⟩ := h
  exact h.wl
theorem Pb.set (h : Pb w g W b p a n c) (i : Nat) (u : Value) {q : Pp} {a' n' c' : Nat} (hq : (#[.slice (some ⟨b, a, none⟩) n c, .int .i64 p.err] : Array Value).setIfInBounds i u = #[.slice (some ⟨b, a', none⟩) n' c', .int .i64 q.err])
    (ha : a' = q.at_ * 3) (hn : q.at_ + n' = W.length) (hc : n' ≤ c') (hcc : c' ≤ maxLen) (hl : q.at_ < W.length) : Pb (w.setCell ⟨g, i, none⟩ u) g W b q a' n' c' := by
  have hb := h.blk.set_ i u
  rw [hq] at hb
  have h2 := Below.heap_setCell w ⟨g, i, none⟩ u b h.ne
  exact ⟨hb, fun j u hu => (World.cell?_of_block h2).trans (h.cells j u hu), by have := h.hb; simpa [World.setCell] using this, h.ne, ha, hn, hc, hcc, hl, h.wok, h.wl, h.ws⟩
theorem Pb.err (h : Pb w g W b p a n c) (x : Int) : Pb (w.setCell ⟨g, 1, none⟩ (.int .i64 x)) g W b ⟨p.at_, x⟩ a n c := h.set 1 _ rfl h.ha h.hn h.hc h.cc h.lt
theorem Pb.step (h : Pb w g W b p a n c) (hk : (cur W p).k ≠ 0) : Pb (w.setCell ⟨g, 0, none⟩ (.slice (some ⟨b, a + 3, none⟩) (n - 1) (c - 1))) g W b (stepP p) (a + 3) (n - 1) (c - 1) := by
  have hl := stepP_lt h.wok hk
  have h1 := h.ha
  have h2 := h.hn
  have h3 := h.hc
  have h4 := h.cc
  unfold stepP at hl ⊢
  exact h.set 0 _ rfl (by simp only; omega) (by simp only at hl ⊢; omega) (by omega) (by omega) hl
theorem Pb.mem (h : Pb w g W b p a n c) : wAt W p ∈ W := by
  have hx := List.getElem?_eq_getElem h.lt
  have : wAt W p = W[p.at_]'h.lt := by unfold wAt; rw [hx]; rfl
  rw [this]
  exact List.getElem_mem h.lt
/-- the word that comes next -/
theorem Pb.word (h : Pb w g W b p a n c) : w.cell? ⟨b, a, none⟩ = some (.int .i64 (wAt W p).k) ∧ w.cell? ⟨b, a + 1, none⟩ = some (.int .i64 (wAt W p).n) ∧ w.cell? ⟨b, a + 2, none⟩ = some (.string ⟨(wAt W p).s.toArray⟩) := by
  obtain ⟨x, hx⟩ : ∃ x, W[p.at_]? = some x := ⟨_, List.getElem?_eq_getElem h.lt⟩
  have hw : wAt W p = x := by unfold wAt; rw [hx]; rfl
  rw [hw]
  obtain ⟨h1, h2, h3⟩ := cellsW_at W p.at_ x hx
  have ha := h.ha
  subst ha
  exact ⟨h.cells _ _ h1, h.cells _ _ h2, h.cells _ _ h3⟩
theorem Pb.frozen (h : Pb w g W b p a n c) (i : Nat) : w.frozen? ⟨g, i, none⟩ = false := h.blk.frozen i
theorem cur_len (h : Pr w g W b p) : (cur W p).s.length ≤ 1000 := by
  obtain ⟨a, n, c, h⟩ := h
  unfold cur
  split
  · exact h.ws _ h.mem
  · exact Nat.zero_le _
end
theorem wfield0 (x0 x1 x2 : Value) (w : World) : (Instr.field 57 (.agg #[x0, x1, x2]) 0).run Tryz.prog w = .ok x0 w := by kernel_rfl
theorem wfield1 (x0 x1 x2 : Value) (w : World) : (Instr.field 57 (.agg #[x0, x1, x2]) 1).run Tryz.prog w = .ok x1 w := by kernel_rfl
theorem wfield2 (x0 x1 x2 : Value) (w : World) : (Instr.field 57 (.agg #[x0, x1, x2]) 2).run Tryz.prog w = .ok x2 w := by kernel_rfl
theorem two {w : World} {g : Nat} {t : TypeId} {x0 x1 : Value} (h : Blk w g t #[x0, x1]) {w' : World} (hb : Below w.heap.size w w') :
    w'.cell? ⟨g, 0, none⟩ = some x0 ∧ w'.cell? ⟨g, 1, none⟩ = some x1 := ⟨(h.ext hb).cell 0, (h.ext hb).cell 1⟩
theorem grown_set (w : World) (a : Addr) (u : Value) : w.grownBy (w.setCell a u) (some a.block) := ⟨rfl, rfl, rfl, by simp [World.setCell], fun k hk hne => Below.heap_setCell _ _ _ _ (fun e => hne (by rw [e]))⟩
theorem grown_of {w w' : World} (h : Below w.heap.size w w') (row : Option Nat) : w.grownBy w' row := ⟨h.os, h.tape, h.output, h.size, fun k hk _ => h.block k hk⟩
def wordV (x : Wd) : Value := .agg #[.int .i64 x.k, .int .i64 x.n, .string ⟨x.s.toArray⟩]
set_option maxRecDepth 100000 in
theorem pfail_ (x : Int) {w : World} {g : Nat} {W : List Wd} {b : Nat} {p : Pp} (h : Pr w g W b p) :
    Calls Tryz.prog 15 #[.pointer (some ⟨g, 0, none⟩), .int .i64 x] w fun e w' => e = .returned (.tuple #[]) ∧ Pr w' g W b (failP x p) ∧ w.grownBy w' (some g) := by
  obtain ⟨a, n, c, h⟩ := h
  have H := Lib.hid h
  have q := two h.blk (Below.refl _ _)
  have f1 := h.blk.frozen 1
  clear h
  unfold failP
  go_enter Tryz.func15, Tryz.ntmps15
  by_cases he : p.err = 0
  · have hd : (p.err == 0) = true := by simpa using he
    rw [if_pos he]
    clear he
    go_wp2
    first | go_end0 | refine bodyPost_ret (results_none rfl _ _ _) rfl ?_
    exact ⟨rfl, ⟨_, _, _, H.out.err x⟩, grown_set _ _ _⟩
  · have hd : (p.err == 0) = false := by simpa using he
    rw [if_neg he]
    clear he
    go_wp2
    first | go_end0 | refine bodyPost_ret (results_none rfl _ _ _) rfl ?_
    exact ⟨rfl, ⟨_, _, _, H.out⟩, World.grownBy.refl _ _⟩
set_option maxRecDepth 100000 in
theorem pword_ {w : World} {g : Nat} {W : List Wd} {b : Nat} {p : Pp} (h : Pr w g W b p) :
    Calls Tryz.prog 33 #[.pointer (some ⟨g, 0, none⟩)] w fun e w' => e = .returned (wordV (cur W p)) ∧ Below w.heap.size w w' := by
  obtain ⟨a, n, c, h⟩ := h
  have hb := h.blk
  have hw := h.word
  have hbl := h.hb
  obtain ⟨x, hx⟩ : ∃ x, wAt W p = x := ⟨_, rfl⟩
  have hc : cur W p = if p.err = 0 then x else endW := by rw [← hx]; rfl
  rw [hx] at hw
  have hn0 : (n == 0) = false := by have := h.hn; have := h.lt; simp; omega
  have hn1 : ((n : Int) == 0) = false := by have := h.hn; have := h.lt; simp; omega
  have hn2 : 0 < n := by have := h.hn; have := h.lt; omega
  have hn3 : (0 : Int) < n := by omega
  have hne := h.ne
  obtain ⟨r, hr⟩ : ∃ r, cur W p = r := ⟨_, rfl⟩
  rw [hr]
  have HR := Lib.hid (hc.symm.trans hr)
  clear hc hx h hr
  go_enter Tryz.func33, Tryz.ntmps33
  go_upto_region 1 with fail
  obtain ⟨W1, hW_, hb1, BR⟩ : ∃ W_, W_ = (w.alloc (.cells #[.int .i64 0, .int .i64 0, .string ⟨#[]⟩] 57)) ∧ Below w.heap.size w W_ ∧ Blk W_ (w.heap.size) 57 #[.int .i64 0, .int .i64 0, .string ⟨#[]⟩] :=
    ⟨_, rfl, ((Below.refl _ _).alloc (Nat.le_refl _) _), (blk_new_at w (w.heap.size) _ _ (by simp))⟩
  rw [← hW_]
  clear hW_
  have q := two hb hb1
  obtain ⟨qa, qb, qc⟩ := hw
  have qa := (hb1.cell (p := ⟨b, a, none⟩) hbl).trans qa
  have qb := (hb1.cell (p := ⟨b, a + 1, none⟩) hbl).trans qb
  have qc := (hb1.cell (p := ⟨b, a + 2, none⟩) hbl).trans qc
  have f0 := BR.frozen 0
  have f1 := BR.frozen 1
  have f2 := BR.frozen 2
  have z := BR.three (Below.refl _ _)
  have HB := Lib.hid hb1
  have HBR := Lib.hid BR
  clear hb hb1 BR
  by_cases he : p.err = 0
  · have hd : (p.err != 0) = false := by simpa using he
    obtain rfl : x = r := by rw [← HR.out, if_pos he]
    clear he
    go_wp2
    have BN : Blk (((W1.setCell ⟨w.heap.size, 0, none⟩ (.int .i64 x.k)).setCell ⟨w.heap.size, 1, none⟩ (.int .i64 x.n)).setCell ⟨w.heap.size, 2, none⟩ (.string ⟨x.s.toArray⟩)) w.heap.size 57 #[.int .i64 x.k, .int .i64 x.n, .string ⟨x.s.toArray⟩] := by simpa using ((HBR.out.set_ 0 (.int .i64 x.k)).set_ 1 (.int .i64 x.n)).set_ 2 (.string ⟨x.s.toArray⟩)
    have hB2 := ((HB.out.setCell (p := ⟨w.heap.size, 0, none⟩) (Nat.le_refl _) (.int .i64 x.k)).setCell (p := ⟨w.heap.size, 1, none⟩) (Nat.le_refl _) (.int .i64 x.n)).setCell (p := ⟨w.heap.size, 2, none⟩) (Nat.le_refl _) (.string ⟨x.s.toArray⟩)
    generalize (((W1.setCell ⟨w.heap.size, 0, none⟩ (.int .i64 x.k)).setCell ⟨w.heap.size, 1, none⟩ (.int .i64 x.n)).setCell ⟨w.heap.size, 2, none⟩ (.string ⟨x.s.toArray⟩)) = W2 at *
    have z2 := BN.three (Below.refl _ _)
    exact bodyPost_ret (v := wordV x) (by simp [results, Tryz.results33, go_sem, z2, wordV]; try rfl) rfl ⟨rfl, hB2⟩
  · have hd : (p.err != 0) = true := by simpa using he
    obtain rfl : endW = r := by rw [← HR.out, if_neg he]
    clear he
    go_wp2
    have BN : Blk (((W1.setCell ⟨w.heap.size, 0, none⟩ (.int .i64 0)).setCell ⟨w.heap.size, 1, none⟩ (.int .i64 0)).setCell ⟨w.heap.size, 2, none⟩ (.string ⟨#[]⟩)) w.heap.size 57 #[.int .i64 0, .int .i64 0, .string ⟨#[]⟩] := by simpa using ((HBR.out.set_ 0 (.int .i64 0)).set_ 1 (.int .i64 0)).set_ 2 (.string ⟨#[]⟩)
    have hB2 := ((HB.out.setCell (p := ⟨w.heap.size, 0, none⟩) (Nat.le_refl _) (.int .i64 0)).setCell (p := ⟨w.heap.size, 1, none⟩) (Nat.le_refl _) (.int .i64 0)).setCell (p := ⟨w.heap.size, 2, none⟩) (Nat.le_refl _) (.string ⟨#[]⟩)
    generalize (((W1.setCell ⟨w.heap.size, 0, none⟩ (.int .i64 0)).setCell ⟨w.heap.size, 1, none⟩ (.int .i64 0)).setCell ⟨w.heap.size, 2, none⟩ (.string ⟨#[]⟩)) = W2 at *
    have z2 := BN.three (Below.refl _ _)
    exact bodyPost_ret (v := wordV endW) (by simp [results, Tryz.results33, go_sem, z2, wordV, endW]; try rfl) rfl ⟨rfl, hB2⟩
end Go.Proofs.YtfnceamkephpjaaGreat.pg

/- The program's parser: next. Printed by gen3.py. -/
namespace Go.Proofs.YtfnceamkephpjaaGreat.pg
open Go.ChangeShapes Go.WideShapes Go.ChangeAt Go.RowKit Go.Proofs.YtfnceamkephpjaaGreat.lib Go.Proofs.YtfnceamkephpjaaGreat.lx
set_option linter.unusedVariables false

theorem Pr.nextT {w : World} {g : Nat} {W : List Wd} {b : Nat} {p : Pp} (h : Pr w g W b p) : (cur W p).k = 0 → nextP W p = p := fun hk => by unfold nextP; rw [if_pos hk]
/-- what was turned in blocks made since counts as nothing -/
theorem grown_new {w w1 w2 : World} {row : Option Nat} {r : Nat} (h : w.grownBy w1 row) (k : w1.grownBy w2 (some r)) (hr : w.heap.size ≤ r) : w.grownBy w2 row :=
  ⟨k.os.trans h.os, k.tape.trans h.tape, k.output.trans h.output, Nat.le_trans h.size k.size, fun i hi hne => (k.block i (Nat.lt_of_lt_of_le hi h.size) (fun e => by injection e with e; omega)).trans (h.block i hi hne)⟩
set_option maxRecDepth 100000 in
theorem pnext_ {w : World} {g : Nat} {W : List Wd} {b : Nat} {p : Pp} (h : Pr w g W b p) :
    Calls Tryz.prog 13 #[.pointer (some ⟨g, 0, none⟩)] w fun e w' => e = .returned (wordV (cur W p)) ∧ Pr w' g W b (nextP W p) ∧ w.grownBy w' (some g) := by
  have H := Lib.hid h
  have hgl := h.gl
  have hbl := h.bl
  obtain ⟨x, hx⟩ : ∃ x, cur W p = x := ⟨_, rfl⟩
  have HN := Lib.hid (show nextP W p = if x.k = 0 then p else stepP p by rw [← hx]; rfl)
  have HX := Lib.hid hx
  rw [hx]
  clear h hx
  go_enter Tryz.func13, Tryz.ntmps13
  go_upto_region 1 with fail
  obtain ⟨W1, hW_, hb1, BR⟩ : ∃ W_, W_ = (w.alloc (.cells #[.int .i64 0, .int .i64 0, .string ⟨#[]⟩] 57)) ∧ Below w.heap.size w W_ ∧ Blk W_ (w.heap.size) 57 #[.int .i64 0, .int .i64 0, .string ⟨#[]⟩] :=
    ⟨_, rfl, ((Below.refl _ _).alloc (Nat.le_refl _) _), (blk_new_at w (w.heap.size) _ _ (by simp))⟩
  rw [← hW_]
  clear hW_
  have H1 := Lib.hid (H.out.ext hb1)
  have hr : w.heap.size < W1.heap.size := BR.lt
  obtain ⟨r, hr2⟩ : ∃ r, w.heap.size = r := ⟨_, rfl⟩
  have HB1 := Lib.hid hb1
  have hgr : g < r := by omega
  have hbr : b < r := by omega
  rw [hr2] at BR hr ⊢
  have HR := Lib.hid (show w.heap.size ≤ r by omega)
  clear hb1 hr2 H hgl hbl
  go_wp2_with fail
  refine (pword_ H1.out).mono ?_
  rintro e w2 ⟨rfl, hb2⟩
  rw [HX.out]
  have BR2 := BR.ext hb2
  have H2 := Lib.hid (H1.out.ext hb2)
  have hr2 : r < w2.heap.size := BR2.lt
  have HB2 := Lib.hid hb2
  clear BR hb2 H1 hr
  unfold wordV
  go_upto_region 2 with fail
  obtain ⟨W3, hW_, hb3, BX⟩ : ∃ W_, W_ = (w2.alloc (.cells #[.int .i64 x.k, .int .i64 x.n, .string ⟨x.s.toArray⟩] 57)) ∧ Below w2.heap.size w2 W_ ∧ Blk W_ (w2.heap.size) 57 #[.int .i64 x.k, .int .i64 x.n, .string ⟨x.s.toArray⟩] :=
    ⟨_, rfl, ((Below.refl _ _).alloc (Nat.le_refl _) _), (blk_new_at w2 (w2.heap.size) _ _ (by simp))⟩
  rw [← hW_]
  clear hW_
  have HB3 := Lib.hid (show Below w.heap.size w W3 from bch0 (bch0 HB1.out HB2.out) hb3)
  have H3 := Lib.hid (H2.out.ext hb3)
  have BR3 := BR2.ext hb3
  obtain ⟨v, hv⟩ : ∃ v, w2.heap.size = v := ⟨_, rfl⟩
  rw [hv] at BX hr2 ⊢
  have qx := BX.three (Below.refl _ _)
  have qr := BR3.three (Below.refl _ _)
  have f0 := BR3.frozen 0
  have f1 := BR3.frozen 1
  have f2 := BR3.frozen 2
  have hvr : v ≠ r := by omega
  have hvg : v ≠ g := by omega
  have hrg : r ≠ g := by omega
  have BR4 := Lib.hid BR3
  clear H2 HB1 HB2 hb3 BR2 hv hr2
  by_cases hk : x.k = 0
  case pos =>
    have hd : (x.k != 0) = false := by simpa using hk
    have hn := Lib.hid (show nextP W p = p by rw [HN.out, if_pos hk])
    have HBX := Lib.hid BX
    clear hk BR3 BX
    go_wp2
    have BN : Blk (((W3.setCell ⟨r, 0, none⟩ (.int .i64 x.k)).setCell ⟨r, 1, none⟩ (.int .i64 x.n)).setCell ⟨r, 2, none⟩ (.string ⟨x.s.toArray⟩)) r 57 #[.int .i64 x.k, .int .i64 x.n, .string ⟨x.s.toArray⟩] := by simpa using ((BR4.out.set_ 0 (.int .i64 x.k)).set_ 1 (.int .i64 x.n)).set_ 2 (.string ⟨x.s.toArray⟩)
    have hg5 : W3.grownBy (((W3.setCell ⟨r, 0, none⟩ (.int .i64 x.k)).setCell ⟨r, 1, none⟩ (.int .i64 x.n)).setCell ⟨r, 2, none⟩ (.string ⟨x.s.toArray⟩)) (some r) := ((grown_set _ ⟨r, 0, none⟩ _).trans (grown_set _ ⟨r, 1, none⟩ _)).trans (grown_set _ ⟨r, 2, none⟩ _)
    generalize hw5 : (((W3.setCell ⟨r, 0, none⟩ (.int .i64 x.k)).setCell ⟨r, 1, none⟩ (.int .i64 x.n)).setCell ⟨r, 2, none⟩ (.string ⟨x.s.toArray⟩)) = W5 at *
    clear hw5
    have z2 := BN.three (Below.refl _ _)
    exact bodyPost_ret (v := wordV x) (by simp [results, Tryz.results13, go_sem, z2, wordV]; try rfl) rfl ⟨rfl, by rw [hn.out]; exact H3.out.grown hg5 (by simp; omega) (by simp; omega), grown_new (grown_of HB3.out _) hg5 HR.out⟩
  have hd : (x.k != 0) = true := by simpa using hk
  have hn := Lib.hid (show nextP W p = stepP p by rw [HN.out, if_neg hk])
  obtain ⟨a, n, c, h⟩ := H3.out
  have HS := Lib.hid (h.step (by rw [HX.out]; exact hk))
  have q := two h.blk (Below.refl _ _)
  have g0 := h.blk.frozen 0
  have hl : p.at_ + 1 < W.length := by have := stepP_lt h.wok (p := p) (by rw [HX.out]; exact hk); exact this
  have e1 := h.hn
  have e2 := h.hc
  have e3 := h.cc
  have hn1 : (1 : Int) ≤ (n : Int) := by omega
  have hn2 : 1 ≤ n := by omega
  have hc1 : ¬ (c = 1) := by omega
  have hc2 : 1 ≤ c := by omega
  have hnc : n ≤ c := e2
  have HBX := Lib.hid BX
  clear hk BR3 BX h H3 e1 hl HN
  go_upto_region 4 with fail
  have BX4 := HBX.out.far (p := ⟨g, 0, none⟩) hvg (.slice (some ⟨b, a + 3, none⟩) (n - 1) (c - 1))
  have BR5 := BR4.out.far (p := ⟨g, 0, none⟩) hrg (.slice (some ⟨b, a + 3, none⟩) (n - 1) (c - 1))
  have hg4 := grown_set W3 ⟨g, 0, none⟩ (.slice (some ⟨b, a + 3, none⟩) (n - 1) (c - 1))
  have HS := HS.out
  generalize hw4 : W3.setCell ⟨g, 0, none⟩ (.slice (some ⟨b, a + 3, none⟩) (n - 1) (c - 1)) = W4 at *
  clear hw4 qr qx f0 f1 f2
  have qx := BX4.three (Below.refl _ _)
  have qr := BR5.three (Below.refl _ _)
  have f0 := BR5.frozen 0
  have f1 := BR5.frozen 1
  have f2 := BR5.frozen 2
  have BR4 := Lib.hid BR5
  have HBX := Lib.hid BX4
  have HS := Lib.hid HS
  have HG4 := Lib.hid hg4
  clear BR5 BX4 hg4
  go_wp2
  have BN : Blk (((W4.setCell ⟨r, 0, none⟩ (.int .i64 x.k)).setCell ⟨r, 1, none⟩ (.int .i64 x.n)).setCell ⟨r, 2, none⟩ (.string ⟨x.s.toArray⟩)) r 57 #[.int .i64 x.k, .int .i64 x.n, .string ⟨x.s.toArray⟩] := by simpa using ((BR4.out.set_ 0 (.int .i64 x.k)).set_ 1 (.int .i64 x.n)).set_ 2 (.string ⟨x.s.toArray⟩)
  have hg5 : W4.grownBy (((W4.setCell ⟨r, 0, none⟩ (.int .i64 x.k)).setCell ⟨r, 1, none⟩ (.int .i64 x.n)).setCell ⟨r, 2, none⟩ (.string ⟨x.s.toArray⟩)) (some r) := ((grown_set _ ⟨r, 0, none⟩ _).trans (grown_set _ ⟨r, 1, none⟩ _)).trans (grown_set _ ⟨r, 2, none⟩ _)
  generalize hw5 : (((W4.setCell ⟨r, 0, none⟩ (.int .i64 x.k)).setCell ⟨r, 1, none⟩ (.int .i64 x.n)).setCell ⟨r, 2, none⟩ (.string ⟨x.s.toArray⟩)) = W5 at *
  clear hw5
  have z2 := BN.three (Below.refl _ _)
  exact bodyPost_ret (v := wordV x) (by simp [results, Tryz.results13, go_sem, z2, wordV]; try rfl) rfl ⟨rfl, by rw [hn.out]; exact Pr.grown ⟨_, _, _, HS.out⟩ hg5 (by simp; omega) (by simp; omega), grown_new ((grown_of HB3.out _).trans HG4.out) hg5 HR.out⟩
end Go.Proofs.YtfnceamkephpjaaGreat.pg

/- The program's parser: is, must, end. Printed by gen4.py. -/
namespace Go.Proofs.YtfnceamkephpjaaGreat.pg
open Go.ChangeShapes Go.WideShapes Go.ChangeAt Go.RowKit Go.Proofs.YtfnceamkephpjaaGreat.lib Go.Proofs.YtfnceamkephpjaaGreat.lx
set_option linter.unusedVariables false

set_option maxRecDepth 100000 in
theorem pis_ (s : List UInt8) {w : World} {g : Nat} {W : List Wd} {b : Nat} {p : Pp} (h : Pr w g W b p) :
    Calls Tryz.prog 44 #[.pointer (some ⟨g, 0, none⟩), .string ⟨s.toArray⟩] w fun e w' => e = .returned (.bool (okIs W s p)) ∧ Pr w' g W b (isP W s p) ∧ w.grownBy w' (some g) := by
  have H := Lib.hid h
  obtain ⟨x, hx⟩ : ∃ x, cur W p = x := ⟨_, rfl⟩
  obtain ⟨okb, hok⟩ : ∃ o, okIs W s p = o := ⟨_, rfl⟩
  have HQ := Lib.hid (show okb = ((decide (x.k = 1) || decide (x.k = 4)) && (x.s == s)) by rw [← hok, ← hx]; rfl)
  have HI := Lib.hid (fun (e : okb = false) => show p = isP W s p by unfold isP; rw [hok, e, if_neg (by simp)])
  have HJ := Lib.hid (fun (e : okb = true) => show nextP W p = isP W s p by
    have hk := okIs_k (W := W) (s := s) (p := p) (by rw [hok, e])
    unfold isP nextP
    rw [hok, e, if_pos rfl, if_neg hk])
  have HX := Lib.hid hx
  rw [hok]
  clear h hx hok
  go_enter Tryz.func44, Tryz.ntmps44
  go_wp2_with fail
  refine (pword_ H.out).mono ?_
  rintro e w2 ⟨rfl, hb2⟩
  rw [HX.out]
  unfold wordV
  go_upto_region 2 with fail
  obtain ⟨W3, hW_, hb3, BX⟩ : ∃ W_, W_ = (w2.alloc (.cells #[.int .i64 x.k, .int .i64 x.n, .string ⟨x.s.toArray⟩] 57)) ∧ Below w2.heap.size w2 W_ ∧ Blk W_ (w2.heap.size) 57 #[.int .i64 x.k, .int .i64 x.n, .string ⟨x.s.toArray⟩] :=
    ⟨_, rfl, ((Below.refl _ _).alloc (Nat.le_refl _) _), (blk_new_at w2 (w2.heap.size) _ _ (by simp))⟩
  rw [← hW_]
  clear hW_
  have HB3 := Lib.hid (show Below w.heap.size w W3 from bch0 hb2 hb3)
  have H3 := Lib.hid (H.out.ext HB3.out)
  obtain ⟨v, hv⟩ : ∃ v, w2.heap.size = v := ⟨_, rfl⟩
  rw [hv] at BX ⊢
  have qx := BX.three (Below.refl _ _)
  clear hb2 hb3 H hv BX
  by_cases hk : x.k = 1 ∨ x.k = 4
  case neg =>
    have k1 : (x.k != 1) = true := by simp; omega
    have k4 : (x.k != 4) = true := by simp; omega
    obtain rfl : okb = false := by rw [HQ.out, decide_eq_false (show ¬ x.k = 1 by omega), decide_eq_false (show ¬ x.k = 4 by omega)]; simp
    clear hk
    go_wp2
    go_ret
    exact ⟨rfl, (HI.out (by first | rfl | trivial)) ▸ H3.out, grown_of HB3.out _⟩
  have hk0 : (decide (x.k = 1) || decide (x.k = 4)) = true := by simpa using hk
  have hcs : ((x.k != 1) = false) ∨ ((x.k != 1) = true ∧ (x.k != 4) = false) := by
    rcases hk with h | h
    · exact .inl (by simp [h])
    · exact .inr (by simp [h])
  by_cases hs : x.s = s
  case neg =>
    obtain rfl : okb = false := by rw [HQ.out, hk0]; simpa using hs
    have hst : (x.s.toArray == s.toArray) = false := by simpa using hs
    have hsl : (x.s == s) = false := by simpa using hs
    clear hs hk hk0
    rcases hcs with k1 | ⟨k1, k4⟩
    all_goals
      go_wp2
      go_ret
      exact ⟨rfl, (HI.out (by first | rfl | trivial)) ▸ H3.out, grown_of HB3.out _⟩
  obtain rfl : okb = true := by rw [HQ.out, hk0, hs]; simp
  subst hs
  have HC := Lib.hid (pnext_ H3.out)
  clear hk hk0
  rcases hcs with k1 | ⟨k1, k4⟩
  all_goals
    go_wp2_with fail
    refine (HC.out).mono ?_
    rintro e w4 ⟨rfl, h4, hg4⟩
    have H4 := Lib.hid h4
    have HG4 := Lib.hid hg4
    clear h4 hg4 qx
    unfold wordV
    go_wp2
    go_ret
    exact ⟨rfl, (HJ.out (by first | rfl | trivial)) ▸ H4.out, (grown_of HB3.out _).trans HG4.out⟩
/-- words that must stand there, one by one -/
def mustL (W : List Wd) : List (List UInt8) → Pp → Pp
  | [], p => p
  | s :: r, p => mustL W r (mustP W s p)
theorem mustL_snoc (W : List Wd) (x : List UInt8) : ∀ (ss : List (List UInt8)) (p : Pp), mustL W (ss ++ [x]) p = mustP W x (mustL W ss p)
  | [], p => rfl
  | s :: r, p => mustL_snoc W x r (mustP W s p)
set_option maxRecDepth 100000 in
theorem pmust_ (ss : List (List UInt8)) (A : Option Addr) (c : Nat) {w : World} {g : Nat} {W : List Wd} {b : Nat} {p : Pp} (h : Pr w g W b p) (hr : Row w 0 A ss.length c (ss.map fun s => .string ⟨s.toArray⟩)) (hne : ∀ b' off, A = some ⟨b', off, none⟩ → some b' ≠ some g) (hk : ss.length ≤ 1000) :
    Calls Tryz.prog 45 #[.pointer (some ⟨g, 0, none⟩), .slice A ss.length c] w fun e w' => e = .returned (.tuple #[]) ∧ Pr w' g W b (mustL W ss p) ∧ w.grownBy w' (some g) := by
  have H := Lib.hid h
  obtain ⟨m, hm⟩ : ∃ m, ss.length = m := ⟨_, rfl⟩
  have HR := Lib.hid hr
  have HM := Lib.hid hm
  rw [hm]
  rw [hm] at hk
  clear h hr hm
  go_enter Tryz.func45, Tryz.ntmps45
  go_wp2_with fail
  go_loopw [8] (fun i wr => ∃ k : Nat, i = .int .i64 k ∧ k ≤ m ∧ Pr wr g W b (mustL W (ss.take k) p) ∧ w.grownBy wr (some g)) (fun i _ => m - (intOf i).toNat)
  case atStart => exact ⟨0, rfl, Nat.zero_le _, H.out, World.grownBy.refl _ _⟩
  case round =>
    obtain ⟨k, rfl, hkk, hp, hg⟩ := hrel
    rcases Nat.lt_or_ge k m with hlt | hge
    case inr =>
      have hd : decide ((k : Int) < (m : Int)) = false := by simp; omega
      have hd2 : decide (k < m) = false := by simp; omega
      have e : ss.take k = ss := List.take_of_length_le (by have := HM.out; omega)
      rw [e] at hp
      have HP := Lib.hid hp
      have HG := Lib.hid hg
      clear hp hg hge e
      go_wp2
      first | go_end0 | refine bodyPost_ret (results_none rfl _ _ _) rfl ?_
      exact ⟨rfl, HP.out, HG.out⟩
    have hd : decide ((k : Int) < (m : Int)) = true := by simp; omega
    have hd2 : decide (k < m) = true := by simp; omega
    have hkm : (k : Int) < (m : Int) := by omega
    obtain ⟨s, hs⟩ : ∃ s, ss[k]? = some s := ⟨_, List.getElem?_eq_getElem (by have := HM.out; omega)⟩
    obtain ⟨b', off, rfl, _, _, hb'⟩ := HR.out.some_ (by have := HM.out; omega)
    have hrow := HR.out.grown hg hne
    have hc := hrow.at_ (i := k) (u := .string ⟨s.toArray⟩) (by rw [List.getElem?_map, hs]; rfl)
    have ht : mustL W (ss.take (k + 1)) p = mustP W s (mustL W (ss.take k) p) := by rw [List.take_add_one, hs, Option.toList_some, mustL_snoc]
    obtain ⟨q, hq⟩ : ∃ q, mustL W (ss.take k) p = q := ⟨_, rfl⟩
    rw [hq] at hp ht
    have HT := Lib.hid (show mustL W (ss.take (k + 1)) p = if okIs W s q = true then stepP q else failP 6 q from ht)
    have HI := Lib.hid (pis_ s hp)
    have HI := HI.out
    unfold isP at HI
    obtain ⟨okb, hok⟩ : ∃ b, okIs W s q = b := ⟨_, rfl⟩
    have HT := HT.out
    rw [hok] at HI HT
    have HII := Lib.hid HI
    have HTT := Lib.hid HT
    have HG := Lib.hid hg
    clear HI HT hok hp hg hrow ht hq hs
    go_wp2_with fail
    refine (HII.out).mono ?_
    rintro e w2 ⟨rfl, h2, hg2⟩
    clear hc
    have HG2 := Lib.hid (HG.out.trans hg2)
    clear hg2
    cases okb with
    | true =>
      have H3 := Lib.hid (show Pr w2 g W b (mustL W (ss.take (k + 1)) p) by rw [HTT.out, if_pos rfl]; exact h2)
      clear h2
      go_wp2
      go_roundw
      case rel => exact ⟨k + 1, by go_num, by omega, H3.out, HG2.out⟩
      case measure => simp [intOf]; omega
    | false =>
      have h2 : Pr w2 g W b q := h2
      have HF := Lib.hid (pfail_ 6 h2)
      clear h2
      go_wp2_with fail
      refine (HF.out).mono ?_
      rintro e w3 ⟨rfl, h3, hg3⟩
      have H3 := Lib.hid (show Pr w3 g W b (mustL W (ss.take (k + 1)) p) by rw [HTT.out, if_neg (by simp)]; exact h3)
      have HG3 := Lib.hid (HG2.out.trans hg3)
      clear h3 hg3
      go_wp2
      go_roundw
      case rel => exact ⟨k + 1, by go_num, by omega, H3.out, HG3.out⟩
      case measure => simp [intOf]; omega
set_option maxRecDepth 100000 in
theorem pend_ {w : World} {g : Nat} {W : List Wd} {b : Nat} {p : Pp} (h : Pr w g W b p) :
    Calls Tryz.prog 14 #[.pointer (some ⟨g, 0, none⟩)] w fun e w' => e = .returned (.tuple #[]) ∧ Pr w' g W b (endP W p) ∧ w.grownBy w' (some g) := by
  have H := Lib.hid h
  obtain ⟨x, hx⟩ : ∃ x, cur W p = x := ⟨_, rfl⟩
  have fe0 := wfield0
  have HE := Lib.hid (show endP W p = if x.k = 0 then p else failP 6 p by rw [← hx]; rfl)
  have HX := Lib.hid hx
  clear h hx
  go_enter Tryz.func14, Tryz.ntmps14
  go_wp2_with fail
  refine (pword_ H.out).mono ?_
  rintro e w2 ⟨rfl, hb2⟩
  rw [HX.out]
  unfold wordV
  have H2 := Lib.hid (H.out.ext hb2)
  have HB2 := Lib.hid hb2
  clear hb2 H
  by_cases hk : x.k = 0
  case pos =>
    have hd : (x.k != 0) = false := by simpa using hk
    have HE := Lib.hid (show endP W p = p by rw [HE.out, if_pos hk])
    clear hk
    go_wp2
    first | go_end0 | refine bodyPost_ret (results_none rfl _ _ _) rfl ?_
    exact ⟨rfl, by rw [HE.out]; exact H2.out, grown_of HB2.out _⟩
  have hd : (x.k != 0) = true := by simpa using hk
  have HE := Lib.hid (show endP W p = failP 6 p by rw [HE.out, if_neg hk])
  have HF := Lib.hid (pfail_ 6 H2.out)
  clear hk
  go_wp2_with fail
  refine (HF.out).mono ?_
  rintro e w3 ⟨rfl, h3, hg3⟩
  have H3 := Lib.hid h3
  have HG3 := Lib.hid hg3
  clear h3 hg3
  go_wp2
  first | go_end0 | refine bodyPost_ret (results_none rfl _ _ _) rfl ?_
  exact ⟨rfl, by rw [HE.out]; exact H3.out, (grown_of HB2.out _).trans HG3.out⟩
end Go.Proofs.YtfnceamkephpjaaGreat.pg
