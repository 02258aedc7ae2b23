/- The document's parser in memory; fail, is. Printed by geny.py. -/
import Derived.Test.YtfgmlgflfagdjaaY1
import Derived.Test.YtfgmlgflfagdjaaR4
import Derived.Test.YtfgmlgflfagdjaaE8
import Derived.Test.YtfgmlgflfagdjaaRow
namespace Go.Proofs.Ytfgmlgflfagdjaa.ps
open Go.ChangeShapes Go.WideShapes Go.ChangeAt Go.RowKit Go.Proofs.Ytfgmlgflfagdjaa.lib Go.Proofs.Ytfgmlgflfagdjaa.val Go.Proofs.Ytfgmlgflfagdjaa.lx Go.Proofs.Ytfgmlgflfagdjaa.ev
set_option linter.unusedVariables false

def encNd (n : Nd) : List Value := [.int .i64 n.op, .int .i64 n.a, .int .i64 n.b, .int .i64 n.v.k, .int .i64 n.v.n, .string n.v.s, .string n.s]
theorem kNd (n : Nd) : (encNd n).length = 7 := rfl
/-- a parser in the block g: its words lie in a row ahead of it, its nodes in a row of its own behind it -/
structure PrB (w0 w : World) (g : Nat) (W : List Wd) (Aw : Option Addr) (cw : Nat) (p : Ps) (Ae : Option Addr) (ce : Nat) : Prop where
  below : Below g w0 w
  hg : w0.heap.size ≤ g
  row : Row w0 0 Aw W.length cw (cellsW W)
  blk : Blk w g 72 #[.slice Aw W.length cw, .int .i64 (p.at_ : Int), .int .i64 p.err, .slice Ae p.e.length ce]
  own : w.ownsRow (g + 1) 36 7 (.slice Ae p.e.length ce) p.e.length (flatK encNd p.e)
  lt : p.at_ < W.length
  few : p.e.length ≤ 60
  wok : WOk W
  wl : W.length ≤ 1000
  ws : ∀ x ∈ W, x.s.length ≤ 1000
def PrA (w0 w : World) (g : Nat) (W : List Wd) (Aw : Option Addr) (cw : Nat) (p : Ps) : Prop := ∃ Ae ce, PrB w0 w g W Aw cw p Ae ce
theorem four {w : World} {g : Nat} {t : TypeId} {x0 x1 x2 x3 : Value} (h : Blk w g t #[x0, x1, x2, x3]) {w' : World} (hb : Below w.heap.size w w') :
    w'.cell? ⟨g, 0, none⟩ = some x0 ∧ w'.cell? ⟨g, 1, none⟩ = some x1 ∧ w'.cell? ⟨g, 2, none⟩ = some x2 ∧ w'.cell? ⟨g, 3, none⟩ = some x3 :=
  ⟨(h.ext hb).cell 0, (h.ext hb).cell 1, (h.ext hb).cell 2, (h.ext hb).cell 3⟩
section
variable {w0 w w' : World} {g : Nat} {W : List Wd} {Aw : Option Addr} {cw : Nat} {p : Ps} {Ae : Option Addr} {ce : Nat}
theorem PrB.ext (h : PrB w0 w g W Aw cw p Ae ce) (hb : Below w.heap.size w w') : PrB w0 w' g W Aw cw p Ae ce :=
  ⟨Below.trans h.below (Below.mono hb (Nat.le_of_lt h.blk.lt)), h.hg, h.row, h.blk.ext hb, lib.own_ext h.own hb, h.lt, h.few, h.wok, h.wl, h.ws⟩
theorem PrB.set (h : PrB w0 w g W Aw cw p Ae ce) (i : Nat) (u : Value) (q : Ps) (he : q.e = p.e) (hl : q.at_ < W.length) (hc : (#[.slice Aw W.length cw, .int .i64 (p.at_ : Int), .int .i64 p.err, .slice Ae p.e.length ce] : Array Value).setIfInBounds i u = #[.slice Aw W.length cw, .int .i64 (q.at_ : Int), .int .i64 q.err, .slice Ae q.e.length ce]) : PrB w0 (w.setCell ⟨g, i, none⟩ u) g W Aw cw q Ae ce := by
  have hb := h.blk.set_ i u
  rw [hc] at hb
  have ho := lx.own_far h.own h.blk (by decide) i u
  rw [← he] at ho
  exact ⟨h.below.setCell (Nat.le_refl _) u, h.hg, h.row, hb, ho, hl, by rw [he]; exact h.few, h.wok, h.wl, h.ws⟩
theorem PrB.err (h : PrB w0 w g W Aw cw p Ae ce) (x : Int) : PrB w0 (w.setCell ⟨g, 2, none⟩ (.int .i64 x)) g W Aw cw ⟨p.at_, x, p.e⟩ Ae ce := h.set 2 _ _ rfl h.lt rfl
theorem PrB.step (h : PrB w0 w g W Aw cw p Ae ce) (hk : (wAt W p).k ≠ 0) : PrB w0 (w.setCell ⟨g, 1, none⟩ (.int .i64 ((p.at_ : Int) + 1))) g W Aw cw (stepP p) Ae ce := h.set 1 _ _ rfl (stepP_lt h.wok hk) rfl
/-- the word that comes next -/
theorem PrB.word (h : PrB w0 w g W Aw cw p Ae ce) : ∃ b o, Aw = some ⟨b, o, none⟩ ∧ b < w.heap.size ∧ (wAt W p) ∈ W ∧ ∀ w' : World, Below w.heap.size w w' → w'.cell? ⟨b, o + p.at_ * 3, none⟩ = some (.int .i64 (wAt W p).k) ∧ w'.cell? ⟨b, o + p.at_ * 3 + 1, none⟩ = some (.int .i64 (wAt W p).n) ∧ w'.cell? ⟨b, o + p.at_ * 3 + 2, none⟩ = some (.string ⟨(wAt W p).s.toArray⟩) := by
  have hr := h.row.below h.below h.hg
  obtain ⟨b, o, e, _, _, hb⟩ := hr.some_ (by have := h.lt; omega)
  subst e
  obtain ⟨x, hx⟩ : ∃ x, W[p.at_]? = some x := ⟨_, List.getElem?_eq_getElem h.lt⟩
  have hw : wAt W p = x := by unfold wAt; rw [hx]; rfl
  rw [hw]
  refine ⟨b, o, rfl, hb, List.mem_of_getElem? hx, fun w' hb' => ?_⟩
  have key : ∀ (j : Nat) u, ([.int .i64 x.k, .int .i64 x.n, .string ⟨x.s.toArray⟩] : List Value)[j]? = some u → w'.cell? ⟨b, o + p.at_ * 3 + j, none⟩ = some u := fun j u hu => by
    rw [Nat.add_assoc]
    exact (hr.ext hb').at_ (flatK_at (fun x : Wd => [.int .i64 x.k, .int .i64 x.n, .string ⟨x.s.toArray⟩]) 3 (fun _ => rfl) W p.at_ x j u hx hu)
  exact ⟨key 0 _ rfl, key 1 _ rfl, key 2 _ rfl⟩
end
set_option maxRecDepth 1000000 in
set_option maxHeartbeats 4000000 in
theorem pfail_ (x : Int) {w0 w : World} {g : Nat} {W : List Wd} {Aw : Option Addr} {cw : Nat} {p : Ps} {Ae : Option Addr} {ce : Nat} (h : PrB w0 w g W Aw cw p Ae ce) :
    Calls Try.prog 33 #[.pointer (some ⟨g, 0, none⟩), .int .i64 x] w fun e w' => e = .returned (.tuple #[]) ∧ PrB w0 w' g W Aw cw (failP x p) Ae ce := by
  have H := Lib.hid h
  have q := four h.blk (Below.refl _ _)
  have f2 := h.blk.frozen 2
  clear h
  unfold failP
  go_enter Try.func33, Try.ntmps33
  by_cases he : p.err = 0
  · have hd : (p.err == 0) = true := by simpa using he
    rw [if_pos he]
    clear he
    go_wp2
    first | go_end0 | refine bodyPost_ret (results_none rfl _ _ _) rfl ?_
    exact ⟨rfl, H.out.err x⟩
  · have hd : (p.err == 0) = false := by simpa using he
    rw [if_neg he]
    clear he
    go_wp2
    first | go_end0 | refine bodyPost_ret (results_none rfl _ _ _) rfl ?_
    exact ⟨rfl, H.out⟩
set_option maxRecDepth 1000000 in
set_option maxHeartbeats 4000000 in
theorem pis2_ (s : List UInt8) {w0 w : World} {g : Nat} {W : List Wd} {Aw : Option Addr} {cw : Nat} {p : Ps} {Ae : Option Addr} {ce : Nat} (h : PrB w0 w g W Aw cw p Ae ce) :
    Calls Try.prog 64 #[.pointer (some ⟨g, 0, none⟩), .string ⟨s.toArray⟩] w fun e w' => e = .returned (.bool (okIs W s p)) ∧ PrB w0 w' g W Aw cw (if okIs W s p = true then stepP p else p) Ae ce ∧ ∀ k, k < w.heap.size → k ≠ g → w'.heap[k]? = w.heap[k]? := by
  have H := Lib.hid h
  have hb := h.blk
  have hgl := h.blk.lt
  obtain ⟨bA, oA, rfl, hbl, hmem, hcells⟩ := h.word
  have hlt := h.lt
  have hwl := h.wl
  have c1 : (p.at_ : Int) < (W.length : Int) := by omega
  obtain ⟨x, hx⟩ : ∃ x, wAt W p = x := ⟨_, rfl⟩
  rw [hx] at hcells
  have HX := Lib.hid hx
  obtain ⟨okb, hok⟩ : ∃ b, okIs W s p = b := ⟨_, rfl⟩
  rw [hok]
  have HOK := Lib.hid hok
  clear h hx hmem hok
  go_enter Try.func64, Try.ntmps64
  go_wp2_with fail
  have D := fun w' (h : Below w.heap.size w.drew w') => four hb (Below.trans (Below.refl _ _).drew h)
  have DW := fun w' (h : Below w.heap.size w.drew w') => hcells w' (Below.trans (Below.refl _ _).drew h)
  refine wp_region_one [(0, true), (1, true), (2, true), (3, true), (4, true), (5, true), (6, true), (7, true), (8, true), (9, true), (10, false), (11, false)] (by kernel_rfl) (by kernel_rfl) (by kernel_rfl) (by decide) ?_
  repeat ((with_reducible show wpPerm _ _ _ _ ((_, true) :: _) _ _); (first | (refine wpPerm_on (v := ?_) rfl rfl (wanted_free rfl) (fun w' hS => ?_) ?_; rotate_left; (focus (go_simp; (try with_reducible rfl); done)); try simp only [List.setIfInBounds_toArray, List.set_cons_zero, List.set_cons_succ]) | (refine wpPerm_on (v := ?_) rfl rfl (wanted_yes rfl rfl rfl) (fun w' hS => ?_) ?_; rotate_left; (focus (go_simp; (try with_reducible rfl); done)); try simp only [List.setIfInBounds_toArray, List.set_cons_zero, List.set_cons_succ]) | (refine wpPerm_off rfl rfl (wanted_no rfl rfl rfl) ?_; try simp only [List.setIfInBounds_toArray, List.set_cons_zero, List.set_cons_succ]) | (refine wpPerm_off rfl rfl (wanted_undef rfl rfl rfl) ?_; try simp only [List.setIfInBounds_toArray, List.set_cons_zero, List.set_cons_succ])))
  clear D DW
  refine wpPerm_do rfl (wanted_free rfl) (fun K hK => ?_); go_simp
  have hba : Below w.heap.size w.drew (w.drew.alloc (.cells #[.int .i64 0, .int .i64 0, .string ⟨#[]⟩] 74)) := Below.alloc (Below.refl w.heap.size w.drew) (Nat.le_refl w.drew.heap.size) _
  refine hK.out _ _ hba ?_
  clear hK K
  refine wpPerm_do rfl (wanted_free rfl) (fun K hK => ?_); go_simp
  obtain ⟨wE, hwE, BE, hbe⟩ : ∃ wE, wE = (w.alloc (.cells #[.int .i64 x.k, .int .i64 x.n, .string ⟨x.s.toArray⟩] 74)).drew ∧ Blk wE w.heap.size 74 #[.int .i64 x.k, .int .i64 x.n, .string ⟨x.s.toArray⟩] ∧ Below w.heap.size w.drew wE :=
    ⟨_, rfl, Blk.new w _ _, Below.alloc (Below.refl w.heap.size w.drew) (Nat.le_refl w.drew.heap.size) _⟩
  rw [← hwE]
  clear hwE hba
  refine hK.out _ _ hbe ?_
  clear hK K
  refine wpPerm_done ?_
  have hbE := Below.trans ((Below.refl w.heap.size w).drew) hbe
  have HE := Lib.hid (H.out.ext hbE)
  have HF := Lib.hid (fun k (hk : k < w.heap.size) (_ : k ≠ g) => hbE.block k hk)
  clear hbe H
  obtain ⟨ge, hge⟩ : ∃ ge, w.heap.size = ge := ⟨_, rfl⟩
  rw [hge] at BE ⊢
  clear hge hb hcells hbE
  have qe := BE.three (Below.refl _ _)
  have hb := HE.out.blk
  have q := four hb (Below.refl _ _)
  have f1 := hb.frozen 1
  clear hb
  have HQ := Lib.hid (show okIs W s p = (decide (p.err = 0) && ((decide (x.k = 1) || decide (x.k = 4)) && (x.s == s))) by rw [← HX.out]; rfl)
  by_cases he : p.err = 0
  case neg =>
    have hd : (p.err != 0) = true := by simpa using he
    obtain rfl : okb = false := by rw [← HOK.out, HQ.out, decide_eq_false he]; rfl
    clear he
    go_wp2
    go_ret
    exact ⟨rfl, HE.out, HF.out⟩
  have hd : (p.err != 0) = false := by simpa using he
  by_cases hk : x.k = 1 ∨ x.k = 4
  case neg =>
    have k1 : (x.k != 1) = true := by simp; omega
    have k4 : (x.k != 4) = true := by simp; omega
    obtain rfl : okb = false := by rw [← HOK.out, HQ.out, decide_eq_false (show ¬ x.k = 1 by omega), decide_eq_false (show ¬ x.k = 4 by omega)]; simp
    clear he hk
    go_wp2
    go_ret
    exact ⟨rfl, HE.out, HF.out⟩
  have hk0 : (decide (x.k = 1) || decide (x.k = 4)) = true := by simpa using hk
  have hkk : (wAt W p).k ≠ 0 := by rw [HX.out]; omega
  have HKK := Lib.hid hkk
  have hcs : ((x.k != 1) = false) ∨ ((x.k != 1) = true ∧ (x.k != 4) = false) := by
    rcases hk with h | h
    · exact .inl (by simp [h])
    · exact .inr (by simp [h])
  by_cases hs : x.s = s
  · obtain rfl : okb = true := by rw [← HOK.out, HQ.out, hk0, hs, decide_eq_true he]; simp
    subst hs
    clear he hk hk0 hkk
    rcases hcs with k1 | ⟨k1, k4⟩
    all_goals
      go_wp2
      go_ret
      exact ⟨rfl, HE.out.step HKK.out, fun k hk hne => (Below.heap_setCell _ ⟨g, 1, none⟩ _ k hne).trans (HF.out k hk hne)⟩
  obtain rfl : okb = false := by rw [← HOK.out, HQ.out, hk0, decide_eq_true he]; simpa using hs
  have hst : (x.s.toArray == s.toArray) = false := by simpa using hs
  have hsl : (x.s == s) = false := by simpa using hs
  clear he hk hk0 hkk
  rcases hcs with k1 | ⟨k1, k4⟩
  all_goals
    go_wp2
    go_ret
    exact ⟨rfl, HE.out, HF.out⟩
theorem pis_ (s : List UInt8) {w0 w : World} {g : Nat} {W : List Wd} {Aw : Option Addr} {cw : Nat} {p : Ps} {Ae : Option Addr} {ce : Nat} (h : PrB w0 w g W Aw cw p Ae ce) :
    Calls Try.prog 64 #[.pointer (some ⟨g, 0, none⟩), .string ⟨s.toArray⟩] w fun e w' => e = .returned (.bool (okIs W s p)) ∧ PrB w0 w' g W Aw cw (if okIs W s p = true then stepP p else p) Ae ce :=
  (pis2_ s h).mono (fun e w' h => ⟨h.1, h.2.1⟩)
end Go.Proofs.Ytfgmlgflfagdjaa.ps
