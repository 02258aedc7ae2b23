/- The document's parser in memory; fail, is. Printed by geny.py. -/
import Derived.Test.YtfgmlgflfagdjaaY1
import Derived.Test.YtfgmlgflfagdjaaMR2
import Derived.Test.YtfgmlgflfagdjaaE8
import Derived.Test.YtfgmlgflfagdjaaRow
import Derived.Test.YtfgmlgflfagdjaaT
import Derived.Deep.CutRange
namespace Go.Proofs.Ytfgmlgflfagdjaa.ps
open Go.ChangeShapes Go.WideShapes Go.ChangeAt Go.RowKit Go.Proofs.Ytfgmlgflfagdjaa.lib Go.Proofs.Ytfgmlgflfagdjaa.val Go.Proofs.Ytfgmlgflfagdjaa.lx Go.Proofs.Ytfgmlgflfagdjaa.ev
set_option linter.unusedVariables false

def encNd (n : Nd) : List Value := [.int .i64 n.op, .int .i64 n.a, .int .i64 n.b, .int .i64 n.v.k, .int .i64 n.v.n, .string n.v.s, .string n.s]
theorem kNd (n : Nd) : (encNd n).length = 7 := rfl
/-- a parser in the block g: its words lie in a row ahead of it, its nodes in a row of its own behind it -/
structure PrB (w0 w : World) (g : Nat) (W : List Wd) (Aw : Option Addr) (cw : Nat) (p : Ps) (Ae : Option Addr) (ce : Nat) : Prop where
  below : Below g w0 w
  hg : w0.heap.size ≤ g
  row : Row w0 0 Aw W.length cw (cellsW W)
  blk : Blk w g 72 #[.slice Aw W.length cw, .int .i64 (p.at_ : Int), .int .i64 p.err, .slice Ae p.e.length ce]
  own : w.ownsRow (g + 1) 36 7 (.slice Ae p.e.length ce) p.e.length (flatK encNd p.e)
  lt : p.at_ < W.length
  few : p.e.length ≤ 60
  wok : WOk W
  wl : W.length ≤ 1000
  ws : ∀ x ∈ W, x.s.length ≤ 1000
def PrA (w0 w : World) (g : Nat) (W : List Wd) (Aw : Option Addr) (cw : Nat) (p : Ps) : Prop := ∃ Ae ce, PrB w0 w g W Aw cw p Ae ce
theorem four {w : World} {g : Nat} {t : TypeId} {x0 x1 x2 x3 : Value} (h : Blk w g t #[x0, x1, x2, x3]) {w' : World} (hb : Below w.heap.size w w') :
    w'.cell? ⟨g, 0, none⟩ = some x0 ∧ w'.cell? ⟨g, 1, none⟩ = some x1 ∧ w'.cell? ⟨g, 2, none⟩ = some x2 ∧ w'.cell? ⟨g, 3, none⟩ = some x3 :=
  ⟨(h.ext hb).cell 0, (h.ext hb).cell 1, (h.ext hb).cell 2, (h.ext hb).cell 3⟩
section
variable {w0 w w' : World} {g : Nat} {W : List Wd} {Aw : Option Addr} {cw : Nat} {p : Ps} {Ae : Option Addr} {ce : Nat}
theorem PrB.ext (h : PrB w0 w g W Aw cw p Ae ce) (hb : Below w.heap.size w w') : PrB w0 w' g W Aw cw p Ae ce :=
  ⟨Below.trans h.below (Below.mono hb (Nat.le_of_lt h.blk.lt)), h.hg, h.row, h.blk.ext hb, lib.own_ext h.own hb, h.lt, h.few, h.wok, h.wl, h.ws⟩
theorem PrB.set (h : PrB w0 w g W Aw cw p Ae ce) (i : Nat) (u : Value) (q : Ps) (he : q.e = p.e) (hl : q.at_ < W.length) (hc : (#[.slice Aw W.length cw, .int .i64 (p.at_ : Int), .int .i64 p.err, .slice Ae p.e.length ce] : Array Value).setIfInBounds i u = #[.slice Aw W.length cw, .int .i64 (q.at_ : Int), .int .i64 q.err, .slice Ae q.e.length ce]) : PrB w0 (w.setCell ⟨g, i, none⟩ u) g W Aw cw q Ae ce := by
  have hb := h.blk.set_ i u
  rw [hc] at hb
  have ho := lx.own_far h.own h.blk (by decide) i u
  rw [← he] at ho
  exact ⟨h.below.setCell (Nat.le_refl _) u, h.hg, h.row, hb, ho, hl, by rw [he]; exact h.few, h.wok, h.wl, h.ws⟩
theorem PrB.err (h : PrB w0 w g W Aw cw p Ae ce) (x : Int) : PrB w0 (w.setCell ⟨g, 2, none⟩ (.int .i64 x)) g W Aw cw ⟨p.at_, x, p.e⟩ Ae ce := h.set 2 _ _ rfl h.lt rfl
theorem PrB.step (h : PrB w0 w g W Aw cw p Ae ce) (hk : (wAt W p).k ≠ 0) : PrB w0 (w.setCell ⟨g, 1, none⟩ (.int .i64 ((p.at_ : Int) + 1))) g W Aw cw (stepP p) Ae ce := h.set 1 _ _ rfl (stepP_lt h.wok hk) rfl
/-- the word that comes next -/
theorem PrB.word (h : PrB w0 w g W Aw cw p Ae ce) : ∃ b o, Aw = some ⟨b, o, none⟩ ∧ b < w.heap.size ∧ (wAt W p) ∈ W ∧ ∀ w' : World, Below w.heap.size w w' → w'.cell? ⟨b, o + p.at_ * 3, none⟩ = some (.int .i64 (wAt W p).k) ∧ w'.cell? ⟨b, o + p.at_ * 3 + 1, none⟩ = some (.int .i64 (wAt W p).n) ∧ w'.cell? ⟨b, o + p.at_ * 3 + 2, none⟩ = some (.string ⟨(wAt W p).s.toArray⟩) := by
  have hr := h.row.below h.below h.hg
  obtain ⟨b, o, e, _, _, hb⟩ := hr.some_ (by have := h.lt; omega)
  subst e
  obtain ⟨x, hx⟩ : ∃ x, W[p.at_]? = some x := ⟨_, List.getElem?_eq_getElem h.lt⟩
  have hw : wAt W p = x := by unfold wAt; rw [hx]; rfl
  rw [hw]
  refine ⟨b, o, rfl, hb, List.mem_of_getElem? hx, fun w' hb' => ?_⟩
  have key : ∀ (j : Nat) u, ([.int .i64 x.k, .int .i64 x.n, .string ⟨x.s.toArray⟩] : List Value)[j]? = some u → w'.cell? ⟨b, o + p.at_ * 3 + j, none⟩ = some u := fun j u hu => by
    rw [Nat.add_assoc]
    exact (hr.ext hb').at_ (flatK_at (fun x : Wd => [.int .i64 x.k, .int .i64 x.n, .string ⟨x.s.toArray⟩]) 3 (fun _ => rfl) W p.at_ x j u hx hu)
  exact ⟨key 0 _ rfl, key 1 _ rfl, key 2 _ rfl⟩
end
set_option maxRecDepth 1000000 in
set_option maxHeartbeats 4000000 in
theorem pfail_ (x : Int) {w0 w : World} {g : Nat} {W : List Wd} {Aw : Option Addr} {cw : Nat} {p : Ps} {Ae : Option Addr} {ce : Nat} (h : PrB w0 w g W Aw cw p Ae ce) :
    Calls Try.prog 33 #[.pointer (some ⟨g, 0, none⟩), .int .i64 x] w fun e w' => e = .returned (.tuple #[]) ∧ PrB w0 w' g W Aw cw (failP x p) Ae ce := by
  have H := Lib.hid h
  have q := four h.blk (Below.refl _ _)
  have f2 := h.blk.frozen 2
  clear h
  unfold failP
  go_enter Try.func33, Try.ntmps33
  by_cases he : p.err = 0
  · have hd : (p.err == 0) = true := by simpa using he
    rw [if_pos he]
    clear he
    go_wp2
    first | go_end0 | refine bodyPost_ret (results_none rfl _ _ _) rfl ?_
    exact ⟨rfl, H.out.err x⟩
  · have hd : (p.err == 0) = false := by simpa using he
    rw [if_neg he]
    clear he
    go_wp2
    first | go_end0 | refine bodyPost_ret (results_none rfl _ _ _) rfl ?_
    exact ⟨rfl, H.out⟩
set_option maxRecDepth 1000000 in
set_option maxHeartbeats 4000000 in
theorem pis2_ (s : List UInt8) {w0 w : World} {g : Nat} {W : List Wd} {Aw : Option Addr} {cw : Nat} {p : Ps} {Ae : Option Addr} {ce : Nat} (h : PrB w0 w g W Aw cw p Ae ce) :
    Calls Try.prog 64 #[.pointer (some ⟨g, 0, none⟩), .string ⟨s.toArray⟩] w fun e w' => e = .returned (.bool (okIs W s p)) ∧ PrB w0 w' g W Aw cw (if okIs W s p = true then stepP p else p) Ae ce ∧ ∀ k, k < w.heap.size → k ≠ g → w'.heap[k]? = w.heap[k]? := by
  have H := Lib.hid h
  have hb := h.blk
  have hgl := h.blk.lt
  obtain ⟨bA, oA, rfl, hbl, hmem, hcells⟩ := h.word
  have hlt := h.lt
  have hwl := h.wl
  have c1 : (p.at_ : Int) < (W.length : Int) := by omega
  obtain ⟨x, hx⟩ : ∃ x, wAt W p = x := ⟨_, rfl⟩
  rw [hx] at hcells
  have HX := Lib.hid hx
  obtain ⟨okb, hok⟩ : ∃ b, okIs W s p = b := ⟨_, rfl⟩
  rw [hok]
  have HOK := Lib.hid hok
  clear h hx hmem hok
  go_enter Try.func64, Try.ntmps64
  go_wp2_with fail
  have D := fun w' (h : Below w.heap.size w.drew w') => four hb (Below.trans (Below.refl _ _).drew h)
  have DW := fun w' (h : Below w.heap.size w.drew w') => hcells w' (Below.trans (Below.refl _ _).drew h)
  refine wp_region_one [(0, true), (1, true), (2, true), (3, true), (4, true), (5, true), (6, true), (7, true), (8, true), (9, true), (10, false), (11, false)] (by kernel_rfl) (by kernel_rfl) (by kernel_rfl) (by decide) ?_
  repeat ((with_reducible show wpPerm _ _ _ _ ((_, true) :: _) _ _); (first | (refine wpPerm_on (v := ?_) rfl rfl (wanted_free rfl) (fun w' hS => ?_) ?_; rotate_left; (focus (go_simp; (try with_reducible rfl); done)); try simp only [List.setIfInBounds_toArray, List.set_cons_zero, List.set_cons_succ]) | (refine wpPerm_on (v := ?_) rfl rfl (wanted_yes rfl rfl rfl) (fun w' hS => ?_) ?_; rotate_left; (focus (go_simp; (try with_reducible rfl); done)); try simp only [List.setIfInBounds_toArray, List.set_cons_zero, List.set_cons_succ]) | (refine wpPerm_off rfl rfl (wanted_no rfl rfl rfl) ?_; try simp only [List.setIfInBounds_toArray, List.set_cons_zero, List.set_cons_succ]) | (refine wpPerm_off rfl rfl (wanted_undef rfl rfl rfl) ?_; try simp only [List.setIfInBounds_toArray, List.set_cons_zero, List.set_cons_succ])))
  clear D DW
  refine wpPerm_do rfl (wanted_free rfl) (fun K hK => ?_); go_simp
  have hba : Below w.heap.size w.drew (w.drew.alloc (.cells #[.int .i64 0, .int .i64 0, .string ⟨#[]⟩] 74)) := Below.alloc (Below.refl w.heap.size w.drew) (Nat.le_refl w.drew.heap.size) _
  refine hK.out _ _ hba ?_
  clear hK K
  refine wpPerm_do rfl (wanted_free rfl) (fun K hK => ?_); go_simp
  obtain ⟨wE, hwE, BE, hbe⟩ : ∃ wE, wE = (w.alloc (.cells #[.int .i64 x.k, .int .i64 x.n, .string ⟨x.s.toArray⟩] 74)).drew ∧ Blk wE w.heap.size 74 #[.int .i64 x.k, .int .i64 x.n, .string ⟨x.s.toArray⟩] ∧ Below w.heap.size w.drew wE :=
    ⟨_, rfl, Blk.new w _ _, Below.alloc (Below.refl w.heap.size w.drew) (Nat.le_refl w.drew.heap.size) _⟩
  rw [← hwE]
  clear hwE hba
  refine hK.out _ _ hbe ?_
  clear hK K
  refine wpPerm_done ?_
  have hbE := Below.trans ((Below.refl w.heap.size w).drew) hbe
  have HE := Lib.hid (H.out.ext hbE)
  have HF := Lib.hid (fun k (hk : k < w.heap.size) (_ : k ≠ g) => hbE.block k hk)
  clear hbe H
  obtain ⟨ge, hge⟩ : ∃ ge, w.heap.size = ge := ⟨_, rfl⟩
  rw [hge] at BE ⊢
  clear hge hb hcells hbE
  have qe := BE.three (Below.refl _ _)
  have hb := HE.out.blk
  have q := four hb (Below.refl _ _)
  have f1 := hb.frozen 1
  clear hb
  have HQ := Lib.hid (show okIs W s p = (decide (p.err = 0) && ((decide (x.k = 1) || decide (x.k = 4)) && (x.s == s))) by rw [← HX.out]; rfl)
  by_cases he : p.err = 0
  case neg =>
    have hd : (p.err != 0) = true := by simpa using he
    obtain rfl : okb = false := by rw [← HOK.out, HQ.out, decide_eq_false he]; rfl
    clear he
    go_wp2
    go_ret
    exact ⟨rfl, HE.out, HF.out⟩
  have hd : (p.err != 0) = false := by simpa using he
  by_cases hk : x.k = 1 ∨ x.k = 4
  case neg =>
    have k1 : (x.k != 1) = true := by simp; omega
    have k4 : (x.k != 4) = true := by simp; omega
    obtain rfl : okb = false := by rw [← HOK.out, HQ.out, decide_eq_false (show ¬ x.k = 1 by omega), decide_eq_false (show ¬ x.k = 4 by omega)]; simp
    clear he hk
    go_wp2
    go_ret
    exact ⟨rfl, HE.out, HF.out⟩
  have hk0 : (decide (x.k = 1) || decide (x.k = 4)) = true := by simpa using hk
  have hkk : (wAt W p).k ≠ 0 := by rw [HX.out]; omega
  have HKK := Lib.hid hkk
  have hcs : ((x.k != 1) = false) ∨ ((x.k != 1) = true ∧ (x.k != 4) = false) := by
    rcases hk with h | h
    · exact .inl (by simp [h])
    · exact .inr (by simp [h])
  by_cases hs : x.s = s
  · obtain rfl : okb = true := by rw [← HOK.out, HQ.out, hk0, hs, decide_eq_true he]; simp
    subst hs
    clear he hk hk0 hkk
    rcases hcs with k1 | ⟨k1, k4⟩
    all_goals
      go_wp2
      go_ret
      exact ⟨rfl, HE.out.step HKK.out, fun k hk hne => (Below.heap_setCell _ ⟨g, 1, none⟩ _ k hne).trans (HF.out k hk hne)⟩
  obtain rfl : okb = false := by rw [← HOK.out, HQ.out, hk0, decide_eq_true he]; simpa using hs
  have hst : (x.s.toArray == s.toArray) = false := by simpa using hs
  have hsl : (x.s == s) = false := by simpa using hs
  clear he hk hk0 hkk
  rcases hcs with k1 | ⟨k1, k4⟩
  all_goals
    go_wp2
    go_ret
    exact ⟨rfl, HE.out, HF.out⟩
theorem pis_ (s : List UInt8) {w0 w : World} {g : Nat} {W : List Wd} {Aw : Option Addr} {cw : Nat} {p : Ps} {Ae : Option Addr} {ce : Nat} (h : PrB w0 w g W Aw cw p Ae ce) :
    Calls Try.prog 64 #[.pointer (some ⟨g, 0, none⟩), .string ⟨s.toArray⟩] w fun e w' => e = .returned (.bool (okIs W s p)) ∧ PrB w0 w' g W Aw cw (if okIs W s p = true then stepP p else p) Ae ce :=
  (pis2_ s h).mono (fun e w' h => ⟨h.1, h.2.1⟩)
end Go.Proofs.Ytfgmlgflfagdjaa.ps

/- The document's parser: must. Printed by geny.py. -/
namespace Go.Proofs.Ytfgmlgflfagdjaa.ps
open Go.ChangeShapes Go.WideShapes Go.ChangeAt Go.RowKit Go.Proofs.Ytfgmlgflfagdjaa.lib Go.Proofs.Ytfgmlgflfagdjaa.val Go.Proofs.Ytfgmlgflfagdjaa.lx Go.Proofs.Ytfgmlgflfagdjaa.ev
set_option linter.unusedVariables false

set_option maxRecDepth 1000000 in
set_option maxHeartbeats 4000000 in
theorem pmust_ (s : List UInt8) (A : Option Addr) (c : Nat) {w0 w : World} {g : Nat} {W : List Wd} {Aw : Option Addr} {cw : Nat} {p : Ps} {Ae : Option Addr} {ce : Nat} (h : PrB w0 w g W Aw cw p Ae ce) (hr : Row w 0 A 1 c [.string ⟨s.toArray⟩]) :
    Calls Try.prog 88 #[.pointer (some ⟨g, 0, none⟩), .slice A 1 c] w fun e w' => e = .returned (.tuple #[]) ∧ PrB w0 w' g W Aw cw (mustP W s p) Ae ce := by
  have H := Lib.hid h
  obtain ⟨b, o, rfl, _, _, _⟩ := hr.some_ (by decide)
  have q0 := hr.at_ (i := 0) (u := .string ⟨s.toArray⟩) rfl
  simp only [Nat.add_zero] at q0
  have HIS := Lib.hid (pis_ s h)
  have HM := Lib.hid (show mustP W s p = if okIs W s p = true then stepP p else failP 6 p from rfl)
  obtain ⟨okb, hok⟩ : ∃ b, okIs W s p = b := ⟨_, rfl⟩
  have HIS := HIS.out
  have HM := HM.out
  rw [hok] at HIS HM
  have HIS := Lib.hid HIS
  have HM := Lib.hid HM
  clear h hr hok
  go_enter Try.func88, Try.ntmps88
  go_wp2_with fail
  go_loopw [4] (fun i w' => (i = .int .i64 0 ∧ w = w') ∨ (i = .int .i64 1 ∧ PrB w0 w' g W Aw cw (mustP W s p) Ae ce)) (fun i _ => 1 - (intOf i).toNat)
  case atStart => exact .inl ⟨rfl, rfl⟩
  case round =>
    rcases hrel with ⟨rfl, rfl⟩ | ⟨rfl, h2⟩
    · go_wp2_with fail
      refine (HIS.out).mono ?_
      rintro e w2 ⟨rfl, h2⟩
      clear q0
      cases okb with
      | true =>
        have h3 : PrB w0 w2 g W Aw cw (mustP W s p) Ae ce := by rw [HM.out, if_pos rfl]; exact h2
        have H3 := Lib.hid h3
        clear h2 h3
        go_wp2
        go_roundw
        case rel => exact .inr ⟨rfl, H3.out⟩
        case measure => simp [intOf]
      | false =>
        have h3 : PrB w0 w2 g W Aw cw p Ae ce := h2
        have HF := Lib.hid (pfail_ 6 h3)
        clear h2 h3
        go_wp2_with fail
        refine (HF.out).mono ?_
        rintro e w3 ⟨rfl, h4⟩
        have h3 : PrB w0 w3 g W Aw cw (mustP W s p) Ae ce := by rw [HM.out, if_neg (by simp)]; exact h4
        have H3 := Lib.hid h3
        clear h4 h3
        go_wp2
        go_roundw
        case rel => exact .inr ⟨rfl, H3.out⟩
        case measure => simp [intOf]
    · have H2 := Lib.hid h2
      clear h2 q0
      go_wp2
      first | go_end0 | refine bodyPost_ret (results_none rfl _ _ _) rfl ?_
      exact ⟨rfl, H2.out⟩
end Go.Proofs.Ytfgmlgflfagdjaa.ps

/- The document's parser: node. Printed by geny.py. -/
namespace Go.Proofs.Ytfgmlgflfagdjaa.ps
open Go.ChangeShapes Go.WideShapes Go.ChangeAt Go.RowKit Go.Proofs.Ytfgmlgflfagdjaa.lib Go.Proofs.Ytfgmlgflfagdjaa.val Go.Proofs.Ytfgmlgflfagdjaa.lx Go.Proofs.Ytfgmlgflfagdjaa.ev
set_option linter.unusedVariables false

theorem oneNd (l : List Nd) : ∀ u ∈ flatK encNd l, u.oneCell' = true := flatK_all encNd (fun x u hu => by
  simp only [encNd, List.mem_cons, List.not_mem_nil, or_false] at hu
  rcases hu with rfl | rfl | rfl | rfl | rfl | rfl | rfl <;> rfl) l
theorem own_sl9 {w : World} {base n : Nat} {e : TypeId} {size : Nat} {v : Value} {xs : List Value} (h : w.ownsRow base e size v n xs) : ∃ A c, v = .slice A n c := by
  rcases h.2 with ⟨rfl, rfl⟩ | ⟨g, cap, cur, rfl, _⟩
  · exact ⟨_, _, rfl⟩
  · exact ⟨_, _, rfl⟩
set_option maxRecDepth 1000000 in
set_option maxHeartbeats 4000000 in
theorem pnode_ (n : Nd) {w0 w : World} {g : Nat} {W : List Wd} {Aw : Option Addr} {cw : Nat} {p : Ps} {Ae : Option Addr} {ce : Nat} (h : PrB w0 w g W Aw cw p Ae ce) :
    Calls Try.prog 65 #[.pointer (some ⟨g, 0, none⟩), .agg #[.int .i64 n.op, .int .i64 n.a, .int .i64 n.b, .int .i64 n.v.k, .int .i64 n.v.n, .string n.v.s, .string n.s]] w fun e w' => e = .returned (.int .i64 (nodeP n p).1) ∧ PrA w0 w' g W Aw cw (nodeP n p).2 := by
  obtain ⟨i0, hi, hy0, hy1, hy2⟩ := info_parts (P := Try.prog) (e := 36) (z := .agg #[.int .i64 0, .int .i64 0, .int .i64 0, .int .i64 0, .int .i64 0, .string ⟨#[]⟩, .string ⟨#[]⟩]) (size := 7) (bytes := 72) (by kernel_rfl)
  have HP := Lib.hid (show nodeP n p = if p.err ≠ 0 then (0, p) else if 60 ≤ p.e.length then (0, failP 4 p) else ((p.e.length : Int), ⟨p.at_, p.err, p.e ++ [n]⟩) from rfl)
  obtain ⟨R, hR⟩ : ∃ R, nodeP n p = R := ⟨_, rfl⟩
  rw [hR]
  have HP := HP.out
  rw [hR] at HP
  clear hR
  have hfew := h.few
  obtain ⟨m, hm⟩ : ∃ m, p.e.length = m := ⟨_, rfl⟩
  rw [hm] at HP hfew
  go_enter Try.func65, Try.ntmps65
  go_upto_region 1 with fail
  obtain ⟨W1, hW_, hbW, BN⟩ : ∃ W_, W_ = (w.alloc (.cells #[.int .i64 n.op, .int .i64 n.a, .int .i64 n.b, .int .i64 n.v.k, .int .i64 n.v.n, .string n.v.s, .string n.s] 36)) ∧ Below w.heap.size w W_ ∧ Blk W_ (w.heap.size) 36 #[.int .i64 n.op, .int .i64 n.a, .int .i64 n.b, .int .i64 n.v.k, .int .i64 n.v.n, .string n.v.s, .string n.s] :=
    ⟨_, rfl, ((Below.refl _ _).alloc (Nat.le_refl _) _), (blk_new_at w (w.heap.size) _ _ (by simp))⟩
  rw [← hW_]
  clear hW_
  have h1 := h.ext hbW
  have hgW : g < W1.heap.size := h1.blk.lt
  have hb := h1.blk
  have ho := h1.own
  rw [hm] at hb ho
  have hgl := h.blk.lt
  have hol := fun k (hk : (Value.slice Ae p.e.length ce).ownBlock = some k) => (h.own.lt k hk).2
  obtain ⟨nb, hnb⟩ : ∃ nb, w.heap.size = nb := ⟨_, rfl⟩
  rw [hnb] at BN hgl hol ⊢
  rw [hm] at hol
  have HOL := Lib.hid hol
  have H1 := Lib.hid h1
  have HM := Lib.hid hm
  clear h h1 hbW hm hnb hol
  have q := four hb (Below.refl _ _)
  by_cases he : p.err = 0
  case neg =>
    have hd : (p.err != 0) = true := by simpa using he
    rw [if_pos he] at HP
    subst HP
    clear he
    go_wp2
    go_ret
    exact ⟨rfl, _, _, H1.out⟩
  have hd : (p.err != 0) = false := by simpa using he
  rw [if_neg (by simpa using he)] at HP
  have HE := Lib.hid he
  clear he
  by_cases h60 : 60 ≤ m
  case pos =>
    rw [if_pos h60] at HP
    subst HP
    have hd2 : decide ((60 : Int) ≤ (m : Int)) = true := by simp; omega
    clear h60
    go_wp2_with fail
    refine (pfail_ 4 H1.out).mono ?_
    rintro e w2 ⟨rfl, h2⟩
    have H2 := Lib.hid h2
    clear h2 q hb ho
    go_wp2
    go_ret
    exact ⟨rfl, _, _, H2.out⟩
  rw [if_neg h60] at HP
  subst HP
  have hd2 : decide ((60 : Int) ≤ (m : Int)) = false := by simp; omega
  go_wp2_with fail
  clear q
  have D := fun w' (h : Blk w' nb 36 #[.int .i64 n.op, .int .i64 n.a, .int .i64 n.b, .int .i64 n.v.k, .int .i64 n.v.n, .string n.v.s, .string n.s]) => seven h (Below.refl _ _)
  have q1 := four hb ((Below.refl W1.heap.size W1).drew)
  refine wp_region_tree (S := fun w' => Blk w' nb 36 #[.int .i64 n.op, .int .i64 n.a, .int .i64 n.b, .int .i64 n.v.k, .int .i64 n.v.n, .string n.v.s, .string n.s]) (.take 0 (.take 1 (.take 2 (.take 3 (.take 5 (.two 4 6 (.one 6 (.one 7 (.take 8 (.take 9 (.one 10 .nil))))) (.one 4 (.one 7 (.take 8 (.take 9 (.one 10 .nil)))))))))))
    (by kernel_rfl) (by kernel_rfl) (by kernel_rfl) (by decide) (by intro c a d v w h; cases d <;> exact h) BN ?_
  repeat ((with_reducible show wpTree _ _ _ _ (.take _ _) _ _); (first | (refine wpTree_on (v := ?_) rfl rfl (wanted_free rfl) (fun w' hS => ?_) ?_; rotate_left; (focus (go_simp; (try with_reducible rfl); done)); try simp only [List.setIfInBounds_toArray, List.set_cons_zero, List.set_cons_succ]) | (refine wpTree_on (v := ?_) rfl rfl (wanted_yes rfl rfl rfl) (fun w' hS => ?_) ?_; rotate_left; (focus (go_simp; (try with_reducible rfl); done)); try simp only [List.setIfInBounds_toArray, List.set_cons_zero, List.set_cons_succ]) | (refine wpTree_off rfl rfl (wanted_no rfl rfl rfl) ?_; try simp only [List.setIfInBounds_toArray, List.set_cons_zero, List.set_cons_succ]) | (refine wpTree_off rfl rfl (wanted_undef rfl rfl rfl) ?_; try simp only [List.setIfInBounds_toArray, List.set_cons_zero, List.set_cons_succ])))
  clear D
  refine wpTree_both rfl (wanted_free rfl) rfl (wanted_free rfl) (fun K hK => ?_) (fun K hK => ?_)
  · go_simp
    refine hK.out _ _ BN ?_
    clear hK K q1
    refine wpTree_do rfl (wanted_free rfl) (fun K hK => ?_); go_simp
    refine hK.out _ _ (BN.alloc _) ?_
    clear hK K
    have hbd : Below W1.heap.size W1 ((W1.alloc (.cells #[.int .i64 n.op, .int .i64 n.a, .int .i64 n.b, .int .i64 n.v.k, .int .i64 n.v.n, .string n.v.s, .string n.s] 36)).drew) := ((Below.refl _ _).alloc (Nat.le_refl _) _).drew
    have hb2 : Blk ((W1.alloc (.cells #[.int .i64 n.op, .int .i64 n.a, .int .i64 n.b, .int .i64 n.v.k, .int .i64 n.v.n, .string n.v.s, .string n.s] 36)).drew) g 72 #[.slice Aw W.length cw, .int .i64 (p.at_ : Int), .int .i64 p.err, .slice Ae m ce] := hb.ext hbd
    have hn2 : Blk ((W1.alloc (.cells #[.int .i64 n.op, .int .i64 n.a, .int .i64 n.b, .int .i64 n.v.k, .int .i64 n.v.n, .string n.v.s, .string n.s] 36)).drew) nb 36 #[.int .i64 n.op, .int .i64 n.a, .int .i64 n.b, .int .i64 n.v.k, .int .i64 n.v.n, .string n.v.s, .string n.s] := BN.ext hbd
    have hB3 : Blk ((W1.alloc (.cells #[.int .i64 n.op, .int .i64 n.a, .int .i64 n.b, .int .i64 n.v.k, .int .i64 n.v.n, .string n.v.s, .string n.s] 36)).drew) W1.heap.size 36 #[.int .i64 n.op, .int .i64 n.a, .int .i64 n.b, .int .i64 n.v.k, .int .i64 n.v.n, .string n.v.s, .string n.s] := Blk.new W1 _ _
    have ho2 := lib.own_ext ho hbd
    have hbx := Below.trans H1.out.below (Below.mono hbd (Nat.le_of_lt hgW))
    generalize hw2 : ((W1.alloc (.cells #[.int .i64 n.op, .int .i64 n.a, .int .i64 n.b, .int .i64 n.v.k, .int .i64 n.v.n, .string n.v.s, .string n.s] 36)).drew) = w2 at *
    clear hw2
    refine wpTree_do rfl (wanted_free rfl) (fun K hK => ?_)
    refine wp_append_own _ (.tmp 22) (.tmp 24) 23 rfl (g + 1) 36 i0 _ 7 72 Try.underlying23 hi hy0 hy1 hy2 rfl (by decide) _ m (flatK encNd p.e) rfl ho2 ⟨W1.heap.size, 0, none⟩ 1 1 (encNd n) rfl rfl (Row.of_blk hB3 (Nat.zero_le _) 1 1 (Nat.le_refl _)).src (fun u hu => oneNd [n] u (by simpa [flatK_one] using hu)) (by unfold maxLen; omega) (by omega) (Nat.le_trans hgW hbd.size) ?_
    intro v' wc hown hgrow _
    obtain ⟨A4, c4, rfl⟩ := own_sl9 hown
    have hb3 := hb2.grown hgrow (fun e => by have := (ho2.lt _ e.symm).1; omega)
    have hn3 := hn2.grown hgrow (fun e => by have := HOL.out _ e.symm; omega)
    have hbx3 := hbx.grown hgrow (by have := hbd.size; omega) (fun k hk => Nat.le_of_succ_le (ho2.lt k hk).1)
    refine hK.out _ _ hn3 ?_
    clear hK K
    repeat ((with_reducible show wpTree _ _ _ _ (.take _ _) _ _); (first | (refine wpTree_on (v := ?_) rfl rfl (wanted_free rfl) (fun w' hS => ?_) ?_; rotate_left; (focus (go_simp; (try with_reducible rfl); done))) | (refine wpTree_on (v := ?_) rfl rfl (wanted_yes rfl rfl rfl) (fun w' hS => ?_) ?_; rotate_left; (focus (go_simp; (try with_reducible rfl); done))) | (refine wpTree_off rfl rfl (wanted_no rfl rfl rfl) ?_) | (refine wpTree_off rfl rfl (wanted_undef rfl rfl rfl) ?_)))
    have q3 := four hb3 (Below.refl _ _)
    have f3 := hb3.frozen 3
    refine wpTree_do rfl (wanted_free rfl) (fun K hK => ?_); go_simp
    clear q3 f3
    refine hK.out _ _ (hn3.far (p := ⟨g, 3, none⟩) (show nb ≠ g by omega) _) (wpTree_end ?_)
    clear hK K
    have hb5 : Blk (wc.setCell ⟨g, 3, none⟩ (.slice A4 (m + 1) c4)) g 72 #[.slice Aw W.length cw, .int .i64 (p.at_ : Int), .int .i64 p.err, .slice A4 (m + 1) c4] := by simpa using hb3.set_ 3 (.slice A4 (m + 1) c4)
    have ho5 := lx.own_far hown hb3 (by decide) 3 (.slice A4 (m + 1) c4)
    have hbx5 := hbx3.setCell (p := ⟨g, 3, none⟩) (Nat.le_refl _) (.slice A4 (m + 1) c4)
    generalize wc.setCell ⟨g, 3, none⟩ (.slice A4 (m + 1) c4) = w5 at *
    have hl5 : (p.e ++ [n]).length = m + 1 := by rw [List.length_append, HM.out]; rfl
    have H5 := Lib.hid (show PrB w0 w5 g W Aw cw ⟨p.at_, p.err, p.e ++ [n]⟩ A4 c4 from ⟨hbx5, H1.out.hg, H1.out.row, by rw [hl5]; exact hb5, by rw [hl5, flatK_append, flatK_one]; exact ho5, H1.out.lt, by rw [hl5]; omega, H1.out.wok, H1.out.wl, H1.out.ws⟩)
    have q5 := four hb5 (Below.refl _ _)
    clear hl5 ho5 hbx5 hb5 hbx3 hn3 hb3 hown hgrow
    go_wp2
    go_ret
    exact ⟨ret_int (by omega), _, _, H5.out⟩
  · clear q1
    go_simp
    refine hK.out _ _ (BN.alloc _) ?_
    clear hK K
    have q2 := four hb (((Below.refl W1.heap.size W1).alloc (Nat.le_refl _) (.cells #[.int .i64 n.op, .int .i64 n.a, .int .i64 n.b, .int .i64 n.v.k, .int .i64 n.v.n, .string n.v.s, .string n.s] 36)).drew)
    refine wpTree_do rfl (wanted_free rfl) (fun K hK => ?_); go_simp
    clear q2
    refine hK.out _ _ (BN.alloc _) ?_
    clear hK K
    have hbd : Below W1.heap.size W1 ((W1.alloc (.cells #[.int .i64 n.op, .int .i64 n.a, .int .i64 n.b, .int .i64 n.v.k, .int .i64 n.v.n, .string n.v.s, .string n.s] 36)).drew) := ((Below.refl _ _).alloc (Nat.le_refl _) _).drew
    have hb2 : Blk ((W1.alloc (.cells #[.int .i64 n.op, .int .i64 n.a, .int .i64 n.b, .int .i64 n.v.k, .int .i64 n.v.n, .string n.v.s, .string n.s] 36)).drew) g 72 #[.slice Aw W.length cw, .int .i64 (p.at_ : Int), .int .i64 p.err, .slice Ae m ce] := hb.ext hbd
    have hn2 : Blk ((W1.alloc (.cells #[.int .i64 n.op, .int .i64 n.a, .int .i64 n.b, .int .i64 n.v.k, .int .i64 n.v.n, .string n.v.s, .string n.s] 36)).drew) nb 36 #[.int .i64 n.op, .int .i64 n.a, .int .i64 n.b, .int .i64 n.v.k, .int .i64 n.v.n, .string n.v.s, .string n.s] := BN.ext hbd
    have hB3 : Blk ((W1.alloc (.cells #[.int .i64 n.op, .int .i64 n.a, .int .i64 n.b, .int .i64 n.v.k, .int .i64 n.v.n, .string n.v.s, .string n.s] 36)).drew) W1.heap.size 36 #[.int .i64 n.op, .int .i64 n.a, .int .i64 n.b, .int .i64 n.v.k, .int .i64 n.v.n, .string n.v.s, .string n.s] := Blk.new W1 _ _
    have ho2 := lib.own_ext ho hbd
    have hbx := Below.trans H1.out.below (Below.mono hbd (Nat.le_of_lt hgW))
    generalize hw2 : ((W1.alloc (.cells #[.int .i64 n.op, .int .i64 n.a, .int .i64 n.b, .int .i64 n.v.k, .int .i64 n.v.n, .string n.v.s, .string n.s] 36)).drew) = w2 at *
    clear hw2
    refine wpTree_do rfl (wanted_free rfl) (fun K hK => ?_)
    refine wp_append_own _ (.tmp 22) (.tmp 24) 23 rfl (g + 1) 36 i0 _ 7 72 Try.underlying23 hi hy0 hy1 hy2 rfl (by decide) _ m (flatK encNd p.e) rfl ho2 ⟨W1.heap.size, 0, none⟩ 1 1 (encNd n) rfl rfl (Row.of_blk hB3 (Nat.zero_le _) 1 1 (Nat.le_refl _)).src (fun u hu => oneNd [n] u (by simpa [flatK_one] using hu)) (by unfold maxLen; omega) (by omega) (Nat.le_trans hgW hbd.size) ?_
    intro v' wc hown hgrow _
    obtain ⟨A4, c4, rfl⟩ := own_sl9 hown
    have hb3 := hb2.grown hgrow (fun e => by have := (ho2.lt _ e.symm).1; omega)
    have hn3 := hn2.grown hgrow (fun e => by have := HOL.out _ e.symm; omega)
    have hbx3 := hbx.grown hgrow (by have := hbd.size; omega) (fun k hk => Nat.le_of_succ_le (ho2.lt k hk).1)
    refine hK.out _ _ hn3 ?_
    clear hK K
    repeat ((with_reducible show wpTree _ _ _ _ (.take _ _) _ _); (first | (refine wpTree_on (v := ?_) rfl rfl (wanted_free rfl) (fun w' hS => ?_) ?_; rotate_left; (focus (go_simp; (try with_reducible rfl); done))) | (refine wpTree_on (v := ?_) rfl rfl (wanted_yes rfl rfl rfl) (fun w' hS => ?_) ?_; rotate_left; (focus (go_simp; (try with_reducible rfl); done))) | (refine wpTree_off rfl rfl (wanted_no rfl rfl rfl) ?_) | (refine wpTree_off rfl rfl (wanted_undef rfl rfl rfl) ?_)))
    have q3 := four hb3 (Below.refl _ _)
    have f3 := hb3.frozen 3
    refine wpTree_do rfl (wanted_free rfl) (fun K hK => ?_); go_simp
    clear q3 f3
    refine hK.out _ _ (hn3.far (p := ⟨g, 3, none⟩) (show nb ≠ g by omega) _) (wpTree_end ?_)
    clear hK K
    have hb5 : Blk (wc.setCell ⟨g, 3, none⟩ (.slice A4 (m + 1) c4)) g 72 #[.slice Aw W.length cw, .int .i64 (p.at_ : Int), .int .i64 p.err, .slice A4 (m + 1) c4] := by simpa using hb3.set_ 3 (.slice A4 (m + 1) c4)
    have ho5 := lx.own_far hown hb3 (by decide) 3 (.slice A4 (m + 1) c4)
    have hbx5 := hbx3.setCell (p := ⟨g, 3, none⟩) (Nat.le_refl _) (.slice A4 (m + 1) c4)
    generalize wc.setCell ⟨g, 3, none⟩ (.slice A4 (m + 1) c4) = w5 at *
    have hl5 : (p.e ++ [n]).length = m + 1 := by rw [List.length_append, HM.out]; rfl
    have H5 := Lib.hid (show PrB w0 w5 g W Aw cw ⟨p.at_, p.err, p.e ++ [n]⟩ A4 c4 from ⟨hbx5, H1.out.hg, H1.out.row, by rw [hl5]; exact hb5, by rw [hl5, flatK_append, flatK_one]; exact ho5, H1.out.lt, by rw [hl5]; omega, H1.out.wok, H1.out.wl, H1.out.ws⟩)
    have q5 := four hb5 (Below.refl _ _)
    clear hl5 ho5 hbx5 hb5 hbx3 hn3 hb3 hown hgrow
    go_wp2
    go_ret
    exact ⟨ret_int (by omega), _, _, H5.out⟩
end Go.Proofs.Ytfgmlgflfagdjaa.ps

/- The document's schema.Name. Printed by geny.py. -/
namespace Go.Proofs.Ytfgmlgflfagdjaa.ps
open Go.ChangeShapes Go.WideShapes Go.ChangeAt Go.RowKit Go.Proofs.Ytfgmlgflfagdjaa.lib Go.Proofs.Ytfgmlgflfagdjaa.val Go.Proofs.Ytfgmlgflfagdjaa.lx Go.Proofs.Ytfgmlgflfagdjaa.ev
set_option linter.unusedVariables false

theorem nameOk_no {l : List UInt8} (k : Nat) (hk : k < l.length) (h : nameB l[k] = false) : nameOk l = false := by
  unfold nameOk
  have : l.all nameB = false := by
    rw [Bool.eq_false_iff]
    intro h2
    rw [List.all_eq_true] at h2
    have := h2 l[k] (List.getElem_mem hk)
    rw [h] at this
    cases this
  rw [this]
  simp
set_option maxRecDepth 1000000 in
set_option maxHeartbeats 4000000 in
theorem reserved_ (w : World) : Calls Try.prog 96 #[] w fun e w' => ∃ g, e = .returned (.slice (some ⟨g, 0, none⟩) 41 41) ∧ Row w' 0 (some ⟨g, 0, none⟩) 41 41 (reserved.map fun s => Value.string ⟨s.toArray⟩) ∧ Below w.heap.size w w' := by
  go_enter Try.func96, Try.ntmps96
  go_wp2
  go_ret
  exact ⟨_, rfl, Row.of_blk (Blk.new w _ _) (Nat.zero_le _) 41 41 (Nat.le_refl _), (Below.refl _ _).alloc (Nat.le_refl _) _⟩
set_option maxRecDepth 1000000 in
set_option maxHeartbeats 4000000 in
theorem rname_ (s : ByteArray) (l : List UInt8) (hs : Str s l) (hl : l.length ≤ 1000) (w : World) :
    Calls Try.prog 95 #[.string s] w fun e w' => e = .returned (.bool (nameOk l)) ∧ Below w.heap.size w w' := by
  have HS := Lib.hid hs
  have hz := hs.size
  have HZ := Lib.hid hz
  have hsb : s.size ≤ 1000 := by omega
  obtain ⟨ok, hok⟩ : ∃ b, nameOk l = b := ⟨_, rfl⟩
  rw [hok]
  have HOK := Lib.hid hok
  clear hs hz hok
  go_enter Try.func95, Try.ntmps95
  rcases Nat.lt_or_ge s.size 1 with h1 | h1
  case inl =>
    have d1 : decide ((s.size : Int) < 1) = true := by simp; omega
    obtain rfl : ok = false := by rw [← HOK.out]; unfold nameOk; rw [decide_eq_false (show ¬ 1 ≤ l.length by have := HZ.out; omega)]; rfl
    clear h1
    go_wp2
    go_ret
    exact ⟨rfl, Below.refl _ _⟩
  have d1 : decide ((s.size : Int) < 1) = false := by simp; omega
  rcases Nat.lt_or_ge 12 s.size with h2 | h2
  case inl =>
    have d2 : decide ((12 : Int) < (s.size : Int)) = true := by simp; omega
    obtain rfl : ok = false := by rw [← HOK.out]; unfold nameOk; rw [decide_eq_false (show ¬ l.length ≤ 12 by have := HZ.out; omega)]; simp
    clear h2
    go_wp2
    go_ret
    exact ⟨rfl, Below.refl _ _⟩
  have d2 : decide ((12 : Int) < (s.size : Int)) = false := by simp; omega
  have h0 : (0 : Int) < (s.size : Int) := by omega
  have h00 : 0 < s.size := by omega
  have hl0 : 0 < l.length := by have := HZ.out; omega
  have hg0 := HS.out.get 0 h00 hl0
  obtain ⟨c, hc⟩ : ∃ c, (s[0]'h00).toNat = c := ⟨_, rfl⟩
  have HC := Lib.hid (show (l.headD 0).toNat = c by
    have : l.headD 0 = l[0] := by
      cases l with
      | nil => simp at hl0
      | cons a t => rfl
    rw [this, ← hg0]; exact hc)
  clear hg0
  rcases Nat.lt_or_ge c 97 with h3 | h3
  case inl =>
    have a1 : decide ((c : Int) < 97) = true := by simp; omega
    obtain rfl : ok = false := by
      rw [← HOK.out]; unfold nameOk letB
      rw [HC.out, decide_eq_false (show ¬ 97 ≤ c by omega)]; simp
    clear h3
    go_wp2
    go_ret
    exact ⟨rfl, Below.refl _ _⟩
  have a1 : decide ((c : Int) < 97) = false := by simp; omega
  rcases Nat.lt_or_ge 122 c with h4 | h4
  case inl =>
    have a2 : decide ((122 : Int) < (c : Int)) = true := by simp; omega
    obtain rfl : ok = false := by
      rw [← HOK.out]; unfold nameOk letB
      rw [HC.out, decide_eq_false (show ¬ c ≤ 122 by omega)]; simp
    clear h4
    go_wp2
    go_ret
    exact ⟨rfl, Below.refl _ _⟩
  have a2 : decide ((122 : Int) < (c : Int)) = false := by simp; omega
  have HL := Lib.hid (show letB (l.headD 0) = true by unfold letB; rw [HC.out]; simp; omega)
  go_wp2_with fail
  clear a1 a2 d1 d2 h0 hc h3 h4 HC
  go_loopw [3] (fun i w' => ∃ k : Nat, i = .int .i64 k ∧ k ≤ s.size ∧ Hid (∀ j (hj : j < l.length), j < k → nameB l[j] = true) ∧ w' = w) (fun i _ => s.size - (intOf i).toNat)
  case atStart => exact ⟨0, rfl, Nat.zero_le _, Lib.hid (fun j hj h => by omega), rfl⟩
  case round =>
    obtain ⟨k, rfl, hk, HNO, rfl⟩ := hrel
    rcases Nat.lt_or_ge k s.size with hlt | hge
    case inl =>
      have hd : decide (k < s.size) = true := by simp; omega
      have hd2 : decide ((k : Int) < (s.size : Int)) = true := by simp; omega
      have hl2 : k < l.length := by rw [← HZ.out]; exact hlt
      have hg := HS.out.get k hlt hl2
      obtain ⟨c, hc⟩ : ∃ c, (s[k]'hlt).toNat = c := ⟨_, rfl⟩
      have HC := Lib.hid (show l[k].toNat = c by rw [← hg]; exact hc)
      clear hg
      rcases Nat.lt_or_ge c 97 with h1 | h1
      case inr =>
        rcases Nat.lt_or_ge 122 c with h2 | h2
        case inr =>
          have a1 : decide ((c : Int) < 97) = false := by simp; omega
          have a2 : decide ((122 : Int) < (c : Int)) = false := by simp; omega
          have HOKK := Lib.hid (show nameB l[k] = true by
            unfold nameB letB
            rw [HC.out]
            simp
            omega)
          clear h1 h2
          go_wp2
          go_roundw
          case rel => exact ⟨k + 1, by go_num, by omega, Lib.hid (fun j hj h => by
            by_cases hjk : j = k
            · subst hjk; exact HOKK.out
            · exact HNO.out j hj (by omega)), by trivial⟩
          case measure => simp [intOf]; omega
        have a1 : decide ((c : Int) < 97) = false := by simp; omega
        have a2 : decide ((122 : Int) < (c : Int)) = true := by simp; omega
        have a4 : decide ((c : Int) < 48) = false := by simp; omega
        have a5 : decide ((57 : Int) < (c : Int)) = true := by simp; omega
        have a6 : ((c : Int) != 95) = true := by simp; omega
        have HNN := Lib.hid (show nameB l[k] = false by
          unfold nameB letB digB
          have e : (l[k] == 95) = false := by rw [beq_eq_false_iff_ne]; intro e; have := congrArg UInt8.toNat e; rw [HC.out] at this; simp at this; omega
          rw [HC.out, e]
          simp
          omega)
        obtain rfl : ok = false := by rw [← HOK.out]; exact nameOk_no k hl2 HNN.out
        clear h1 h2
        go_wp2
        go_ret
        exact ⟨rfl, Below.refl _ _⟩
      have a1 : decide ((c : Int) < 97) = true := by simp; omega
      rcases Nat.lt_or_ge c 48 with h3 | h3
      case inl =>
        have a4 : decide ((c : Int) < 48) = true := by simp; omega
        have a6 : ((c : Int) != 95) = true := by simp; omega
        have HNN := Lib.hid (show nameB l[k] = false by
          unfold nameB letB digB
          have e : (l[k] == 95) = false := by rw [beq_eq_false_iff_ne]; intro e; have := congrArg UInt8.toNat e; rw [HC.out] at this; simp at this; omega
          rw [HC.out, e]
          simp
          omega)
        obtain rfl : ok = false := by rw [← HOK.out]; exact nameOk_no k hl2 HNN.out
        clear h1 h3
        go_wp2
        go_ret
        exact ⟨rfl, Below.refl _ _⟩
      have a4 : decide ((c : Int) < 48) = false := by simp; omega
      rcases Nat.lt_or_ge 57 c with h5 | h5
      case inr =>
        have a5 : decide ((57 : Int) < (c : Int)) = false := by simp; omega
        have HOKK := Lib.hid (show nameB l[k] = true by
          unfold nameB letB digB
          rw [HC.out]
          simp
          omega)
        clear h1 h3 h5
        go_wp2
        go_roundw
        case rel => exact ⟨k + 1, by go_num, by omega, Lib.hid (fun j hj h => by
          by_cases hjk : j = k
          · subst hjk; exact HOKK.out
          · exact HNO.out j hj (by omega)), by trivial⟩
        case measure => simp [intOf]; omega
      have a5 : decide ((57 : Int) < (c : Int)) = true := by simp; omega
      by_cases h9 : c = 95
      · have a6 : ((c : Int) != 95) = false := by subst h9; rfl
        have HOKK := Lib.hid (show nameB l[k] = true by
          unfold nameB
          have e : (l[k] == 95) = true := by rw [beq_iff_eq]; exact UInt8.toNat_inj.1 (by rw [HC.out, h9]; rfl)
          rw [e]
          simp)
        clear h1 h3 h5 h9
        go_wp2
        go_roundw
        case rel => exact ⟨k + 1, by go_num, by omega, Lib.hid (fun j hj h => by
          by_cases hjk : j = k
          · subst hjk; exact HOKK.out
          · exact HNO.out j hj (by omega)), by trivial⟩
        case measure => simp [intOf]; omega
      have a6 : ((c : Int) != 95) = true := by simp; omega
      have HNN := Lib.hid (show nameB l[k] = false by
        unfold nameB letB digB
        have e : (l[k] == 95) = false := by rw [beq_eq_false_iff_ne]; intro e; have := congrArg UInt8.toNat e; rw [HC.out] at this; simp at this; omega
        rw [HC.out, e]
        simp
        omega)
      obtain rfl : ok = false := by rw [← HOK.out]; exact nameOk_no k hl2 HNN.out
      clear h1 h3 h5 h9
      go_wp2
      go_ret
      exact ⟨rfl, Below.refl _ _⟩
    have hd : decide (k < s.size) = false := by simp; omega
    have hd2 : decide ((k : Int) < (s.size : Int)) = false := by simp; omega
    have HALL := Lib.hid (show l.all nameB = true by
      rw [List.all_eq_true]
      intro x hx
      obtain ⟨j, hj, rfl⟩ := List.getElem_of_mem hx
      exact HNO.out j hj (by have := HZ.out; omega))
    have HN := Lib.hid (show nameOk l = !(reserved.contains l) by
      unfold nameOk
      rw [HALL.out, HL.out, decide_eq_true (show 1 ≤ l.length by omega), decide_eq_true (show l.length ≤ 12 by have := HZ.out; omega)]
      simp)
    go_wp2_with fail
    refine (reserved_ _).mono ?_
    rintro e w1 ⟨g, rfl, hrow, hb1⟩
    clear hd hd2 HNO
    go_wp2_with fail
    go_loopw [6] (fun i w' => ∃ m : Nat, i = .int .i64 m ∧ m ≤ 41 ∧ Hid (∀ r ∈ reserved.take m, r ≠ l) ∧ w1 = w') (fun i _ => 41 - (intOf i).toNat)
    case atStart => exact ⟨0, rfl, Nat.zero_le _, Lib.hid (by simp), rfl⟩
    case round =>
      obtain ⟨m, rfl, hm, HNR, rfl⟩ := hrel
      rcases Nat.lt_or_ge m 41 with hlt | hge2
      case inr =>
        have hd : decide ((m : Int) < 41) = false := by simp; omega
        obtain rfl : ok = true := by
          rw [← HOK.out, HN.out]
          have : reserved.contains l = false := by
            rw [Bool.eq_false_iff]
            intro h
            rw [List.contains_iff_mem] at h
            exact HNR.out l (by rw [List.take_of_length_le (show reserved.length ≤ m from hge2)]; exact h) rfl
          rw [this]; rfl
        clear hge2
        go_wp2
        go_ret
        exact ⟨rfl, hb1⟩
      have hd : decide ((m : Int) < 41) = true := by simp; omega
      have hm41 : (m : Int) < 41 := by omega
      obtain ⟨r, hr⟩ : ∃ r, reserved[m]? = some r := ⟨_, List.getElem?_eq_getElem (show m < reserved.length from hlt)⟩
      have hc := hrow.at_ (i := m) (u := .string ⟨r.toArray⟩) (by rw [List.getElem?_map, hr]; rfl)
      simp only [Nat.zero_add] at hc
      have HR := Lib.hid hr
      clear hr
      by_cases he : r = l
      case pos =>
        have f1 : (r == s.toList) = true := by rw [HS.out.eq, ByteArray.toList_eq]; simpa using he
        obtain rfl : ok = false := by
          rw [← HOK.out, HN.out]
          have : reserved.contains l = true := by
            rw [List.contains_iff_mem, ← he]
            exact List.mem_of_getElem? HR.out
          rw [this]; rfl
        clear he
        go_wp2
        go_ret
        exact ⟨rfl, hb1⟩
      have f1 : (r == s.toList) = false := by rw [HS.out.eq, ByteArray.toList_eq]; simpa using he
      have HNE := Lib.hid he
      clear he
      go_wp2
      go_roundw
      case rel => exact ⟨m + 1, by go_num, by omega, Lib.hid (fun x hx => by
        rw [List.take_add_one, HR.out, Option.toList_some] at hx
        rcases List.mem_append.1 hx with hx | hx
        · exact HNR.out x hx
        · rw [List.mem_singleton.1 hx]; exact HNE.out), by trivial⟩
      case measure => simp [intOf]; omega
end Go.Proofs.Ytfgmlgflfagdjaa.ps

/- The document's parser: name, column. Printed by geny.py. -/
namespace Go.Proofs.Ytfgmlgflfagdjaa.ps
open Go.ChangeShapes Go.WideShapes Go.ChangeAt Go.RowKit Go.Proofs.Ytfgmlgflfagdjaa.lib Go.Proofs.Ytfgmlgflfagdjaa.val Go.Proofs.Ytfgmlgflfagdjaa.lx Go.Proofs.Ytfgmlgflfagdjaa.ev
set_option linter.unusedVariables false

theorem nameP_len {W : List Wd} {p : Ps} : (nameP W p).1.length ≤ 12 := by
  unfold nameP
  split
  · next h =>
    unfold nameIs nameOk at h
    simp only [Bool.and_eq_true, decide_eq_true_eq] at h
    exact h.2.2.2.1
  · exact Nat.zero_le _
theorem app_mk (a b : List UInt8) : (⟨a.toArray⟩ : ByteArray) ++ ⟨b.toArray⟩ = ⟨(a ++ b).toArray⟩ := by
  apply ByteArray.ext
  simp
set_option maxRecDepth 1000000 in
set_option maxHeartbeats 4000000 in
theorem pname_ {w0 w : World} {g : Nat} {W : List Wd} {Aw : Option Addr} {cw : Nat} {p : Ps} {Ae : Option Addr} {ce : Nat} (h : PrB w0 w g W Aw cw p Ae ce) :
    Calls Try.prog 94 #[.pointer (some ⟨g, 0, none⟩)] w fun e w' => e = .returned (.string ⟨(nameP W p).1.toArray⟩) ∧ PrB w0 w' g W Aw cw (nameP W p).2 Ae ce := by
  have H := Lib.hid h
  have hb := h.blk
  obtain ⟨bA, oA, rfl, hbl, hmem, hcells⟩ := h.word
  have hlt := h.lt
  have hwl := h.wl
  have hxl := h.ws _ hmem
  have c1 : (p.at_ : Int) < (W.length : Int) := by omega
  obtain ⟨x, hx⟩ : ∃ x, wAt W p = x := ⟨_, rfl⟩
  rw [hx] at hcells hxl
  have HX := Lib.hid hx
  have HQ := Lib.hid (show nameIs W p = (decide (p.err = 0) && (decide (x.k = 1) && nameOk x.s)) by rw [← hx]; rfl)
  have HP := Lib.hid (show nameP W p = if nameIs W p = true then (x.s, stepP p) else ([], failP 6 p) by rw [← hx]; rfl)
  obtain ⟨R, hR⟩ : ∃ R, nameP W p = R := ⟨_, rfl⟩
  rw [hR]
  have HR := Lib.hid (HP.out.symm.trans hR)
  clear h hx hmem hR HP
  go_enter Try.func94, Try.ntmps94
  go_wp2_with fail
  have D := fun w' (h : Below w.heap.size w.drew w') => four hb (Below.trans (Below.refl _ _).drew h)
  have DW := fun w' (h : Below w.heap.size w.drew w') => hcells w' (Below.trans (Below.refl _ _).drew h)
  refine wp_region_one [(0, true), (1, true), (2, true), (3, true), (4, true), (5, true), (6, true), (7, true), (8, true), (9, true), (10, false), (11, false)] (by kernel_rfl) (by kernel_rfl) (by kernel_rfl) (by decide) ?_
  repeat ((with_reducible show wpPerm _ _ _ _ ((_, true) :: _) _ _); (first | (refine wpPerm_on (v := ?_) rfl rfl (wanted_free rfl) (fun w' hS => ?_) ?_; rotate_left; (focus (go_simp; (try with_reducible rfl); done)); try simp only [List.setIfInBounds_toArray, List.set_cons_zero, List.set_cons_succ]) | (refine wpPerm_on (v := ?_) rfl rfl (wanted_yes rfl rfl rfl) (fun w' hS => ?_) ?_; rotate_left; (focus (go_simp; (try with_reducible rfl); done)); try simp only [List.setIfInBounds_toArray, List.set_cons_zero, List.set_cons_succ]) | (refine wpPerm_off rfl rfl (wanted_no rfl rfl rfl) ?_; try simp only [List.setIfInBounds_toArray, List.set_cons_zero, List.set_cons_succ]) | (refine wpPerm_off rfl rfl (wanted_undef rfl rfl rfl) ?_; try simp only [List.setIfInBounds_toArray, List.set_cons_zero, List.set_cons_succ])))
  clear D DW
  refine wpPerm_do rfl (wanted_free rfl) (fun K hK => ?_); go_simp
  have hba : Below w.heap.size w.drew (w.drew.alloc (.cells #[.int .i64 0, .int .i64 0, .string ⟨#[]⟩] 74)) := Below.alloc (Below.refl w.heap.size w.drew) (Nat.le_refl w.drew.heap.size) _
  refine hK.out _ _ hba ?_
  clear hK K
  refine wpPerm_do rfl (wanted_free rfl) (fun K hK => ?_); go_simp
  obtain ⟨wE, hwE, BE, hbe⟩ : ∃ wE, wE = (w.alloc (.cells #[.int .i64 x.k, .int .i64 x.n, .string ⟨x.s.toArray⟩] 74)).drew ∧ Blk wE w.heap.size 74 #[.int .i64 x.k, .int .i64 x.n, .string ⟨x.s.toArray⟩] ∧ Below w.heap.size w.drew wE :=
    ⟨_, rfl, Blk.new w _ _, Below.alloc (Below.refl w.heap.size w.drew) (Nat.le_refl w.drew.heap.size) _⟩
  rw [← hwE]
  clear hwE hba
  refine hK.out _ _ hbe ?_
  clear hK K
  refine wpPerm_done ?_
  have hbE := Below.trans ((Below.refl w.heap.size w).drew) hbe
  have HE := Lib.hid (H.out.ext hbE)
  have hgx : g < w.heap.size := H.out.blk.lt
  clear hbe H
  obtain ⟨ge, hge⟩ : ∃ ge, w.heap.size = ge := ⟨_, rfl⟩
  rw [hge] at BE hgx ⊢
  clear hge hb hcells hbE
  have qe := BE.three (Below.refl _ _)
  have hb := HE.out.blk
  have q := four hb (Below.refl _ _)
  clear hb
  by_cases he : p.err = 0
  case neg =>
    have hd : (p.err != 0) = true := by simpa using he
    obtain rfl : ([], failP 6 p) = R := by rw [← HR.out, HQ.out, decide_eq_false he]; rfl
    clear he
    go_wp2_with fail
    refine (pfail_ 6 HE.out).mono ?_
    rintro e w3 ⟨rfl, h3⟩
    have H3 := Lib.hid h3
    clear h3
    go_wp2
    go_ret
    exact ⟨rfl, H3.out⟩
  have hd : (p.err != 0) = false := by simpa using he
  have HEE := Lib.hid he
  clear he
  by_cases hk : x.k = 1
  case neg =>
    have k1 : (x.k != 1) = true := by simpa using hk
    obtain rfl : ([], failP 6 p) = R := by rw [← HR.out, HQ.out, decide_eq_false hk]; simp
    clear hk
    go_wp2_with fail
    refine (pfail_ 6 HE.out).mono ?_
    rintro e w3 ⟨rfl, h3⟩
    have H3 := Lib.hid h3
    clear h3
    go_wp2
    go_ret
    exact ⟨rfl, H3.out⟩
  have k1 : (x.k != 1) = false := by simpa using hk
  have HK := Lib.hid hk
  clear hk
  go_wp2_with fail
  refine (rname_ _ x.s ⟨rfl⟩ hxl _).mono ?_
  rintro e w2 ⟨rfl, hb2⟩
  have HE := Lib.hid (HE.out.ext hb2)
  have BE := BE.ext hb2
  clear qe q hb2
  have HKK := Lib.hid (show (wAt W p).k ≠ 0 by rw [HX.out, HK.out]; decide)
  obtain ⟨nk, hnk⟩ : ∃ b, nameOk x.s = b := ⟨_, rfl⟩
  rw [hnk]
  have HNK := Lib.hid hnk
  clear hnk
  cases nk with
  | false =>
    obtain rfl : ([], failP 6 p) = R := by rw [← HR.out, HQ.out, HNK.out]; simp
    go_wp2_with fail
    refine (pfail_ 6 HE.out).mono ?_
    rintro e w3 ⟨rfl, h3⟩
    have H3 := Lib.hid h3
    clear h3
    go_wp2
    go_ret
    exact ⟨rfl, H3.out⟩
  | true =>
    obtain rfl : (x.s, stepP p) = R := by rw [← HR.out, HQ.out, HNK.out, decide_eq_true HEE.out, decide_eq_true HK.out]; rfl
    have hb := HE.out.blk
    have q := four hb (Below.refl _ _)
    have f1 := hb.frozen 1
    have qe := BE.three (Below.refl _ _)
    clear hb
    go_upto_region 6 with fail
    have HS := Lib.hid (HE.out.step HKK.out)
    have BE := BE.far (p := ⟨g, 1, none⟩) (show ge ≠ g by omega) (.int .i64 ((p.at_ : Int) + 1))
    clear q f1 qe
    generalize w2.setCell ⟨g, 1, none⟩ (.int .i64 ((p.at_ : Int) + 1)) = w5 at *
    have qe := BE.three (Below.refl _ _)
    go_wp2
    go_ret
    exact ⟨rfl, HS.out⟩
set_option maxRecDepth 1000000 in
set_option maxHeartbeats 4000000 in
theorem pcol_ {w0 w : World} {g : Nat} {W : List Wd} {Aw : Option Addr} {cw : Nat} {p : Ps} {Ae : Option Addr} {ce : Nat} (h : PrB w0 w g W Aw cw p Ae ce) :
    Calls Try.prog 93 #[.pointer (some ⟨g, 0, none⟩)] w fun e w' => e = .returned (.string ⟨(colP W p).1.toArray⟩) ∧ PrB w0 w' g W Aw cw (colP W p).2 Ae ce := by
  have H1 := Lib.hid (pname_ h)
  have HC := Lib.hid (show colP W p = if okIs W [46] (nameP W p).2 = true then ((nameP W p).1 ++ [46] ++ (nameP W (stepP (nameP W p).2)).1, (nameP W (stepP (nameP W p).2)).2) else nameP W p from rfl)
  have hl1 := nameP_len (W := W) (p := p)
  obtain ⟨⟨s1, p1⟩, hp1⟩ : ∃ R, nameP W p = R := ⟨_, rfl⟩
  obtain ⟨C, hC⟩ : ∃ C, colP W p = C := ⟨_, rfl⟩
  have HC := HC.out
  have H1 := H1.out
  rw [hC] at HC ⊢
  rw [hp1] at H1 HC hl1
  simp only at H1 HC hl1
  have H1 := Lib.hid H1
  have HC := Lib.hid HC
  clear h hp1 hC
  go_enter Try.func93, Try.ntmps93
  go_wp2_with fail
  refine (H1.out).mono ?_
  rintro e w2 ⟨rfl, h2⟩
  have HI := Lib.hid (pis_ [46] h2)
  clear h2
  obtain ⟨ok, hok⟩ : ∃ b, okIs W [46] p1 = b := ⟨_, rfl⟩
  have HI := HI.out
  have HC := HC.out
  rw [hok] at HI HC
  have HI := Lib.hid HI
  clear hok
  go_wp2_with fail
  refine (HI.out).mono ?_
  rintro e w3 ⟨rfl, h3⟩
  cases ok with
  | false =>
    rw [if_neg (by simp)] at HC
    subst HC
    have H3 := Lib.hid (show PrB w0 w3 g W Aw cw p1 Ae ce from h3)
    clear h3
    go_wp2
    go_ret
    exact ⟨rfl, H3.out⟩
  | true =>
    rw [if_pos rfl] at HC
    have H4 := Lib.hid (pname_ (show PrB w0 w3 g W Aw cw (stepP p1) Ae ce from h3))
    have hl2 := nameP_len (W := W) (p := stepP p1)
    obtain ⟨⟨s2, p2⟩, hp2⟩ : ∃ R, nameP W (stepP p1) = R := ⟨_, rfl⟩
    have H4 := H4.out
    rw [hp2] at H4 HC hl2
    simp only at H4 HC hl2
    have H4 := Lib.hid H4
    subst HC
    clear h3 hp2
    have z1 : (ByteArray.mk s1.toArray).size = s1.length := size_mk s1
    have z2 : (ByteArray.mk s2.toArray).size = s2.length := size_mk s2
    have n1 : ¬ (9223372036854775807 < s1.length + 1) := by omega
    go_wp2_with fail
    refine (H4.out).mono ?_
    rintro e w4 ⟨rfl, h4⟩
    have H5 := Lib.hid h4
    clear h4
    have z3 : ((⟨s1.toArray⟩ : ByteArray) ++ ⟨#[46]⟩).size = s1.length + 1 := by rw [show (⟨#[46]⟩ : ByteArray) = ⟨[46].toArray⟩ from rfl, app_mk, size_mk, List.length_append]; rfl
    have n2 : ¬ (9223372036854775807 < s1.length + 1 + s2.length) := by omega
    have HS := Lib.hid (show (⟨s1.toArray⟩ : ByteArray) ++ ⟨#[46]⟩ ++ ⟨s2.toArray⟩ = ⟨(s1 ++ 46 :: s2).toArray⟩ by rw [show s1 ++ 46 :: s2 = s1 ++ [46] ++ s2 by simp, ← app_mk, ← app_mk])
    go_wp2
    go_ret
    exact ⟨congrArg (fun b => Ending.returned (.string b)) HS.out, H5.out⟩
end Go.Proofs.Ytfgmlgflfagdjaa.ps
