/- Contracts: Kind as a whole; node. (Printed by gen9.py.) -/
import Derived.Test.YtfgmlgflfagdjaaE8
namespace Go.Proofs.Ytfgmlgflfagdjaa.ev
open Go.ChangeShapes Go.WideShapes Go.ChangeAt Go.RowKit Go.Proofs.Ytfgmlgflfagdjaa.lib Go.Proofs.Ytfgmlgflfagdjaa.val
set_option linter.unusedVariables false

theorem Kind (es : List Nd) (A : Option Addr) (N c B : Nat) (C : Value) (F : ByteArray → Int × Int) (G : ByteArray → Int) (w : World) (hN : es.length = N) (hB : B ≤ w.heap.size) (hr : Nds w B A es)
    (hc : ∀ n ∈ es, ColOK w B C F G n) (hs : ∀ n ∈ es, n.v.s.size ≤ maxLen) :
    Calls Try.prog 20 #[.slice A N c, C] w fun e w' => e = .returned (two (KindV F G es)) ∧ Below w.heap.size w w' := by
  subst hN
  unfold KindV
  by_cases h : es.length < 1 ∨ 60 < es.length
  · rw [if_pos h]
    refine (Kind_bad es A c C w h).mono ?_
    rintro e w' ⟨rfl, rfl⟩
    exact ⟨rfl, Below.refl _ _⟩
  · rw [if_neg h]
    exact Kind_ok es A c B C F G w h hB hr hc hs

theorem wpPerm_end {P : Program} {ops : Array Oper} {Q : Exit → Act → World → Prop} {S : World → Prop} {a : Act} {w : World} (h : Q .normal a w) : wpPerm P ops Q S [] a w := by
  with_unfolding_all exact h

/-- a slice of values -/
def Vals (w : World) (B : Nat) (A : Option Addr) (vs : List V) : Prop :=
  0 < vs.length → ∃ b off, A = some ⟨b, off, none⟩ ∧ b < B ∧ ∀ i v, vs[i]? = some v → w.cell? ⟨b, off + i * 3, none⟩ = some (.int .i64 v.k) ∧ w.cell? ⟨b, off + i * 3 + 1, none⟩ = some (.int .i64 v.n) ∧ w.cell? ⟨b, off + i * 3 + 2, none⟩ = some (.string v.s)
theorem Vals.below {w w' : World} {B : Nat} {A : Option Addr} {vs : List V} (h : Vals w B A vs) (hb : Below B w w') : Vals w' B A vs := fun hn => by
  obtain ⟨b, off, e, hlt, hc⟩ := h hn
  exact ⟨b, off, e, hlt, fun i v hi => ⟨(hb.cell (by exact hlt)).trans (hc i v hi).1, (hb.cell (by exact hlt)).trans (hc i v hi).2.1, (hb.cell (by exact hlt)).trans (hc i v hi).2.2⟩⟩
theorem Vals.at_ {w : World} {B b off i : Nat} {vs : List V} {v : V} (h : Vals w B (some ⟨b, off, none⟩) vs) (hi : vs[i]? = some v) :
    w.cell? ⟨b, off + i * 3, none⟩ = some (.int .i64 v.k) ∧ w.cell? ⟨b, off + i * 3 + 1, none⟩ = some (.int .i64 v.n) ∧ w.cell? ⟨b, off + i * 3 + 2, none⟩ = some (.string v.s) := by
  have hl : i < vs.length := (List.getElem?_eq_some_iff.1 hi).1
  obtain ⟨b', off', e, _, hc⟩ := h (by omega)
  injection e with e
  injection e with e1 e2
  subst e1 e2
  exact hc i v hi
theorem pairs (op : Int) (a b v : V) (h : pairV op a b = some v) (w : World) (hop : 3 ≤ op ∧ op ≤ 16) (ha : ok64 a.n) (hb : ok64 b.n) :
    Calls Try.prog 52 #[.int .i64 op, .agg #[.int .i64 a.k, .int .i64 a.n, .string a.s], .agg #[.int .i64 b.k, .int .i64 b.n, .string b.s]] w fun e w' => e = .returned (.agg #[.int .i64 v.k, .int .i64 v.n, .string v.s]) ∧ Below w.heap.size w w' := by
  have := pair op a b w hop ha hb
  rw [h] at this
  exact this
theorem pairo (op : Int) (a b : V) (h : pairV op a b = none) (w : World) (hop : 3 ≤ op ∧ op ≤ 16) (ha : ok64 a.n) (hb : ok64 b.n) :
    Calls Try.prog 52 #[.int .i64 op, .agg #[.int .i64 a.k, .int .i64 a.n, .string a.s], .agg #[.int .i64 b.k, .int .i64 b.n, .string b.s]] w fun e w' => e = .panicked [{ v := .iface 41 (.int .i64 11), recovered := false }] ∧ Below w.heap.size w w' := by
  have := pair op a b w hop ha hb
  rw [h] at this
  exact this

theorem node_val (op a b vk vn : Int) (vs s : ByteArray) (L C R : Value) (w : World) (hop : op = 1) :
    Calls Try.prog 39 #[.agg #[.int .i64 op, .int .i64 a, .int .i64 b, .int .i64 vk, .int .i64 vn, .string vs, .string s], L, C, R] w fun e w' => e = .returned (.agg #[.int .i64 vk, .int .i64 vn, .string vs]) ∧ Below w.heap.size w w' := by
  subst hop
  go_enter Try.func39, Try.ntmps39
  go_wp2
  exact bodyPost_ret (v := .agg #[.int .i64 vk, .int .i64 vn, .string vs]) (by simp [results, Try.results39, go_sem]) rfl ⟨rfl, ((Below.refl _ _).alloc (Nat.le_refl _) _).alloc (by simp) _⟩

set_option maxRecDepth 1000000 in
set_option maxHeartbeats 2000000 in
theorem node_two (op vk vn : Int) (jb : Nat) (ia m c B : Nat) (vs s : ByteArray) (l : List V) (x y r : V) (A : Option Addr) (C R : Value) (w : World) (hop : 6 ≤ op ∧ op ≤ 16) (hm : l.length = m) (hm2 : m < 1000) (hL : Vals w B A l) (hB : B ≤ w.heap.size)
    (hx : l[ia]? = some x) (hy : l[jb]? = some y) (hy2 : ok64 y.n) (hx2 : ok64 x.n) (hp : pairV op x y = some r) :
    Calls Try.prog 39 #[.agg #[.int .i64 op, .int .i64 ia, .int .i64 jb, .int .i64 vk, .int .i64 vn, .string vs, .string s], .slice A m c, C, R] w fun e w' => e = .returned (.agg #[.int .i64 r.k, .int .i64 r.n, .string r.s]) ∧ Below w.heap.size w w' := by
  have hpp : partsV op = 2 := by unfold partsV; rw [if_neg (by omega), if_neg (by omega), if_pos (by omega)]
  have h1 : (op == 1) = false := by simp; omega
  have h2 : (op == 2) = false := by simp; omega
  have hil : ia < m := by have := (List.getElem?_eq_some_iff.1 hx).1; omega
  have hjl : jb < m := by have := (List.getElem?_eq_some_iff.1 hy).1; omega
  obtain ⟨b0, off, rfl, hlb, _⟩ := hL (by omega)
  have HP := Lib.hid hp
  have HX := Lib.hid hx
  have HY := Lib.hid hy
  clear hy
  have HM := Lib.hid hm
  clear hp hx hm
  go_enter Try.func39, Try.ntmps39
  go_wp2_with fail
  obtain ⟨W, hW_, hbW, B1, B3⟩ : ∃ W_, W_ = ((w.alloc (.cells #[.int .i64 op, .int .i64 ia, .int .i64 jb, .int .i64 vk, .int .i64 vn, .string vs, .string s] 36)).alloc (.cells #[.int .i64 0, .int .i64 0, .string ⟨#[]⟩] 30)) ∧ Below w.heap.size w W_ ∧ Blk W_ (w.heap.size) 36 #[.int .i64 op, .int .i64 ia, .int .i64 jb, .int .i64 vk, .int .i64 vn, .string vs, .string s] ∧ Blk W_ (w.heap.size + 1) 30 #[.int .i64 0, .int .i64 0, .string ⟨#[]⟩] :=
    ⟨_, rfl, (((Below.refl _ _).alloc (Nat.le_refl _) _).alloc (by simp; try omega) _), ((blk_new_at w (w.heap.size) _ _ (by simp)).alloc _), (blk_new_at (w.alloc (.cells #[.int .i64 op, .int .i64 ia, .int .i64 jb, .int .i64 vk, .int .i64 vn, .string vs, .string s] 36)) (w.heap.size + 1) _ _ (by simp))⟩
  rw [← hW_]
  clear hW_
  have q1 := seven B1 (Below.refl _ _)
  go_wp2_with fail
  clear q1
  refine (partsr op 2 hpp _).mono ?_
  rintro e w1 ⟨rfl, rfl⟩
  go_wp2_with fail
  have D := fun w' (h : Blk w' w.heap.size 36 #[.int .i64 op, .int .i64 ia, .int .i64 jb, .int .i64 vk, .int .i64 vn, .string vs, .string s] ∧ Below w.heap.size w w') => seven h.1 (Below.refl _ _)
  have DA := fun w' (h : Blk w' w.heap.size 36 #[.int .i64 op, .int .i64 ia, .int .i64 jb, .int .i64 vk, .int .i64 vn, .string vs, .string s] ∧ Below w.heap.size w w') => (hL.below (Below.mono h.2 hB)).at_ HX.out
  have DB := fun w' (h : Blk w' w.heap.size 36 #[.int .i64 op, .int .i64 ia, .int .i64 jb, .int .i64 vk, .int .i64 vn, .string vs, .string s] ∧ Below w.heap.size w w') => (hL.below (Below.mono h.2 hB)).at_ HY.out
  refine wp_region_perm (S := fun w' => Blk w' w.heap.size 36 #[.int .i64 op, .int .i64 ia, .int .i64 jb, .int .i64 vk, .int .i64 vn, .string vs, .string s] ∧ Below w.heap.size w w') [(0, true), (1, true), (2, true), (3, true), (4, true), (5, true), (6, true), (7, true), (8, true), (9, true), (10, true), (11, true), (12, false), (13, false)] (by kernel_rfl) (by kernel_rfl) (by kernel_rfl) (by decide) (by intro c a d v w h; cases d <;> exact h) ⟨B1, hbW.drew⟩ ?_
  repeat ((with_reducible show wpPerm _ _ _ _ ((_, true) :: _) _ _); (first | (refine wpPerm_on (v := ?_) rfl rfl (wanted_free rfl) (fun w' hS => ?_) ?_; rotate_left; (focus (go_simp; (try with_reducible rfl); done)); try simp only [List.setIfInBounds_toArray, List.set_cons_zero, List.set_cons_succ]) | (refine wpPerm_on (v := ?_) rfl rfl (wanted_yes rfl rfl rfl) (fun w' hS => ?_) ?_; rotate_left; (focus (go_simp; (try with_reducible rfl); done)); try simp only [List.setIfInBounds_toArray, List.set_cons_zero, List.set_cons_succ]) | (refine wpPerm_off rfl rfl (wanted_no rfl rfl rfl) ?_; try simp only [List.setIfInBounds_toArray, List.set_cons_zero, List.set_cons_succ]) | (refine wpPerm_off rfl rfl (wanted_undef rfl rfl rfl) ?_; try simp only [List.setIfInBounds_toArray, List.set_cons_zero, List.set_cons_succ])))
  refine wpPerm_do rfl (wanted_free rfl) (fun K hK => ?_); go_simp
  refine (pairs op x y r HP.out _ (by omega) hx2 hy2).mono ?_
  rintro e w3 ⟨rfl, hb_⟩
  have hb4 : Below W.heap.size W w3 := Below.trans (Below.refl _ _).drew hb_
  have hb5 : Below w.heap.size w w3 := bch0 hbW hb4
  refine hK.out _ _ ⟨B1.ext hb4, hb5⟩ ?_
  clear hK K
  have q_ := (B3.ext hb4).three (Below.refl _ _)
  have f_ := (B3.ext hb4).free3
  clear D DA DB
  refine wpPerm_do rfl (wanted_free rfl) (fun K hK => ?_); go_simp
  clear q_ f_
  obtain ⟨wE, hwE, BE, hbE, hfar, _⟩ := (B3.ext hb4).set3 (.int .i64 r.k) (.int .i64 r.n) (.string r.s)
  rw [← hwE]
  refine hK.out _ _ ⟨hfar _ _ _ (by omega) (B1.ext hb4), Below.trans hb5 (hbE _ (by omega))⟩ ?_
  refine wpPerm_end ?_
  clear hK K
  go_wp2
  have q_ := BE.three (Below.refl _ _)
  exact bodyPost_ret (v := .agg #[.int .i64 r.k, .int .i64 r.n, .string r.s]) (by simp [results, Try.results39, go_sem, q_]) rfl ⟨rfl, Below.trans hb5 (hbE _ (by omega))⟩

set_option maxRecDepth 1000000 in
set_option maxHeartbeats 2000000 in
theorem node_twoo (op vk vn : Int) (jb : Nat) (ia m c B : Nat) (vs s : ByteArray) (l : List V) (x y : V) (A : Option Addr) (C R : Value) (w : World) (hop : 6 ≤ op ∧ op ≤ 16) (hm : l.length = m) (hm2 : m < 1000) (hL : Vals w B A l) (hB : B ≤ w.heap.size)
    (hx : l[ia]? = some x) (hy : l[jb]? = some y) (hy2 : ok64 y.n) (hx2 : ok64 x.n) (hp : pairV op x y = none) :
    Calls Try.prog 39 #[.agg #[.int .i64 op, .int .i64 ia, .int .i64 jb, .int .i64 vk, .int .i64 vn, .string vs, .string s], .slice A m c, C, R] w fun e w' => e = .panicked [{ v := .iface 41 (.int .i64 11), recovered := false }] ∧ Below w.heap.size w w' := by
  have hpp : partsV op = 2 := by unfold partsV; rw [if_neg (by omega), if_neg (by omega), if_pos (by omega)]
  have h1 : (op == 1) = false := by simp; omega
  have h2 : (op == 2) = false := by simp; omega
  have hil : ia < m := by have := (List.getElem?_eq_some_iff.1 hx).1; omega
  have hjl : jb < m := by have := (List.getElem?_eq_some_iff.1 hy).1; omega
  obtain ⟨b0, off, rfl, hlb, _⟩ := hL (by omega)
  have HP := Lib.hid hp
  have HX := Lib.hid hx
  have HY := Lib.hid hy
  clear hy
  have HM := Lib.hid hm
  clear hp hx hm
  go_enter Try.func39, Try.ntmps39
  go_wp2_with fail
  obtain ⟨W, hW_, hbW, B1, B3⟩ : ∃ W_, W_ = ((w.alloc (.cells #[.int .i64 op, .int .i64 ia, .int .i64 jb, .int .i64 vk, .int .i64 vn, .string vs, .string s] 36)).alloc (.cells #[.int .i64 0, .int .i64 0, .string ⟨#[]⟩] 30)) ∧ Below w.heap.size w W_ ∧ Blk W_ (w.heap.size) 36 #[.int .i64 op, .int .i64 ia, .int .i64 jb, .int .i64 vk, .int .i64 vn, .string vs, .string s] ∧ Blk W_ (w.heap.size + 1) 30 #[.int .i64 0, .int .i64 0, .string ⟨#[]⟩] :=
    ⟨_, rfl, (((Below.refl _ _).alloc (Nat.le_refl _) _).alloc (by simp; try omega) _), ((blk_new_at w (w.heap.size) _ _ (by simp)).alloc _), (blk_new_at (w.alloc (.cells #[.int .i64 op, .int .i64 ia, .int .i64 jb, .int .i64 vk, .int .i64 vn, .string vs, .string s] 36)) (w.heap.size + 1) _ _ (by simp))⟩
  rw [← hW_]
  clear hW_
  have q1 := seven B1 (Below.refl _ _)
  go_wp2_with fail
  clear q1
  refine (partsr op 2 hpp _).mono ?_
  rintro e w1 ⟨rfl, rfl⟩
  go_wp2_with fail
  have D := fun w' (h : Blk w' w.heap.size 36 #[.int .i64 op, .int .i64 ia, .int .i64 jb, .int .i64 vk, .int .i64 vn, .string vs, .string s] ∧ Below w.heap.size w w') => seven h.1 (Below.refl _ _)
  have DA := fun w' (h : Blk w' w.heap.size 36 #[.int .i64 op, .int .i64 ia, .int .i64 jb, .int .i64 vk, .int .i64 vn, .string vs, .string s] ∧ Below w.heap.size w w') => (hL.below (Below.mono h.2 hB)).at_ HX.out
  have DB := fun w' (h : Blk w' w.heap.size 36 #[.int .i64 op, .int .i64 ia, .int .i64 jb, .int .i64 vk, .int .i64 vn, .string vs, .string s] ∧ Below w.heap.size w w') => (hL.below (Below.mono h.2 hB)).at_ HY.out
  refine wp_region_perm (S := fun w' => Blk w' w.heap.size 36 #[.int .i64 op, .int .i64 ia, .int .i64 jb, .int .i64 vk, .int .i64 vn, .string vs, .string s] ∧ Below w.heap.size w w') [(0, true), (1, true), (2, true), (3, true), (4, true), (5, true), (6, true), (7, true), (8, true), (9, true), (10, true), (11, true), (12, false), (13, false)] (by kernel_rfl) (by kernel_rfl) (by kernel_rfl) (by decide) (by intro c a d v w h; cases d <;> exact h) ⟨B1, hbW.drew⟩ ?_
  repeat ((with_reducible show wpPerm _ _ _ _ ((_, true) :: _) _ _); (first | (refine wpPerm_on (v := ?_) rfl rfl (wanted_free rfl) (fun w' hS => ?_) ?_; rotate_left; (focus (go_simp; (try with_reducible rfl); done)); try simp only [List.setIfInBounds_toArray, List.set_cons_zero, List.set_cons_succ]) | (refine wpPerm_on (v := ?_) rfl rfl (wanted_yes rfl rfl rfl) (fun w' hS => ?_) ?_; rotate_left; (focus (go_simp; (try with_reducible rfl); done)); try simp only [List.setIfInBounds_toArray, List.set_cons_zero, List.set_cons_succ]) | (refine wpPerm_off rfl rfl (wanted_no rfl rfl rfl) ?_; try simp only [List.setIfInBounds_toArray, List.set_cons_zero, List.set_cons_succ]) | (refine wpPerm_off rfl rfl (wanted_undef rfl rfl rfl) ?_; try simp only [List.setIfInBounds_toArray, List.set_cons_zero, List.set_cons_succ])))
  refine wpPerm_do rfl (wanted_free rfl) (fun K hK => ?_); go_simp
  refine (pairo op x y HP.out _ (by omega) hx2 hy2).mono ?_
  rintro e w3 ⟨rfl, hb_⟩
  exact ⟨rfl, rfl, bch0 hbW (Below.trans (Below.refl _ _).drew hb_)⟩

set_option maxRecDepth 1000000 in
set_option maxHeartbeats 2000000 in
theorem node_one (op vk vn : Int) (b : Int) (ia m c B : Nat) (vs s : ByteArray) (l : List V) (x r : V) (A : Option Addr) (C R : Value) (w : World) (hop : 3 ≤ op ∧ op ≤ 5) (hm : l.length = m) (hm2 : m < 1000) (hL : Vals w B A l) (hB : B ≤ w.heap.size)
    (hx : l[ia]? = some x) (hx2 : ok64 x.n) (hp : pairV op x x = some r) :
    Calls Try.prog 39 #[.agg #[.int .i64 op, .int .i64 ia, .int .i64 b, .int .i64 vk, .int .i64 vn, .string vs, .string s], .slice A m c, C, R] w fun e w' => e = .returned (.agg #[.int .i64 r.k, .int .i64 r.n, .string r.s]) ∧ Below w.heap.size w w' := by
  have hpp : partsV op = 1 := by unfold partsV; rw [if_neg (by omega), if_pos (by omega)]
  have h1 : (op == 1) = false := by simp; omega
  have h2 : (op == 2) = false := by simp; omega
  have hil : ia < m := by have := (List.getElem?_eq_some_iff.1 hx).1; omega
  obtain ⟨b0, off, rfl, hlb, _⟩ := hL (by omega)
  have HP := Lib.hid hp
  have HX := Lib.hid hx
  have HM := Lib.hid hm
  clear hp hx hm
  go_enter Try.func39, Try.ntmps39
  go_wp2_with fail
  obtain ⟨W, hW_, hbW, B1, B3⟩ : ∃ W_, W_ = ((w.alloc (.cells #[.int .i64 op, .int .i64 ia, .int .i64 b, .int .i64 vk, .int .i64 vn, .string vs, .string s] 36)).alloc (.cells #[.int .i64 0, .int .i64 0, .string ⟨#[]⟩] 30)) ∧ Below w.heap.size w W_ ∧ Blk W_ (w.heap.size) 36 #[.int .i64 op, .int .i64 ia, .int .i64 b, .int .i64 vk, .int .i64 vn, .string vs, .string s] ∧ Blk W_ (w.heap.size + 1) 30 #[.int .i64 0, .int .i64 0, .string ⟨#[]⟩] :=
    ⟨_, rfl, (((Below.refl _ _).alloc (Nat.le_refl _) _).alloc (by simp; try omega) _), ((blk_new_at w (w.heap.size) _ _ (by simp)).alloc _), (blk_new_at (w.alloc (.cells #[.int .i64 op, .int .i64 ia, .int .i64 b, .int .i64 vk, .int .i64 vn, .string vs, .string s] 36)) (w.heap.size + 1) _ _ (by simp))⟩
  rw [← hW_]
  clear hW_
  have q1 := seven B1 (Below.refl _ _)
  go_wp2_with fail
  clear q1
  refine (partsr op 1 hpp _).mono ?_
  rintro e w1 ⟨rfl, rfl⟩
  go_wp2_with fail
  have D := fun w' (h : Blk w' w.heap.size 36 #[.int .i64 op, .int .i64 ia, .int .i64 b, .int .i64 vk, .int .i64 vn, .string vs, .string s] ∧ Below w.heap.size w w') => seven h.1 (Below.refl _ _)
  have DA := fun w' (h : Blk w' w.heap.size 36 #[.int .i64 op, .int .i64 ia, .int .i64 b, .int .i64 vk, .int .i64 vn, .string vs, .string s] ∧ Below w.heap.size w w') => (hL.below (Below.mono h.2 hB)).at_ HX.out
  refine wp_region_perm (S := fun w' => Blk w' w.heap.size 36 #[.int .i64 op, .int .i64 ia, .int .i64 b, .int .i64 vk, .int .i64 vn, .string vs, .string s] ∧ Below w.heap.size w w') [(0, true), (1, true), (2, true), (3, true), (4, true), (5, true), (6, true), (7, true), (8, true), (9, true), (10, true), (11, true), (12, false), (13, false)] (by kernel_rfl) (by kernel_rfl) (by kernel_rfl) (by decide) (by intro c a d v w h; cases d <;> exact h) ⟨B1, hbW.drew⟩ ?_
  repeat ((with_reducible show wpPerm _ _ _ _ ((_, true) :: _) _ _); (first | (refine wpPerm_on (v := ?_) rfl rfl (wanted_free rfl) (fun w' hS => ?_) ?_; rotate_left; (focus (go_simp; (try with_reducible rfl); done)); try simp only [List.setIfInBounds_toArray, List.set_cons_zero, List.set_cons_succ]) | (refine wpPerm_on (v := ?_) rfl rfl (wanted_yes rfl rfl rfl) (fun w' hS => ?_) ?_; rotate_left; (focus (go_simp; (try with_reducible rfl); done)); try simp only [List.setIfInBounds_toArray, List.set_cons_zero, List.set_cons_succ]) | (refine wpPerm_off rfl rfl (wanted_no rfl rfl rfl) ?_; try simp only [List.setIfInBounds_toArray, List.set_cons_zero, List.set_cons_succ]) | (refine wpPerm_off rfl rfl (wanted_undef rfl rfl rfl) ?_; try simp only [List.setIfInBounds_toArray, List.set_cons_zero, List.set_cons_succ])))
  refine wpPerm_do rfl (wanted_free rfl) (fun K hK => ?_); go_simp
  refine (pairs op x x r HP.out _ (by omega) hx2 hx2).mono ?_
  rintro e w3 ⟨rfl, hb_⟩
  have hb4 : Below W.heap.size W w3 := Below.trans (Below.refl _ _).drew hb_
  have hb5 : Below w.heap.size w w3 := bch0 hbW hb4
  refine hK.out _ _ ⟨B1.ext hb4, hb5⟩ ?_
  clear hK K
  have q_ := (B3.ext hb4).three (Below.refl _ _)
  have f_ := (B3.ext hb4).free3
  clear D DA
  refine wpPerm_do rfl (wanted_free rfl) (fun K hK => ?_); go_simp
  clear q_ f_
  obtain ⟨wE, hwE, BE, hbE, hfar, _⟩ := (B3.ext hb4).set3 (.int .i64 r.k) (.int .i64 r.n) (.string r.s)
  rw [← hwE]
  refine hK.out _ _ ⟨hfar _ _ _ (by omega) (B1.ext hb4), Below.trans hb5 (hbE _ (by omega))⟩ ?_
  refine wpPerm_end ?_
  clear hK K
  go_wp2
  have q_ := BE.three (Below.refl _ _)
  exact bodyPost_ret (v := .agg #[.int .i64 r.k, .int .i64 r.n, .string r.s]) (by simp [results, Try.results39, go_sem, q_]) rfl ⟨rfl, Below.trans hb5 (hbE _ (by omega))⟩

set_option maxRecDepth 1000000 in
set_option maxHeartbeats 2000000 in
theorem node_oneo (op vk vn : Int) (b : Int) (ia m c B : Nat) (vs s : ByteArray) (l : List V) (x : V) (A : Option Addr) (C R : Value) (w : World) (hop : 3 ≤ op ∧ op ≤ 5) (hm : l.length = m) (hm2 : m < 1000) (hL : Vals w B A l) (hB : B ≤ w.heap.size)
    (hx : l[ia]? = some x) (hx2 : ok64 x.n) (hp : pairV op x x = none) :
    Calls Try.prog 39 #[.agg #[.int .i64 op, .int .i64 ia, .int .i64 b, .int .i64 vk, .int .i64 vn, .string vs, .string s], .slice A m c, C, R] w fun e w' => e = .panicked [{ v := .iface 41 (.int .i64 11), recovered := false }] ∧ Below w.heap.size w w' := by
  have hpp : partsV op = 1 := by unfold partsV; rw [if_neg (by omega), if_pos (by omega)]
  have h1 : (op == 1) = false := by simp; omega
  have h2 : (op == 2) = false := by simp; omega
  have hil : ia < m := by have := (List.getElem?_eq_some_iff.1 hx).1; omega
  obtain ⟨b0, off, rfl, hlb, _⟩ := hL (by omega)
  have HP := Lib.hid hp
  have HX := Lib.hid hx
  have HM := Lib.hid hm
  clear hp hx hm
  go_enter Try.func39, Try.ntmps39
  go_wp2_with fail
  obtain ⟨W, hW_, hbW, B1, B3⟩ : ∃ W_, W_ = ((w.alloc (.cells #[.int .i64 op, .int .i64 ia, .int .i64 b, .int .i64 vk, .int .i64 vn, .string vs, .string s] 36)).alloc (.cells #[.int .i64 0, .int .i64 0, .string ⟨#[]⟩] 30)) ∧ Below w.heap.size w W_ ∧ Blk W_ (w.heap.size) 36 #[.int .i64 op, .int .i64 ia, .int .i64 b, .int .i64 vk, .int .i64 vn, .string vs, .string s] ∧ Blk W_ (w.heap.size + 1) 30 #[.int .i64 0, .int .i64 0, .string ⟨#[]⟩] :=
    ⟨_, rfl, (((Below.refl _ _).alloc (Nat.le_refl _) _).alloc (by simp; try omega) _), ((blk_new_at w (w.heap.size) _ _ (by simp)).alloc _), (blk_new_at (w.alloc (.cells #[.int .i64 op, .int .i64 ia, .int .i64 b, .int .i64 vk, .int .i64 vn, .string vs, .string s] 36)) (w.heap.size + 1) _ _ (by simp))⟩
  rw [← hW_]
  clear hW_
  have q1 := seven B1 (Below.refl _ _)
  go_wp2_with fail
  clear q1
  refine (partsr op 1 hpp _).mono ?_
  rintro e w1 ⟨rfl, rfl⟩
  go_wp2_with fail
  have D := fun w' (h : Blk w' w.heap.size 36 #[.int .i64 op, .int .i64 ia, .int .i64 b, .int .i64 vk, .int .i64 vn, .string vs, .string s] ∧ Below w.heap.size w w') => seven h.1 (Below.refl _ _)
  have DA := fun w' (h : Blk w' w.heap.size 36 #[.int .i64 op, .int .i64 ia, .int .i64 b, .int .i64 vk, .int .i64 vn, .string vs, .string s] ∧ Below w.heap.size w w') => (hL.below (Below.mono h.2 hB)).at_ HX.out
  refine wp_region_perm (S := fun w' => Blk w' w.heap.size 36 #[.int .i64 op, .int .i64 ia, .int .i64 b, .int .i64 vk, .int .i64 vn, .string vs, .string s] ∧ Below w.heap.size w w') [(0, true), (1, true), (2, true), (3, true), (4, true), (5, true), (6, true), (7, true), (8, true), (9, true), (10, true), (11, true), (12, false), (13, false)] (by kernel_rfl) (by kernel_rfl) (by kernel_rfl) (by decide) (by intro c a d v w h; cases d <;> exact h) ⟨B1, hbW.drew⟩ ?_
  repeat ((with_reducible show wpPerm _ _ _ _ ((_, true) :: _) _ _); (first | (refine wpPerm_on (v := ?_) rfl rfl (wanted_free rfl) (fun w' hS => ?_) ?_; rotate_left; (focus (go_simp; (try with_reducible rfl); done)); try simp only [List.setIfInBounds_toArray, List.set_cons_zero, List.set_cons_succ]) | (refine wpPerm_on (v := ?_) rfl rfl (wanted_yes rfl rfl rfl) (fun w' hS => ?_) ?_; rotate_left; (focus (go_simp; (try with_reducible rfl); done)); try simp only [List.setIfInBounds_toArray, List.set_cons_zero, List.set_cons_succ]) | (refine wpPerm_off rfl rfl (wanted_no rfl rfl rfl) ?_; try simp only [List.setIfInBounds_toArray, List.set_cons_zero, List.set_cons_succ]) | (refine wpPerm_off rfl rfl (wanted_undef rfl rfl rfl) ?_; try simp only [List.setIfInBounds_toArray, List.set_cons_zero, List.set_cons_succ])))
  refine wpPerm_do rfl (wanted_free rfl) (fun K hK => ?_); go_simp
  refine (pairo op x x HP.out _ (by omega) hx2 hx2).mono ?_
  rintro e w3 ⟨rfl, hb_⟩
  exact ⟨rfl, rfl, bch0 hbW (Below.trans (Below.refl _ _).drew hb_)⟩
end Go.Proofs.Ytfgmlgflfagdjaa.ev
