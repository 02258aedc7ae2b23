/- within, hold, known; locks in a variable. -/
import Derived.Test.YtlfonenjgchklaaM11
namespace Go.Proofs.Ytlfonenjgchklaa.lk
open Go.ChangeShapes Go.WideShapes Go.ChangeAt Go.RowKit Go.Proofs.Ytlfonenjgchklaa.lib
set_option linter.unusedVariables false

/-- a number from 0 to n - 1 -/
def wi (a n : Int) : Int := if a.tmod n < 0 then a.tmod n + n else a.tmod n
theorem wi_bd {a n : Int} (hn : 0 < n) : 0 ≤ wi a n ∧ wi a n < n := by
  unfold wi
  have h2 := Int.tmod_lt_of_pos a hn
  have h3 : -n < a.tmod n := by
    have h4 := Int.tmod_lt_of_pos (-a) hn
    rw [Int.neg_tmod] at h4
    omega
  split <;> omega
theorem within_ (a n : Int) (w : World) (hn : 0 < n) (hn2 : n ≤ 100000) :
    Calls Try.prog 13 #[.int .i64 a, .int .i64 n] w fun e w' => e = .returned (.int .i64 (wi a n)) ∧ w = w' := by
  have hn0 : (n == 0) = false := by simp; omega
  have hn1 : n ≠ 0 := by omega
  have h2 := Int.tmod_lt_of_pos a hn
  have h3 : -n < a.tmod n := by
    have h4 := Int.tmod_lt_of_pos (-a) hn
    rw [Int.neg_tmod] at h4
    omega
  have hw : IntKind.i64.wrap (a.tmod n) = a.tmod n := by rw [IntKind.wrap_i64]; omega
  have hw2 : wrap64 (a.tmod n) = a.tmod n := by unfold wrap64; omega
  have hw3 : IntKind.i64.wrap (a.tmod n + n) = a.tmod n + n := by rw [IntKind.wrap_i64]; omega
  have hw4 : wrap64 (a.tmod n + n) = a.tmod n + n := by unfold wrap64; omega
  unfold wi
  by_cases h : a.tmod n < 0
  · have hd : decide (a.tmod n < 0) = true := by simpa using h
    rw [if_pos h]
    go_enter Try.func13, Try.ntmps13
    go_wp2
    go_ret
    exact ⟨rfl, rfl⟩
  · have hd : decide (a.tmod n < 0) = false := by simpa using h
    rw [if_neg h]
    go_enter Try.func13, Try.ntmps13
    go_wp2
    go_ret
    exact ⟨rfl, rfl⟩

/-- what a variable of another kind holds does not turn holds -/
theorem Hs.keep {w w' : World} {g : Nat} {t : TypeId} {cs : Array Value} {A : Option Addr} {l : List Hd} (h : Hs w A l) (hB : Blk w g t cs) (h0 : ∀ z, cs[0]? ≠ some (.int .i64 z)) (hg : w.grownBy w' (some g)) : Hs w' A l := by
  rcases h with h | ⟨b, e, hlt, hc⟩
  · exact .inl h
  · cases l with
    | nil => exact .inr ⟨b, e, Nat.lt_of_lt_of_le hlt hg.size, fun i u hu => by cases hu⟩
    | cons x r =>
      have hx := hc 0 (.int .i64 x.s) rfl
      have hne : some b ≠ some g := by
        intro e
        injection e with e
        subst e
        rw [hB.cell] at hx
        exact h0 _ hx
      exact .inr ⟨b, e, Nat.lt_of_lt_of_le hlt hg.size, fun i u hu => (World.cell?_of_block (hg.block b hlt hne)).trans (hc i u hu)⟩
theorem LkR.keep {w w' : World} {g : Nat} {t : TypeId} {cs : Array Value} {v : Value} {L : Lk} (h : LkR w v L) (hB : Blk w g t cs) (h0 : ∀ z, cs[0]? ≠ some (.int .i64 z)) (hg : w.grownBy w' (some g)) : LkR w' v L := by
  obtain ⟨A, n, c, A', n', c', e, h1, h2, h3, h4⟩ := h
  exact ⟨A, n, c, A', n', c', e, h1, h2.keep hB h0 hg, h3, h4.keep hB h0 hg⟩
/-- the variable in block g holds the locks L -/
def Va (w : World) (g : Nat) (L : Lk) : Prop := ∃ A n c A' n' c', Blk w g 26 #[.slice A n c, .slice A' n' c'] ∧ LkR w (.agg #[.slice A n c, .slice A' n' c']) L
theorem Va.ext {w w' : World} {g : Nat} {L : Lk} (h : Va w g L) (hb : Below w.heap.size w w') : Va w' g L := by
  obtain ⟨A, n, c, A', n', c', h1, h2⟩ := h
  exact ⟨A, n, c, A', n', c', h1.ext hb, h2.ext hb⟩
theorem Va.lt {w : World} {g : Nat} {L : Lk} (h : Va w g L) : g < w.heap.size := by
  obtain ⟨A, n, c, A', n', c', h1, h2⟩ := h
  exact h1.lt
/-- it is set to others -/
theorem Va.set {w : World} {g : Nat} {x y : Value} {A A' : Option Addr} {n c n' c' : Nat} {L : Lk} (hB : Blk w g 26 #[x, y]) (h0 : ∀ z, x ≠ .int .i64 z) (hL : LkR w (.agg #[.slice A n c, .slice A' n' c']) L) :
    ∃ w', w' = (w.setCell ⟨g, 0, none⟩ (.slice A n c)).setCell ⟨g, 1, none⟩ (.slice A' n' c') ∧ Blk w' g 26 #[.slice A n c, .slice A' n' c'] ∧ LkR w' (.agg #[.slice A n c, .slice A' n' c']) L ∧ (∀ B, B ≤ g → Below B w w') ∧ w.grownBy w' (some g) := by
  obtain ⟨w', e, h1, h2, h3⟩ := Blk.set2 hB (.slice A n c) (.slice A' n' c')
  exact ⟨w', e, h1, hL.keep hB (fun z h => h0 z (by simpa using h)) h3, h2, h3⟩
theorem LkR.parts {w : World} {v : Value} {L : Lk} (h : LkR w v L) : ∃ A n c A' n' c', v = .agg #[.slice A n c, .slice A' n' c'] ∧ LkR w (.agg #[.slice A n c, .slice A' n' c']) L := by
  obtain ⟨A, n, c, A', n', c', e, h1, h2, h3, h4⟩ := h
  subst e
  exact ⟨A, n, c, A', n', c', rfl, A, n, c, A', n', c', rfl, h1, h2, h3, h4⟩
theorem LkR.none (w : World) : LkR w (.agg #[.slice none 0 0, .slice none 0 0]) ⟨[], []⟩ := ⟨_, _, _, _, _, _, rfl, rfl, Hs.nil w, rfl, Hs.nil w⟩

/-- a table's name of the three -/
def nameN (k : Int) : ByteArray := if k = 0 then ⟨#[97]⟩ else if k = 1 then ⟨#[98]⟩ else ⟨#[99]⟩
structure Ac where
  k : Int
  s : Int
  t : Int
  x : Bool
def Ac.hd (a : Ac) : Hd := ⟨wi a.s 8, nameN (wi a.t 3), a.x⟩
theorem blk_get {w : World} {g : Nat} {t : TypeId} {cs : Array Value} (h : w.heap[g]? = some (.cells cs t (0, 0))) : Blk w g t cs := h
def HoldP (h : Hd) (w : World) (e : Ending) (w' : World) : Prop := e = .returned (.agg h.arr) ∧ Below w.heap.size w w'
set_option maxHeartbeats 1000000 in
theorem hold_ (a : Ac) (w : World) :
    Calls Try.prog 12 #[.agg #[.int .i64 a.k, .int .i64 a.s, .int .i64 a.t, .bool a.x]] w (HoldP a.hd w) := by
  obtain ⟨k, s, t, x⟩ := a
  simp only [Ac.hd]
  have ht := wi_bd (a := t) (n := 3) (by omega)
  obtain ⟨j, hj⟩ : ∃ j, wi t 3 = j := ⟨_, rfl⟩
  rw [hj] at ht ⊢
  have HJ := Lib.hid hj
  clear hj
  have ht : j = 0 ∨ j = 1 ∨ j = 2 := by omega
  obtain ⟨n, hn⟩ : ∃ n, nameN j = n := ⟨_, rfl⟩
  rw [hn]
  have HN := Lib.hid hn
  clear hn
  go_enter Try.func12, Try.ntmps12
  go_wp2_with fail
  obtain ⟨W, hW_, hbW, B1, B2⟩ : ∃ W_, W_ = ((w.alloc (.cells #[.int .i64 k, .int .i64 s, .int .i64 t, .bool x] 32)).alloc (.cells #[.int .i64 0, .string ⟨#[]⟩, .bool false] 30)) ∧ Below w.heap.size w W_ ∧ Blk W_ (w.heap.size) 32 #[.int .i64 k, .int .i64 s, .int .i64 t, .bool x] ∧ Blk W_ (w.heap.size + 1) 30 #[.int .i64 0, .string ⟨#[]⟩, .bool false] :=
    ⟨_, rfl, (((Below.refl _ _).alloc (Nat.le_refl _) _).alloc (by simp; try omega) _), ((blk_new_at w (w.heap.size) _ _ (by simp)).alloc _), (blk_new_at (w.alloc (.cells #[.int .i64 k, .int .i64 s, .int .i64 t, .bool x] 32)) (w.heap.size + 1) _ _ (by simp))⟩
  rw [← hW_]
  clear hW_
  have D := fun w' (h : Blk w' w.heap.size 32 #[.int .i64 k, .int .i64 s, .int .i64 t, .bool x] ∧ W.heap.size ≤ w'.heap.size) => (show w'.cell? ⟨w.heap.size, 1, none⟩ = some (.int .i64 s) ∧ w'.cell? ⟨w.heap.size, 2, none⟩ = some (.int .i64 t) ∧ w'.cell? ⟨w.heap.size, 3, none⟩ = some (.bool x) from ⟨h.1.cell 1, h.1.cell 2, h.1.cell 3⟩)
  refine wp_region_mixS1 (S := fun w' => Blk w' w.heap.size 32 #[.int .i64 k, .int .i64 s, .int .i64 t, .bool x] ∧ W.heap.size ≤ w'.heap.size) ⟨3, 6, fun g => .slice (some ⟨g, 0, none⟩) 3 3, .cells #[.string ⟨#[97]⟩, .string ⟨#[98]⟩, .string ⟨#[99]⟩] 9⟩
    [(0, true), (1, true), (4, true), (5, true), (9, true), (10, true)] [(2, false), (6, false)] [(7, true), (8, false), (11, true), (12, false)] (by kernel_rfl) (by kernel_rfl) ⟨B1, Nat.le_refl _⟩ (fun w1 w2 he h => ⟨h.1.ext he, Nat.le_trans h.2 he.size⟩) (fun _ h => h.2) ?_
  repeat ((with_reducible show wpI _ _ _ _ _ ((_, true) :: _) _ _); (first | (refine wpI_on (v := ?_) rfl rfl (wanted_free rfl) (fun w' hS => ?_) ?_; rotate_left; (focus (go_simp; (try with_reducible rfl); done)); try simp only [List.setIfInBounds_toArray, List.set_cons_zero, List.set_cons_succ]) | (refine wpI_on (v := ?_) rfl rfl (wanted_yes rfl rfl rfl) (fun w' hS => ?_) ?_; rotate_left; (focus (go_simp; (try with_reducible rfl); done)); try simp only [List.setIfInBounds_toArray, List.set_cons_zero, List.set_cons_succ]) | (refine wpI_off rfl rfl (wanted_no rfl rfl rfl) ?_; try simp only [List.setIfInBounds_toArray, List.set_cons_zero, List.set_cons_succ]) | (refine wpI_off rfl rfl (wanted_undef rfl rfl rfl) ?_; try simp only [List.setIfInBounds_toArray, List.set_cons_zero, List.set_cons_succ])))
  refine wpI_done ⟨?_, ?_⟩
  · intro u hu
    simp only [List.mem_cons, List.not_mem_nil, or_false] at hu
    subst hu
    exact ⟨_, rfl, rfl, wanted_free rfl, fun w => by go_simp⟩
  refine wpI_do rfl (wanted_free rfl) (fun wI hI hSI K hK => ?_); go_simp
  refine (within_ s 8 _ (by omega) (by omega)).mono ?_
  rintro e w3 ⟨rfl, rfl⟩
  refine hK.out _ _ (Below.refl _ _) ?_
  have hIa := Below.trans (Below.refl _ _).drew hI
  clear hK K hI hSI
  refine wpI_do rfl (wanted_free rfl) (fun wI hI hSI K hK => ?_); go_simp
  refine (within_ t 3 _ (by omega) (by omega)).mono ?_
  rintro e w4 ⟨rfl, rfl⟩
  rw [HJ.out]
  refine hK.out _ _ (Below.refl _ _) ?_
  have hIb := Below.trans hIa (Below.mono hI hIa.size)
  clear hK K hI hSI hIa
  refine wpI_done ?_
  intro g1 wf he hS hlo1 hhi1 hat1
  try simp only [List.setIfInBounds_toArray, List.set_cons_zero, List.set_cons_succ]
  have C1 := blk_get hat1
  have hIf := Below.trans hIb (Below.mono he hIb.size)
  have B2' := B2.ext hIf
  have hbT := Below.trans hbW (Below.mono hIf hbW.size)
  clear he hIf hIb hat1
  have D1 := D
  clear D
  have hj2 : ∃ m : Nat, j = m ∧ m < 3 ∧ #[Value.string ⟨#[97]⟩, .string ⟨#[98]⟩, .string ⟨#[99]⟩][m]? = some (.string n) := by
    rcases ht with rfl | rfl | rfl
    · exact ⟨0, rfl, by omega, by rw [← HN.out]; rfl⟩
    · exact ⟨1, rfl, by omega, by rw [← HN.out]; rfl⟩
    · exact ⟨2, rfl, by omega, by rw [← HN.out]; rfl⟩
  obtain ⟨m, rfl, hm3, hmn⟩ := hj2
  have hdm : decide ((m : Int) < 3) = true := by simp; omega
  have hmi : (m : Int) < 3 := by omega
  go_frame
  repeat ((with_reducible show wpPerm _ _ _ _ ((_, true) :: _) _ _); (first | (refine wpPerm_on (v := ?_) rfl rfl (wanted_free rfl) (fun w' hS => ?_) ?_; rotate_left; (focus (go_simp; (try with_reducible rfl); done)); try simp only [List.setIfInBounds_toArray, List.set_cons_zero, List.set_cons_succ]) | (refine wpPerm_on (v := ?_) rfl rfl (wanted_yes rfl rfl rfl) (fun w' hS => ?_) ?_; rotate_left; (focus (go_simp; (try with_reducible rfl); done)); try simp only [List.setIfInBounds_toArray, List.set_cons_zero, List.set_cons_succ]) | (refine wpPerm_off rfl rfl (wanted_no rfl rfl rfl) ?_; try simp only [List.setIfInBounds_toArray, List.set_cons_zero, List.set_cons_succ]) | (refine wpPerm_off rfl rfl (wanted_undef rfl rfl rfl) ?_; try simp only [List.setIfInBounds_toArray, List.set_cons_zero, List.set_cons_succ])))
  have hq : wf.cell? ⟨g1, m, none⟩ = some (.string n) := by rw [C1.cell]; exact hmn
  refine wpPerm_do rfl (wanted_free rfl) (fun K hK => ?_); go_simp
  refine hK.out _ _ hS ?_
  clear hK K hq
  repeat ((with_reducible show wpPerm _ _ _ _ ((_, true) :: _) _ _); (first | (refine wpPerm_on (v := ?_) rfl rfl (wanted_free rfl) (fun w' hS => ?_) ?_; rotate_left; (focus (go_simp; (try with_reducible rfl); done)); try simp only [List.setIfInBounds_toArray, List.set_cons_zero, List.set_cons_succ]) | (refine wpPerm_on (v := ?_) rfl rfl (wanted_yes rfl rfl rfl) (fun w' hS => ?_) ?_; rotate_left; (focus (go_simp; (try with_reducible rfl); done)); try simp only [List.setIfInBounds_toArray, List.set_cons_zero, List.set_cons_succ]) | (refine wpPerm_off rfl rfl (wanted_no rfl rfl rfl) ?_; try simp only [List.setIfInBounds_toArray, List.set_cons_zero, List.set_cons_succ]) | (refine wpPerm_off rfl rfl (wanted_undef rfl rfl rfl) ?_; try simp only [List.setIfInBounds_toArray, List.set_cons_zero, List.set_cons_succ])))
  have f0 := B2'.frozen 0
  have f1 := B2'.frozen 1
  have f2 := B2'.frozen 2
  have q := B2'.three (Below.refl _ _)
  refine wpPerm_do rfl (wanted_free rfl) (fun K hK => ?_); go_simp
  clear f0 f1 f2 q
  obtain ⟨w5, hw5, B5, hlow, hfar, hsz⟩ := B2'.set3 (.int .i64 (wi s 8)) (.string n) (.bool x)
  rw [← hw5]
  clear hw5
  refine hK.out _ _ ⟨hfar _ _ _ (by omega) hS.1, by have := hS.2; omega⟩ (wpPerm_done ?_)
  clear hK K
  have q := B5.three (Below.refl _ _)
  go_wp2
  exact bodyPost_ret (v := .agg #[.int .i64 (wi s 8), .string n, .bool x]) (by simp [results, Try.results12, go_sem, q]; try rfl) rfl
    ⟨rfl, Below.trans hbT (hlow _ (by omega))⟩
end Go.Proofs.Ytlfonenjgchklaa.lk
