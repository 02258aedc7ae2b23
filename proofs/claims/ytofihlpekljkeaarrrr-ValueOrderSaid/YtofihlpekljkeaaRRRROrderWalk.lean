/- The walk of ValueOrder: it returns true, whatever came in. -/
import Derived.Test.YtofihlpekljkeaaRRRRP
namespace Go.Proofs.YtofihlpekljkeaaRRRR.val
open Go.ChangeShapes Go.WideShapes Go.ChangeAt Go.RowKit Go.Proofs.YtofihlpekljkeaaRRRR.lib
set_option linter.unusedVariables false

theorem compareV (a b : V) (w : World) :
    Calls Try.prog 10 #[.agg #[.int .i64 a.k, .int .i64 a.n, .string a.s], .agg #[.int .i64 b.k, .int .i64 b.n, .string b.s]] w fun e w' => e = .returned (.int .i64 (cmpV a b)) ∧ Below w.heap.size w w' :=
  compare a.k a.n a.s b.k b.n b.s w

theorem compareC (a b : V) (c : Int) (w : World) (hc : cmpV a b = c) :
    Calls Try.prog 10 #[.agg #[.int .i64 a.k, .int .i64 a.n, .string a.s], .agg #[.int .i64 b.k, .int .i64 b.n, .string b.s]] w fun e w' => e = .returned (.int .i64 c) ∧ Below w.heap.size w w' := by
  subst hc
  exact compareV a b w

theorem goodV (k n : Int) (s : ByteArray) (w : World) (hs : s.size ≤ maxLen) (hk : -9223372036854775808 ≤ k) (hk' : k ≤ 9223372036854775807) (hn : -9223372036854775808 ≤ n) (hn' : n ≤ 9223372036854775807) (v : V) (hv : v = ⟨gK k, gN k n, gS k s⟩) :
    Calls Try.prog 9 #[.agg #[.int .i64 k, .int .i64 n, .string s]] w fun e w' => e = .returned (.agg #[.int .i64 v.k, .int .i64 v.n, .string v.s]) ∧ Below w.heap.size w w' := by
  subst hv
  exact good k n s w hs hk hk' hn hn'

/-- the box of a struct of three -/
theorem box_cells (w : World) (t : TypeId) (x y z : Value) : ∀ w', Below (w.heap.size + 1) (w.alloc (.cells #[x, y, z] t)) w' →
    w'.cell? ⟨w.heap.size, 0, none⟩ = some x ∧ w'.cell? ⟨w.heap.size, 1, none⟩ = some y ∧ w'.cell? ⟨w.heap.size, 2, none⟩ = some z := fun w' h =>
  ⟨(h.cell (p := ⟨_, _, _⟩) (by simp)).trans (by simp [go_sem]), (h.cell (p := ⟨_, _, _⟩) (by simp)).trans (by simp [go_sem]), (h.cell (p := ⟨_, _, _⟩) (by simp)).trans (by simp [go_sem])⟩

set_option maxHeartbeats 1000000 in
theorem order_walk (k1 n1 k2 n2 k3 n3 : Int) (s1 s2 s3 : ByteArray) (w : World) (hs1 : s1.size ≤ maxLen) (hs2 : s2.size ≤ maxLen) (hs3 : s3.size ≤ maxLen)
    (b1 : -9223372036854775808 ≤ k1 ∧ k1 ≤ 9223372036854775807) (b2 : -9223372036854775808 ≤ n1 ∧ n1 ≤ 9223372036854775807) (b3 : -9223372036854775808 ≤ k2 ∧ k2 ≤ 9223372036854775807) (b4 : -9223372036854775808 ≤ n2 ∧ n2 ≤ 9223372036854775807)
    (b5 : -9223372036854775808 ≤ k3 ∧ k3 ≤ 9223372036854775807) (b6 : -9223372036854775808 ≤ n3 ∧ n3 ≤ 9223372036854775807) :
    Calls Try.prog 3 #[.agg #[.int .i64 k1, .int .i64 n1, .string s1], .agg #[.int .i64 k2, .int .i64 n2, .string s2], .agg #[.int .i64 k3, .int .i64 n3, .string s3]] w fun e w' => e = .returned (.bool true) ∧ Below w.heap.size w w' := by
  go_enter Try.func3, Try.ntmps3
  go_wp2_with fail
  obtain ⟨W0, hW0, hB0, C⟩ : ∃ W0, W0 = ((w.alloc (.cells #[.int .i64 k1, .int .i64 n1, .string s1] 23)).alloc (.cells #[.int .i64 k2, .int .i64 n2, .string s2] 23)).alloc (.cells #[.int .i64 k3, .int .i64 n3, .string s3] 23) ∧ Below w.heap.size w W0 ∧
      Hid (∀ w', Below W0.heap.size W0 w' → w'.cell? ⟨w.heap.size, 0, none⟩ = some (.int .i64 k1) ∧ w'.cell? ⟨w.heap.size, 1, none⟩ = some (.int .i64 n1) ∧ w'.cell? ⟨w.heap.size, 2, none⟩ = some (.string s1) ∧
        w'.cell? ⟨w.heap.size + 1, 0, none⟩ = some (.int .i64 k2) ∧ w'.cell? ⟨w.heap.size + 1, 1, none⟩ = some (.int .i64 n2) ∧ w'.cell? ⟨w.heap.size + 1, 2, none⟩ = some (.string s2) ∧
        w'.cell? ⟨w.heap.size + 1 + 1, 0, none⟩ = some (.int .i64 k3) ∧ w'.cell? ⟨w.heap.size + 1 + 1, 1, none⟩ = some (.int .i64 n3) ∧ w'.cell? ⟨w.heap.size + 1 + 1, 2, none⟩ = some (.string s3)) := by
    refine ⟨_, rfl, (((Below.refl _ _).alloc (Nat.le_refl _) _).alloc (by simp) _).alloc (by simp; omega) _, Lib.hid ?_⟩
    intro w' h
    refine ⟨?_, ?_, ?_, ?_, ?_, ?_, ?_, ?_, ?_⟩
    all_goals exact (h.cell (p := ⟨_, _, _⟩) (by simp; try omega)).trans (by simp [go_sem])
  rw [← hW0]
  have hN : w.heap.size ≤ W0.heap.size := hB0.size
  clear hW0
  refine (known _).mono ?_
  rintro e w1 ⟨rfl, hb1⟩
  have C1 := C.out w1 hb1
  by_cases f1 : s1.size ≤ 80 <;> by_cases f2 : s2.size ≤ 80 <;> by_cases f3 : s3.size ≤ 80
  all_goals
    go_wp2_with ((go_at_call 8; refine (few _ _ _ _ (by assumption)).mono ?_; rintro e w2 ⟨rfl, hb2⟩; have hb1 := Below.trans hb1 (hb2.mono (by exact hb1.size)); have C1 := C.out w2 hb1))
  rotate_left
  all_goals first
    | (go_ret; exact ⟨rfl, Below.trans hB0 (Below.mono hb1 hN)⟩)
    | skip
  have C2 : ∀ w', Below w2.heap.size w2.drew w' → w'.cell? ⟨w.heap.size, 0, none⟩ = some (.int .i64 k1) ∧ w'.cell? ⟨w.heap.size, 1, none⟩ = some (.int .i64 n1) ∧ w'.cell? ⟨w.heap.size, 2, none⟩ = some (.string s1) ∧
        w'.cell? ⟨w.heap.size + 1, 0, none⟩ = some (.int .i64 k2) ∧ w'.cell? ⟨w.heap.size + 1, 1, none⟩ = some (.int .i64 n2) ∧ w'.cell? ⟨w.heap.size + 1, 2, none⟩ = some (.string s2) ∧
        w'.cell? ⟨w.heap.size + 1 + 1, 0, none⟩ = some (.int .i64 k3) ∧ w'.cell? ⟨w.heap.size + 1 + 1, 1, none⟩ = some (.int .i64 n3) ∧ w'.cell? ⟨w.heap.size + 1 + 1, 2, none⟩ = some (.string s3) :=
    fun w' h => C.out w' (Below.trans hb1 (Below.mono (Below.trans (Below.refl _ _).drew h) hb1.size))
  obtain ⟨x, hx⟩ : ∃ x : V, x = ⟨gK k1, gN k1 n1, gS k1 s1⟩ := ⟨_, rfl⟩
  obtain ⟨y, hy⟩ : ∃ x : V, x = ⟨gK k2, gN k2 n2, gS k2 s2⟩ := ⟨_, rfl⟩
  obtain ⟨z, hz⟩ : ∃ x : V, x = ⟨gK k3, gN k3 n3, gS k3 s3⟩ := ⟨_, rfl⟩
  have HX := Lib.hid hx
  have HY := Lib.hid hy
  have HZ := Lib.hid hz
  clear hx hy hz C1
  refine wp_region_mix3 ⟨6, 7, fun g => .pointer (some ⟨g, 0, none⟩), .cells #[.int .i64 0, .int .i64 0, .string ⟨#[]⟩] 23⟩ ⟨7, 8, fun g => .pointer (some ⟨g, 0, none⟩), .cells #[.int .i64 0, .int .i64 0, .string ⟨#[]⟩] 23⟩ ⟨8, 9, fun g => .pointer (some ⟨g, 0, none⟩), .cells #[.int .i64 0, .int .i64 0, .string ⟨#[]⟩] 23⟩
    [(0, true), (2, true), (4, true)] [(1, false), (3, false), (5, false)] [(9, false), (10, false), (11, false)] (by kernel_rfl) (by kernel_rfl) ?_
  repeat ((with_reducible show wpI _ _ _ _ _ ((_, true) :: _) _ _); (first | (refine wpI_on (v := ?_) rfl rfl (wanted_free rfl) (fun w' hS => ?_) ?_; rotate_left; (focus (go_simp; (try with_reducible rfl); done)); try simp only [Act.put, List.setIfInBounds_toArray, List.set_cons_zero, List.set_cons_succ]) | (refine wpI_on (v := ?_) rfl rfl (wanted_yes rfl rfl rfl) (fun w' hS => ?_) ?_; rotate_left; (focus (go_simp; (try with_reducible rfl); done)); try simp only [Act.put, List.setIfInBounds_toArray, List.set_cons_zero, List.set_cons_succ]) | (refine wpI_off rfl rfl (wanted_no rfl rfl rfl) ?_; try simp only [Act.put, List.setIfInBounds_toArray, List.set_cons_zero, List.set_cons_succ]) | (refine wpI_off rfl rfl (wanted_undef rfl rfl rfl) ?_; try simp only [Act.put, List.setIfInBounds_toArray, List.set_cons_zero, List.set_cons_succ])))
  refine wpI_done ⟨?_, ?_⟩
  · intro t ht
    simp only [List.mem_cons, List.not_mem_nil, or_false] at ht
    rcases ht with rfl | rfl | rfl <;> exact ⟨_, rfl, rfl, wanted_free rfl, fun w => by go_simp⟩
  refine wpI_do rfl (wanted_free rfl) (fun wI hI hSI K hK => ?_); go_simp
  refine (goodV _ _ _ _ hs1 b1.1 b1.2 b2.1 b2.2 x HX.out).mono ?_
  rintro e w3 ⟨rfl, hb3⟩
  refine hK.out _ _ hb3 ?_
  clear hK K
  refine wpI_do rfl (wanted_free rfl) (fun wI hI hSI K hK => ?_); go_simp
  refine (goodV _ _ _ _ hs2 b3.1 b3.2 b4.1 b4.2 y HY.out).mono ?_
  rintro e w4 ⟨rfl, hb4⟩
  refine hK.out _ _ hb4 ?_
  clear hK K
  refine wpI_do rfl (wanted_free rfl) (fun wI hI hSI K hK => ?_); go_simp
  refine (goodV _ _ _ _ hs3 b5.1 b5.2 b6.1 b6.2 z HZ.out).mono ?_
  rintro e w5 ⟨rfl, hb5⟩
  refine hK.out _ _ hb5 ?_
  clear hK K
  refine wpI_done ?_
  intro g1 g2 g3 wf he hb hlo1 hhi1 hat1 hlo2 hhi2 hat2 hlo3 hhi3 hat3 hn12 hn13 hn23
  simp only [List.setIfInBounds_toArray, List.set_cons_zero, List.set_cons_succ]
  have B1 : Blk wf g1 23 #[.int .i64 0, .int .i64 0, .string ⟨#[]⟩] := hat1
  have B2 : Blk wf g2 23 #[.int .i64 0, .int .i64 0, .string ⟨#[]⟩] := hat2
  have B3 : Blk wf g3 23 #[.int .i64 0, .int .i64 0, .string ⟨#[]⟩] := hat3
  clear hat1 hat2 hat3
  have q := B1.three (Below.refl _ _)
  have f := B1.free3
  refine wpPerm_do rfl (wanted_free rfl) (fun K hK => ?_); go_simp
  clear q f
  obtain ⟨wA, hw, B1, hbw, hfar, hsz⟩ := B1.set3 (.int .i64 x.k) (.int .i64 x.n) (.string x.s)
  rw [← hw]
  clear hw
  have hb := Below.trans hb (hbw _ hlo1)
  refine hK.out _ _ hb ?_
  clear hK K
  have B2 := hfar _ _ _ hn12.symm B2
  have B3 := hfar _ _ _ hn13.symm B3
  clear hfar hbw
  have q := B2.three (Below.refl _ _)
  have f := B2.free3
  refine wpPerm_do rfl (wanted_free rfl) (fun K hK => ?_); go_simp
  clear q f
  obtain ⟨wB, hw, B2, hbw, hfar, hsz⟩ := B2.set3 (.int .i64 y.k) (.int .i64 y.n) (.string y.s)
  rw [← hw]
  clear hw
  have hb := Below.trans hb (hbw _ hlo2)
  refine hK.out _ _ hb ?_
  clear hK K
  have B1 := hfar _ _ _ hn12 B1
  have B3 := hfar _ _ _ hn23.symm B3
  clear hfar hbw
  have q := B3.three (Below.refl _ _)
  have f := B3.free3
  refine wpPerm_do rfl (wanted_free rfl) (fun K hK => ?_); go_simp
  clear q f
  obtain ⟨wC, hw, B3, hbw, hfar, hsz⟩ := B3.set3 (.int .i64 z.k) (.int .i64 z.n) (.string z.s)
  rw [← hw]
  clear hw
  have hb := Below.trans hb (hbw _ hlo3)
  refine hK.out _ _ hb ?_
  clear hK K
  have B1 := hfar _ _ _ hn13 B1
  have B2 := hfar _ _ _ hn23 B2
  clear hfar hbw
  refine wpPerm_done ?_
  go_wp2_with fail
  have D : ∀ w', Below wC.heap.size wC.drew w' → (w'.cell? ⟨g1, 0, none⟩ = some (.int .i64 x.k) ∧ w'.cell? ⟨g1, 1, none⟩ = some (.int .i64 x.n) ∧ w'.cell? ⟨g1, 2, none⟩ = some (.string x.s)) ∧
      (w'.cell? ⟨g2, 0, none⟩ = some (.int .i64 y.k) ∧ w'.cell? ⟨g2, 1, none⟩ = some (.int .i64 y.n) ∧ w'.cell? ⟨g2, 2, none⟩ = some (.string y.s)) ∧
      (w'.cell? ⟨g3, 0, none⟩ = some (.int .i64 z.k) ∧ w'.cell? ⟨g3, 1, none⟩ = some (.int .i64 z.n) ∧ w'.cell? ⟨g3, 2, none⟩ = some (.string z.s)) :=
    fun w' h => ⟨B1.three (Below.trans (Below.refl _ _).drew h), B2.three (Below.trans (Below.refl _ _).drew h), B3.three (Below.trans (Below.refl _ _).drew h)⟩
  have HD := Lib.hid D
  obtain ⟨p, hp⟩ : ∃ p, cmpV x y = p := ⟨_, rfl⟩
  obtain ⟨q, hq⟩ : ∃ p, cmpV y z = p := ⟨_, rfl⟩
  obtain ⟨r, hr⟩ : ∃ p, cmpV x z = p := ⟨_, rfl⟩
  have hang := cmpV_hang x y z
  have bp := cmpV_bd x y
  rw [hp] at bp
  rw [hp, hq, hr] at hang
  unfold Hang at hang
  have hxx := Lib.hid (cmpV_refl x)
  have hyx : cmpV y x = -p := by rw [cmpV_anti, hp]
  have HYX := Lib.hid hyx
  have heq : ∀ W, (binOp .eql 23 (.agg #[.int .i64 x.k, .int .i64 x.n, .string x.s]) (.agg #[.int .i64 y.k, .int .i64 y.n, .string y.s])).run Try.prog W = .ok (.bool (p == 0)) W := fun W => by
    have e : vEq x.k x.n x.s y.k y.n y.s = (p == 0) := by
      have := cmpV_zero x y
      rw [hp] at this
      rw [Bool.eq_iff_iff, ← this]
      simp
    rw [← e]
    exact eqlV _ _ _ _ _ _ W
  have HP := Lib.hid hp
  have HQ := Lib.hid hq
  have HR := Lib.hid hr
  clear hp hq hr hyx
  refine wp_region_one [(0, true), (1, true), (3, true), (4, true), (6, true), (7, true), (2, false), (5, false), (8, false), (9, true), (10, true), (11, true)] (by kernel_rfl) (by kernel_rfl) (by kernel_rfl) (by decide) ?_
  repeat ((with_reducible show wpPerm _ _ _ _ ((_, true) :: _) _ _); (first | (refine wpPerm_on (v := ?_) rfl rfl (wanted_free rfl) (fun w' hS => ?_) ?_; rotate_left; (focus (go_simp; (try with_reducible rfl); done)); try simp only [Act.put, List.setIfInBounds_toArray, List.set_cons_zero, List.set_cons_succ]) | (refine wpPerm_on (v := ?_) rfl rfl (wanted_yes rfl rfl rfl) (fun w' hS => ?_) ?_; rotate_left; (focus (go_simp; (try with_reducible rfl); done)); try simp only [Act.put, List.setIfInBounds_toArray, List.set_cons_zero, List.set_cons_succ]) | (refine wpPerm_off rfl rfl (wanted_no rfl rfl rfl) ?_; try simp only [Act.put, List.setIfInBounds_toArray, List.set_cons_zero, List.set_cons_succ]) | (refine wpPerm_off rfl rfl (wanted_undef rfl rfl rfl) ?_; try simp only [Act.put, List.setIfInBounds_toArray, List.set_cons_zero, List.set_cons_succ])))
  refine wpPerm_do rfl (wanted_free rfl) (fun K hK => ?_); go_simp
  refine (compareC x y p _ HP.out).mono ?_
  rintro e w6 ⟨rfl, hb6⟩
  refine hK.out _ _ (Below.trans (Below.refl _ _) hb6) ?_
  clear hK K
  refine wpPerm_do rfl (wanted_free rfl) (fun K hK => ?_); go_simp
  refine (compareC y z q _ HQ.out).mono ?_
  rintro e w7 ⟨rfl, hb7⟩
  have hb7' : Below wC.heap.size wC.drew w7 := Below.trans hb6 (hb7.mono hb6.size)
  refine hK.out _ _ hb7' ?_
  clear hK K
  refine wpPerm_do rfl (wanted_free rfl) (fun K hK => ?_); go_simp
  refine (compareC x z r _ HR.out).mono ?_
  rintro e w8 ⟨rfl, hb8⟩
  have hb8' : Below wC.heap.size wC.drew w8 := Below.trans hb7' (hb8.mono hb7'.size)
  refine hK.out _ _ hb8' ?_
  clear hK K
  repeat ((with_reducible show wpPerm _ _ _ _ ((_, true) :: _) _ _); (first | (refine wpPerm_on (v := ?_) rfl rfl (wanted_free rfl) (fun w' hS => ?_) ?_; rotate_left; (focus (go_simp; (try with_reducible rfl); done)); try simp only [Act.put, List.setIfInBounds_toArray, List.set_cons_zero, List.set_cons_succ]) | (refine wpPerm_on (v := ?_) rfl rfl (wanted_yes rfl rfl rfl) (fun w' hS => ?_) ?_; rotate_left; (focus (go_simp; (try with_reducible rfl); done)); try simp only [Act.put, List.setIfInBounds_toArray, List.set_cons_zero, List.set_cons_succ]) | (refine wpPerm_off rfl rfl (wanted_no rfl rfl rfl) ?_; try simp only [Act.put, List.setIfInBounds_toArray, List.set_cons_zero, List.set_cons_succ]) | (refine wpPerm_off rfl rfl (wanted_undef rfl rfl rfl) ?_; try simp only [Act.put, List.setIfInBounds_toArray, List.set_cons_zero, List.set_cons_succ])))
  refine wpPerm_done ?_
  clear D
  have D1 := HD.out w8 hb8'
  go_wp2_with fail
  refine (compareC x x 0 _ hxx.out).mono ?_
  rintro e w9 ⟨rfl, hb9⟩
  have hb9' : Below wC.heap.size wC.drew w9 := Below.trans hb8' (hb9.mono hb8'.size)
  have D2 := HD.out w9 hb9'
  clear D1 C C2
  go_wp2_with fail
  refine (compareC y x (-p) _ HYX.out).mono ?_
  rintro e w10 ⟨rfl, hb10⟩
  have hb10' : Below wC.heap.size wC.drew w10 := Below.trans hb9' (hb10.mono hb9'.size)
  have D3 := HD.out w10 hb10'
  clear D2
  have hfin : Below w.heap.size w w10 := Below.trans hB0 (Below.mono (Below.trans hb1 (Below.mono (Below.trans (Below.refl _ _).drew (Below.trans hb (Below.mono (Below.trans (Below.refl _ _).drew hb10') hb.size))) hb1.size)) hN)
  clear C1 HD hxx HYX HP HQ HR HX HY HZ
  by_cases p1 : p < 0
  · by_cases q1 : 0 < q
    · go_wp2
      go_ret
      exact ⟨rfl, hfin⟩
    · have r1 : r < 0 := by omega
      go_wp2
      go_ret
      exact ⟨rfl, hfin⟩
  · by_cases p2 : 0 < p
    · go_wp2
      go_ret
      exact ⟨rfl, hfin⟩
    · by_cases q1 : 0 < q
      · go_wp2
        go_ret
        exact ⟨rfl, hfin⟩
      · have r1 : r ≤ 0 := by omega
        go_wp2
        go_ret
        exact ⟨rfl, hfin⟩
end Go.Proofs.YtofihlpekljkeaaRRRR.val
