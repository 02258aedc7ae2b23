/- Contract: the law's Row. Printed by genv4.py. -/
import Derived.Test.YtfgmlgflfagdjaaV3
namespace Go.Proofs.Ytfgmlgflfagdjaa.ev
open Go.ChangeShapes Go.WideShapes Go.ChangeAt Go.RowKit Go.Proofs.Ytfgmlgflfagdjaa.lib Go.Proofs.Ytfgmlgflfagdjaa.val
set_option linter.unusedVariables false

/-- a value that stands in the row's place number i -/
def RowV (i : Nat) (v : V) : Prop := GoodV v ∧ (v.k = 0 ∨ v.k = (colsL.map (·.k)).getD i 0)
def RowP (w : World) (e : Ending) (w' : World) : Prop :=
  ∃ (A : Option Addr) (c : Nat) (vs : List V), e = .returned (.slice A 4 c) ∧ vs.length = 4 ∧ Vals w' w'.heap.size A vs ∧ (∀ (i : Nat) v, vs[i]? = some v → RowV i v) ∧ Below w.heap.size w w'
theorem gcol {k : Nat} (h : k < 4) (v : V) : (gV ⟨(colsL.map (·.k)).getD k 0, v.n, v.s⟩).k = (colsL.map (·.k)).getD k 0 := by
  have : k = 0 ∨ k = 1 ∨ k = 2 ∨ k = 3 := by omega
  rcases this with rfl | rfl | rfl | rfl <;> rfl
theorem ok_col (k : Nat) (h : k < 4) : ok64 ((colsL.map (·.k)).getD k 0) := by
  have : k = 0 ∨ k = 1 ∨ k = 2 ∨ k = 3 := by omega
  rcases this with rfl | rfl | rfl | rfl <;> (unfold ok64; decide)
theorem good_s {v : V} (h : GoodV v) : v.s.size ≤ maxLen := Nat.le_trans h.s60 (by decide)
theorem goodr (v : V) (w : World) (h : Raw v) :
    Calls Try.prog 18 #[.agg #[.int .i64 v.k, .int .i64 v.n, .string v.s]] w fun e w' => e = .returned (.agg #[.int .i64 (gV v).k, .int .i64 (gV v).n, .string (gV v).s]) ∧ Below w.heap.size w w' :=
  good v.k v.n v.s w h.2.2 h.1.1 h.1.2 h.2.1.1 h.2.1.2
theorem col_cell {w : World} {b : Nat} (h : Cls w b colsL) (k : Nat) (hk : k < 4) : w.cell? ⟨b, k * 3 + 1, none⟩ = some (.int .i64 ((colsL.map (·.k)).getD k 0)) := by
  obtain ⟨c, hc⟩ : ∃ c, colsL[k]? = some c := ⟨_, List.getElem?_eq_getElem (show k < 4 from hk)⟩
  rw [(h.2 k c hc).2.1, List.getD_eq_getElem?_getD, List.getElem?_map, hc]
  rfl
theorem rowv_snoc {vs : List V} {k : Nat} {v : V} (h : ∀ (i : Nat) x, vs[i]? = some x → RowV i x) (hk : vs.length = k) (hv : RowV k v) : ∀ (i : Nat) x, (vs ++ [v])[i]? = some x → RowV i x := by
  intro i x hx
  rcases Nat.lt_or_ge i vs.length with hl | hl
  · rw [List.getElem?_append_left hl] at hx
    exact h i x hx
  · rw [List.getElem?_append_right hl] at hx
    cases hj : i - vs.length with
    | zero =>
      rw [hj] at hx
      injection hx with hx
      subst hx
      have : i = k := by omega
      subst this
      exact hv
    | succ j => rw [hj] at hx; cases hx
theorem raw_k {v : V} (h : GoodV v) {k : Int} (hk : ok64 k) : Raw ⟨k, v.n, v.s⟩ := ⟨hk, h.n64, Nat.le_trans h.s60 (by decide)⟩
set_option maxRecDepth 1000000 in
set_option maxHeartbeats 4000000 in
theorem row_ (l : List V) (A : Option Addr) (n c : Nat) (null : Int) (w : World) (hl : l.length = n) (hn : n ≤ 1000) (hraw : ∀ x ∈ l, Raw x) (hv : Vals w w.heap.size A l) (hnull : ok64 null) :
    Calls Try.prog 19 #[.slice A n c, .int .i64 null] w (RowP w) := by
  obtain ⟨z, hz, hz5⟩ : ∃ z : Nat, null % 5 = z ∧ z < 5 := ⟨(null % 5).toNat, by omega, by omega⟩
  have HZ := Lib.hid hz
  have HL := Lib.hid hl
  have HRAW := Lib.hid hraw
  have HV := Lib.hid hv
  clear hz hl hraw hv
  obtain ⟨i0, hi, hz0, hz1, hz2⟩ := info_parts (P := Try.prog) (e := 30) (z := .agg #[.int .i64 0, .int .i64 0, .string ⟨#[]⟩]) (size := 3) (bytes := 32) (by kernel_rfl)
  have hu : Try.prog.underlying 25 = some (.slice 30) := by kernel_rfl
  go_enter Try.func19, Try.ntmps19
  go_wp2_with fail
  refine (cols_ _).mono ?_
  rintro e w1 ⟨g, rfl, hcl, hlo, hb1⟩
  go_wp2_with fail
  go_loopw [5, 7] (fun r i wr => ∃ (k : Nat) (vs : List V), k ≤ 4 ∧ i = .int .i64 k ∧ vs.length = k ∧ wr.ownsRow w1.heap.size 30 3 r k (cellsV vs) ∧ Below w1.heap.size w1 wr ∧ Hid (∀ (i : Nat) v, vs[i]? = some v → RowV i v)) (fun _ i _ => 4 - (intOf i).toNat)
  case atStart => exact ⟨0, [], by omega, rfl, rfl, World.ownsRow_nil _ _ _ _, Below.refl _ _, Lib.hid (fun i v h => by cases h)⟩
  case round =>
    obtain ⟨k, vs, hk4, rfl, hkl, hown, hb, HR⟩ := hrel
    have HKL := Lib.hid hkl
    clear hkl
    obtain ⟨Al, cl, rfl, hvals, hAl⟩ := own_vals hown HKL.out
    rcases Nat.lt_or_ge k 4 with hlt | hge
    · have hd : decide ((k : Int) < 4) = true := by simp; omega
      have hd4 : decide (k < 4) = true := by simp; omega
      have hk4' : (k : Int) < 4 := by omega
      have qcol : ∀ w', Below w1.heap.size w1 w' → w'.cell? ⟨g, k * 3 + 1, none⟩ = some (.int .i64 ((colsL.map (·.k)).getD k 0)) := fun w' h => col_cell (hcl.ext h) k hlt
      have hkc := ok_col k hlt
      have HGC := Lib.hid (fun v => gcol hlt v)
      obtain ⟨kc, hkce⟩ : ∃ x, (colsL.map (·.k)).getD k 0 = x := ⟨_, rfl⟩
      have HGC := HGC.out
      rw [hkce] at qcol hkc
      simp only [hkce] at HGC
      have HGC := Lib.hid HGC
      have HGK := Lib.hid hkce.symm
      clear hkce

      rcases Nat.lt_or_ge k n with hkn | hkn
      · have hdn : decide ((k : Int) < (n : Int)) = true := by simp; omega
        have hkn' : (k : Int) < (n : Int) := by omega
        obtain ⟨b, off, rfl, hlb, hcell⟩ := HV.out (by rw [HL.out]; omega)
        obtain ⟨y, hy⟩ : ∃ y, l[k]? = some y := ⟨_, List.getElem?_eq_getElem (by rw [HL.out]; exact hkn)⟩
        have HY := Lib.hid (HRAW.out y (List.mem_of_getElem? hy))
        have q0 : ∀ o, (wr.alloc o).cell? ⟨b, off + k * 3, none⟩ = some (.int .i64 y.k) := fun o => (World.cell?_alloc_lt wr o _ (by show b < _; have := hb1.size; have := hb.size; omega)).trans (((Below.trans hb1 (Below.mono hb hb1.size)).cell (by exact hlb)).trans (hcell k y hy).1)
        have q1 : ∀ o, (wr.alloc o).cell? ⟨b, off + k * 3 + 1, none⟩ = some (.int .i64 y.n) := fun o => (World.cell?_alloc_lt wr o _ (by show b < _; have := hb1.size; have := hb.size; omega)).trans (((Below.trans hb1 (Below.mono hb hb1.size)).cell (by exact hlb)).trans (hcell k y hy).2.1)
        have q2 : ∀ o, (wr.alloc o).cell? ⟨b, off + k * 3 + 2, none⟩ = some (.string y.s) := fun o => (World.cell?_alloc_lt wr o _ (by show b < _; have := hb1.size; have := hb.size; omega)).trans (((Below.trans hb1 (Below.mono hb hb1.size)).cell (by exact hlb)).trans (hcell k y hy).2.2)
        clear hy hcell
        go_wp2_with fail
        clear q0 q1 q2
        obtain ⟨W, hW_, hbW, B8⟩ : ∃ W_, W_ = (wr.alloc (.cells #[.int .i64 0, .int .i64 0, .string ⟨#[]⟩] 30)) ∧ Below wr.heap.size wr W_ ∧ Blk W_ (wr.heap.size) 30 #[.int .i64 0, .int .i64 0, .string ⟨#[]⟩] :=
          ⟨_, rfl, ((Below.refl _ _).alloc (Nat.le_refl _) _), (blk_new_at wr (wr.heap.size) _ _ (by simp))⟩
        rw [← hW_]
        clear hW_
        refine (goodr y _ HY.out).mono ?_
        rintro e w5 ⟨rfl, hb5⟩
        have hx1 := good_g HY.out
        obtain ⟨x1, hx1e⟩ : ∃ x, gV y = x := ⟨_, rfl⟩
        rw [hx1e] at hx1 ⊢
        have B8' := B8.ext hb5
        have hb5' : Below wr.heap.size wr w5 := bch0 hbW hb5
        have q_ := B8'.three (Below.refl _ _)
        have f_ := B8'.free3
        go_upto_region 9 with fail
        clear q_ f_ B8
        obtain ⟨wA, hwA, BA, hbA, _, _⟩ := B8'.set3 (.int .i64 x1.k) (.int .i64 x1.n) (.string x1.s)
        rw [← hwA]
        clear hwA
        have hb6 := Below.trans hb5' (hbA _ (Nat.le_refl _))
        clear B8' hb5 hb5' hbA hbW
        have qc := qcol wA (Below.trans hb (Below.mono hb6 hb.size))
        have f_ := BA.free3
        have q_ := BA.three (Below.refl _ _)
        go_upto_region 10 with fail
        clear qc f_ q_
        have BC : Blk (wA.setCell ⟨wr.heap.size, 0, none⟩ (.int .i64 kc)) wr.heap.size 30 #[.int .i64 kc, .int .i64 x1.n, .string x1.s] := by simpa using BA.set_ 0 (.int .i64 kc)
        have hb7 := hb6.setCell (p := ⟨wr.heap.size, 0, none⟩) (Nat.le_refl _) (.int .i64 kc)
        obtain ⟨wC, hwC⟩ : ∃ x, wA.setCell ⟨wr.heap.size, 0, none⟩ (.int .i64 kc) = x := ⟨_, rfl⟩
        rw [hwC] at BC hb7 ⊢
        clear hwC
        clear BA hb6
        have hraw2 := raw_k hx1 hkc
        have hgk := HGC.out x1
        have HX2 := Lib.hid hraw2
        have q_ := BC.three (Below.refl _ _)
        go_wp2_with fail
        clear q_
        refine (goodr ⟨kc, x1.n, x1.s⟩ _ HX2.out).mono ?_
        rintro e w7 ⟨rfl, hb8⟩
        have hx3 := good_g HX2.out
        obtain ⟨x3, hx3e⟩ : ∃ x, gV ⟨kc, x1.n, x1.s⟩ = x := ⟨_, rfl⟩
        rw [hx3e] at hx3 hgk ⊢
        have HGX := Lib.hid hgk
        clear hgk
        clear hx1e hx3e
        have B8' := BC.ext hb8
        have hb5' : Below wr.heap.size wr w7 := Below.trans hb7 (Below.mono hb8 hb7.size)
        have q_ := B8'.three (Below.refl _ _)
        have f_ := B8'.free3
        go_upto_region 11 with fail
        clear q_ f_ BC
        obtain ⟨wB, hwB, B8, hbD, _, _⟩ := B8'.set3 (.int .i64 x3.k) (.int .i64 x3.n) (.string x3.s)
        rw [← hwB]
        clear hwB
        have hbB := Below.trans hb5' (hbD _ (Nat.le_refl _))
        clear B8' hb5' hbD hb7 hb8
        go_wp2_with fail

        refine (withinr _ _ _ HZ.out _ (by decide) (by decide) hnull).mono ?_
        rintro e w6 ⟨rfl, rfl⟩
        rcases Classical.em (z = k) with hzk | hzk
        · have hzd : ((z : Int) == (k : Int)) = true := by simp; omega
          clear hzk
          have q_ := B8.three (Below.refl _ _)
          have f_ := B8.free3
          go_upto_region 13 with fail
          clear q_ f_
          obtain ⟨wE, hwE, BE, hbE, hfarE, _⟩ := B8.set3 (.int .i64 0) (.int .i64 0) (.string ⟨#[]⟩)
          rw [← hwE]
          clear hwE
          have hbW := Below.trans hbB (hbE _ (Nat.le_refl _))
          have hy : RowV k nul := ⟨good_nul, .inl rfl⟩
          have hownE := own_ext hown hbW
          have hsE := hbW.size
          have hsr := hb.size
          have hb9 : Below w1.heap.size w1 wE := Below.trans hb (Below.mono hbW hb.size)
          have HY9 := Lib.hid hy
          clear hy
          have q8 := BE.three (Below.refl _ _)
          go_wp2_with (at_builtin; refine wpList_append_own _ rfl _ _ 25 rfl w1.heap.size 30 i0 (.agg #[.int .i64 0, .int .i64 0, .string ⟨#[]⟩]) 3 32 hu hi hz0 hz1 hz2 rfl (by decide) _ _ _ rfl (hownE.alloc _) ⟨wE.heap.size, 0, none⟩ 1 1 [.int .i64 0, .int .i64 0, .string ⟨#[]⟩] rfl rfl ?c1 ?c2 ?c3 ?c4 ?c5 ?_)
          case c1 =>
            intro j u hj
            match j, hj with
            | 0, hj => simp at hj; subst hj; simp [Addr.add]
            | 1, hj => simp at hj; subst hj; simp [Addr.add]
            | 2, hj => simp at hj; subst hj; simp [Addr.add]
          case c2 => intro u hu; simp at hu; rcases hu with rfl | rfl | rfl <;> rfl
          case c3 => unfold maxLen; omega
          case c4 => omega
          case c5 => simp; omega
          intro v' w9 hown9 hgrow9 _
          clear q8
          have hb10 : Below w1.heap.size w1 w9 := (hb9.alloc (by omega) _).grown hgrow9 (by simp; omega) (fun g hg => (hownE.lt g hg).1)
          go_wp2
          go_roundw
          case rel => exact ⟨k + 1, vs ++ [nul], by omega, by go_num, by simp [HKL.out], by rw [append_cells]; exact hown9, hb10, Lib.hid (rowv_snoc HR.out HKL.out HY9.out)⟩
          case measure => simp [intOf]; omega
        · have hzd : ((z : Int) == (k : Int)) = false := by simp; omega
          clear hzk
          have BE := B8
          have hbW := hbB
          have hy : RowV k x3 := ⟨hx3, .inr (HGX.out.trans HGK.out)⟩
          have hownE := own_ext hown hbW
          have hsE := hbW.size
          have hsr := hb.size
          have hb9 : Below w1.heap.size w1 wB := Below.trans hb (Below.mono hbW hb.size)
          have HY9 := Lib.hid hy
          clear hy
          have q8 := BE.three (Below.refl _ _)
          go_wp2_with (at_builtin; refine wpList_append_own _ rfl _ _ 25 rfl w1.heap.size 30 i0 (.agg #[.int .i64 0, .int .i64 0, .string ⟨#[]⟩]) 3 32 hu hi hz0 hz1 hz2 rfl (by decide) _ _ _ rfl (hownE.alloc _) ⟨wB.heap.size, 0, none⟩ 1 1 [.int .i64 (x3).k, .int .i64 (x3).n, .string (x3).s] rfl rfl ?c1 ?c2 ?c3 ?c4 ?c5 ?_)
          case c1 =>
            intro j u hj
            match j, hj with
            | 0, hj => simp at hj; subst hj; simp [Addr.add]
            | 1, hj => simp at hj; subst hj; simp [Addr.add]
            | 2, hj => simp at hj; subst hj; simp [Addr.add]
          case c2 => intro u hu; simp at hu; rcases hu with rfl | rfl | rfl <;> rfl
          case c3 => unfold maxLen; omega
          case c4 => omega
          case c5 => simp; omega
          intro v' w9 hown9 hgrow9 _
          clear q8
          have hb10 : Below w1.heap.size w1 w9 := (hb9.alloc (by omega) _).grown hgrow9 (by simp; omega) (fun g hg => (hownE.lt g hg).1)
          go_wp2
          go_roundw
          case rel => exact ⟨k + 1, vs ++ [x3], by omega, by go_num, by simp [HKL.out], by rw [append_cells]; exact hown9, hb10, Lib.hid (rowv_snoc HR.out HKL.out HY9.out)⟩
          case measure => simp [intOf]; omega
      · have hdn : decide ((k : Int) < (n : Int)) = false := by simp; omega
        go_wp2_with fail
        obtain ⟨wB, hW_, hbB, B8⟩ : ∃ W_, W_ = (wr.alloc (.cells #[.int .i64 0, .int .i64 0, .string ⟨#[]⟩] 30)) ∧ Below wr.heap.size wr W_ ∧ Blk W_ (wr.heap.size) 30 #[.int .i64 0, .int .i64 0, .string ⟨#[]⟩] :=
          ⟨_, rfl, ((Below.refl _ _).alloc (Nat.le_refl _) _), (blk_new_at wr (wr.heap.size) _ _ (by simp))⟩
        rw [← hW_]
        clear hW_

        refine (withinr _ _ _ HZ.out _ (by decide) (by decide) hnull).mono ?_
        rintro e w6 ⟨rfl, rfl⟩
        rcases Classical.em (z = k) with hzk | hzk
        · have hzd : ((z : Int) == (k : Int)) = true := by simp; omega
          clear hzk
          have q_ := B8.three (Below.refl _ _)
          have f_ := B8.free3
          go_upto_region 13 with fail
          clear q_ f_
          obtain ⟨wE, hwE, BE, hbE, hfarE, _⟩ := B8.set3 (.int .i64 0) (.int .i64 0) (.string ⟨#[]⟩)
          rw [← hwE]
          clear hwE
          have hbW := Below.trans hbB (hbE _ (Nat.le_refl _))
          have hy : RowV k nul := ⟨good_nul, .inl rfl⟩
          have hownE := own_ext hown hbW
          have hsE := hbW.size
          have hsr := hb.size
          have hb9 : Below w1.heap.size w1 wE := Below.trans hb (Below.mono hbW hb.size)
          have HY9 := Lib.hid hy
          clear hy
          have q8 := BE.three (Below.refl _ _)
          go_wp2_with (at_builtin; refine wpList_append_own _ rfl _ _ 25 rfl w1.heap.size 30 i0 (.agg #[.int .i64 0, .int .i64 0, .string ⟨#[]⟩]) 3 32 hu hi hz0 hz1 hz2 rfl (by decide) _ _ _ rfl (hownE.alloc _) ⟨wE.heap.size, 0, none⟩ 1 1 [.int .i64 0, .int .i64 0, .string ⟨#[]⟩] rfl rfl ?c1 ?c2 ?c3 ?c4 ?c5 ?_)
          case c1 =>
            intro j u hj
            match j, hj with
            | 0, hj => simp at hj; subst hj; simp [Addr.add]
            | 1, hj => simp at hj; subst hj; simp [Addr.add]
            | 2, hj => simp at hj; subst hj; simp [Addr.add]
          case c2 => intro u hu; simp at hu; rcases hu with rfl | rfl | rfl <;> rfl
          case c3 => unfold maxLen; omega
          case c4 => omega
          case c5 => simp; omega
          intro v' w9 hown9 hgrow9 _
          clear q8
          have hb10 : Below w1.heap.size w1 w9 := (hb9.alloc (by omega) _).grown hgrow9 (by simp; omega) (fun g hg => (hownE.lt g hg).1)
          go_wp2
          go_roundw
          case rel => exact ⟨k + 1, vs ++ [nul], by omega, by go_num, by simp [HKL.out], by rw [append_cells]; exact hown9, hb10, Lib.hid (rowv_snoc HR.out HKL.out HY9.out)⟩
          case measure => simp [intOf]; omega
        · have hzd : ((z : Int) == (k : Int)) = false := by simp; omega
          clear hzk
          have BE := B8
          have hbW := hbB
          have hy : RowV k nul := ⟨good_nul, .inl rfl⟩
          have hownE := own_ext hown hbW
          have hsE := hbW.size
          have hsr := hb.size
          have hb9 : Below w1.heap.size w1 wB := Below.trans hb (Below.mono hbW hb.size)
          have HY9 := Lib.hid hy
          clear hy
          have q8 := BE.three (Below.refl _ _)
          go_wp2_with (at_builtin; refine wpList_append_own _ rfl _ _ 25 rfl w1.heap.size 30 i0 (.agg #[.int .i64 0, .int .i64 0, .string ⟨#[]⟩]) 3 32 hu hi hz0 hz1 hz2 rfl (by decide) _ _ _ rfl (hownE.alloc _) ⟨wB.heap.size, 0, none⟩ 1 1 [.int .i64 0, .int .i64 0, .string ⟨#[]⟩] rfl rfl ?c1 ?c2 ?c3 ?c4 ?c5 ?_)
          case c1 =>
            intro j u hj
            match j, hj with
            | 0, hj => simp at hj; subst hj; simp [Addr.add]
            | 1, hj => simp at hj; subst hj; simp [Addr.add]
            | 2, hj => simp at hj; subst hj; simp [Addr.add]
          case c2 => intro u hu; simp at hu; rcases hu with rfl | rfl | rfl <;> rfl
          case c3 => unfold maxLen; omega
          case c4 => omega
          case c5 => simp; omega
          intro v' w9 hown9 hgrow9 _
          clear q8
          have hb10 : Below w1.heap.size w1 w9 := (hb9.alloc (by omega) _).grown hgrow9 (by simp; omega) (fun g hg => (hownE.lt g hg).1)
          go_wp2
          go_roundw
          case rel => exact ⟨k + 1, vs ++ [nul], by omega, by go_num, by simp [HKL.out], by rw [append_cells]; exact hown9, hb10, Lib.hid (rowv_snoc HR.out HKL.out HY9.out)⟩
          case measure => simp [intOf]; omega
    · obtain rfl : k = 4 := by omega
      have hd : decide (((4 : Nat) : Int) < 4) = false := by decide
      obtain ⟨gr, rfl, hgr⟩ := hAl (by omega)
      have HHR := Lib.hid HR.out
      have hb11 : Below w.heap.size w wr := Below.trans hb1 (Below.mono hb hb1.size)
      have hcl2 := hcl.ext hb
      clear hown hAl
      obtain ⟨wo, rfl⟩ : ∃ x, x = wr := ⟨_, rfl⟩
      go_wp2_with fail
      go_loopw [9] (fun i wr => ∃ (m : Nat), m ≤ 4 ∧ i = .int .i64 m ∧ Below wo.heap.size wo wr) (fun i _ => 4 - (intOf i).toNat)
      case atStart => exact ⟨0, by omega, rfl, Below.refl _ _⟩
      case round =>
        obtain ⟨m, hm4, rfl, hbx⟩ := hrel
        rcases Nat.lt_or_ge m 4 with hlt | hge
        · have hd : decide ((m : Int) < 4) = true := by simp; omega
          have hm5 : (m : Int) < 4 := by omega
          obtain ⟨v, hv⟩ : ∃ v, vs[m]? = some v := ⟨_, List.getElem?_eq_getElem (by rw [HKL.out]; exact hlt)⟩
          have hrv := (HHR.out m v hv).2
          have DV := fun w' (h : Below wr.heap.size wr.drew w') => (hvals.below (Below.trans hbx (Below.mono (Below.trans (Below.refl _ _).drew h) hbx.size))).at_ hv
          have DC := fun w' (h : Below wr.heap.size wr.drew w') => col_cell (hcl2.ext (bch0 hbx (Below.trans (Below.refl _ _).drew h))) m hlt
          simp only [Nat.zero_add] at DV
          clear hv
          obtain ⟨kc, hkce⟩ : ∃ x, (colsL.map (·.k)).getD m 0 = x := ⟨_, rfl⟩
          simp only [hkce] at DC hrv
          clear hkce
          obtain ⟨vk, vn, vt⟩ := v
          simp only at hrv DV
          by_cases he : vk = kc
          · have hx : (vk != kc) = false := by simpa using he
            clear he hrv
            go_wp2_with fail
            refine wp_region_one [(0, true), (1, true), (2, true), (3, true), (4, true), (5, true), (6, true), (7, true), (8, true), (9, true), (10, true), (11, true), (12, true), (13, true), (14, true), (15, true), (16, true), (17, true), (18, true)] (by kernel_rfl) (by kernel_rfl) (by kernel_rfl) (by decide) ?_
            repeat ((with_reducible show wpPerm _ _ _ _ ((_, true) :: _) _ _); (first | (refine wpPerm_on (v := ?_) rfl rfl (wanted_free rfl) (fun w' hS => ?_) ?_; rotate_left; (focus (go_simp; (try with_reducible rfl); done)); try simp only [List.setIfInBounds_toArray, List.set_cons_zero, List.set_cons_succ]) | (refine wpPerm_on (v := ?_) rfl rfl (wanted_yes rfl rfl rfl) (fun w' hS => ?_) ?_; rotate_left; (focus (go_simp; (try with_reducible rfl); done)); try simp only [List.setIfInBounds_toArray, List.set_cons_zero, List.set_cons_succ]) | (refine wpPerm_off rfl rfl (wanted_no rfl rfl rfl) ?_; try simp only [List.setIfInBounds_toArray, List.set_cons_zero, List.set_cons_succ]) | (refine wpPerm_off rfl rfl (wanted_undef rfl rfl rfl) ?_; try simp only [List.setIfInBounds_toArray, List.set_cons_zero, List.set_cons_succ])))
            refine wpPerm_done ?_
            clear DV DC
            go_wp2
            go_roundw
            case rel => exact ⟨m + 1, by omega, by go_num, hbx.drew⟩
            case measure => simp [intOf]; omega
          · have hx : (vk != kc) = true := by simpa using he
            have h0 : vk = 0 := by omega
            subst h0
            clear he hrv
            go_wp2_with fail
            refine wp_region_one [(0, true), (1, true), (2, true), (3, true), (4, true), (5, true), (6, true), (7, true), (8, true), (9, true), (10, true), (11, true), (12, true), (13, true), (14, true), (15, true), (16, true), (17, true), (18, true)] (by kernel_rfl) (by kernel_rfl) (by kernel_rfl) (by decide) ?_
            repeat ((with_reducible show wpPerm _ _ _ _ ((_, true) :: _) _ _); (first | (refine wpPerm_on (v := ?_) rfl rfl (wanted_free rfl) (fun w' hS => ?_) ?_; rotate_left; (focus (go_simp; (try with_reducible rfl); done)); try simp only [List.setIfInBounds_toArray, List.set_cons_zero, List.set_cons_succ]) | (refine wpPerm_on (v := ?_) rfl rfl (wanted_yes rfl rfl rfl) (fun w' hS => ?_) ?_; rotate_left; (focus (go_simp; (try with_reducible rfl); done)); try simp only [List.setIfInBounds_toArray, List.set_cons_zero, List.set_cons_succ]) | (refine wpPerm_off rfl rfl (wanted_no rfl rfl rfl) ?_; try simp only [List.setIfInBounds_toArray, List.set_cons_zero, List.set_cons_succ]) | (refine wpPerm_off rfl rfl (wanted_undef rfl rfl rfl) ?_; try simp only [List.setIfInBounds_toArray, List.set_cons_zero, List.set_cons_succ])))
            refine wpPerm_done ?_
            clear DV DC
            go_wp2
            go_roundw
            case rel => exact ⟨m + 1, by omega, by go_num, hbx.drew⟩
            case measure => simp [intOf]; omega
        · obtain rfl : m = 4 := by omega
          have hd : decide (((4 : Nat) : Int) < 4) = false := by decide
          go_wp2
          go_ret
          exact ⟨some ⟨gr, 0, none⟩, cl, vs, rfl, HKL.out, hvals5 hvals hbx, HHR.out, Below.trans hb11 (Below.mono hbx hb11.size)⟩
end Go.Proofs.Ytfgmlgflfagdjaa.ev

/- Plain: a value is nothing, or of its expression's kind, and may be. -/
namespace Go.Proofs.Ytfgmlgflfagdjaa.ev
open Go.ChangeShapes Go.WideShapes Go.ChangeAt Go.RowKit Go.Proofs.Ytfgmlgflfagdjaa.lib Go.Proofs.Ytfgmlgflfagdjaa.val
set_option linter.unusedVariables false

/-- nothing, or of that kind, and such as may be -/
def Of (k : Int) (v : V) : Prop := GoodV v ∧ (v.k = 0 ∨ v.k = k)
theorem of_nul (k : Int) : Of k nul := ⟨good_nul, .inl rfl⟩
theorem of_tru (b : Bool) : Of 1 (tru b) := by
  refine ⟨?_, .inr rfl⟩
  cases b <;> exact ⟨by decide, by unfold ok64; decide, by decide, by decide⟩
theorem of_int {n : Int} (h : ok64 n) : Of 2 ⟨2, n, ByteArray.empty⟩ := by
  have e : vEq 2 n ByteArray.empty 2 (bareN 2 n) (bareS 2 ByteArray.empty) = true := by simp [vEq, bareN, bareS]; rfl
  have c : chk 2 n ByteArray.empty = 0 := by
    unfold chk
    rw [if_neg (by omega), if_neg (by rw [e]; simp), if_neg (by decide)]
  exact ⟨⟨c, h, show ByteArray.empty.size ≤ 60 by decide, show (0 : Int) ≤ 2 ∧ (2 : Int) < 4 by decide⟩, .inr rfl⟩
theorem vEqV_k {a b : V} (h : vEqV a b = true) : a.k = b.k := by
  unfold vEqV vEq at h
  simp only [Bool.and_eq_true, beq_iff_eq] at h
  exact h.1
theorem of_logic (d : Bool) {a b : V} (ha : GoodV a) (hb : GoodV b) : Of 1 (logicV d a b) := by
  unfold logicV
  split
  · next h => exact ⟨ha, .inr (vEqV_k h)⟩
  split
  · next h => exact ⟨hb, .inr (vEqV_k h)⟩
  split
  · exact of_nul 1
  · exact of_tru _
theorem pick_k {c : Prop} [Decidable c] {x k : Int} (h : (if c then (x, (0 : Int)) else (0, 3)) = (k, 0)) : k = x := by
  split at h
  · injection h with h _
    exact h.symm
  · injection h with _ h
    exact absurd h (by decide)
theorem of_pair {op ka kb k : Int} {a b v : V} (hop : 3 ≤ op ∧ op ≤ 16) (hm : madeV op ka kb = (k, 0)) (ha : Of ka a) (hb : Of kb b) (h : pairV op a b = some v) : Of k v := by
  have hk : k = if op = 5 then 1 else if op = 4 ∨ 14 ≤ op then 2 else 1 := by
    unfold madeV at hm
    by_cases h5 : op = 5
    · rw [if_pos h5] at hm ⊢
      injection hm with hm _
      exact hm.symm
    · rw [if_neg h5] at hm ⊢
      exact pick_k hm
  unfold pairV at h
  by_cases h5 : op = 5
  · rw [if_pos h5] at h hk
    injection h with h
    subst h hk
    exact of_tru _
  rw [if_neg h5] at h hk
  by_cases h6 : op = 6
  · rw [if_pos h6] at h
    rw [if_neg (by omega)] at hk
    injection h with h
    subst h hk
    exact of_logic _ ha.1 hb.1
  rw [if_neg h6] at h
  by_cases h7 : op = 7
  · rw [if_pos h7] at h
    rw [if_neg (by omega)] at hk
    injection h with h
    subst h hk
    exact of_logic _ ha.1 hb.1
  rw [if_neg h7] at h
  by_cases h0 : a.k = 0 ∨ b.k = 0
  · rw [if_pos h0] at h
    injection h with h
    subst h
    exact of_nul _
  rw [if_neg h0] at h
  by_cases h3 : op = 3 ∨ (8 ≤ op ∧ op ≤ 13)
  · rw [if_pos h3] at h
    rw [if_neg (by omega)] at hk
    injection h with h
    subst h hk
    exact of_tru _
  rw [if_neg h3] at h
  rw [if_pos (by omega)] at hk
  split at h
  · next ho =>
    injection h with h
    subst h hk
    exact of_int ho
  · cases h
/-- the kinds, and the values, one by one -/
def OfAll (ks : List Int) (vs : List V) : Prop := vs.length = ks.length ∧ ∀ i, i < ks.length → Of (ks.getD i 0) (vs.getD i nul)
theorem ofall_snoc {ks : List Int} {vs : List V} {k : Int} {v : V} (h : OfAll ks vs) (hv : Of k v) : OfAll (ks ++ [k]) (vs ++ [v]) := by
  refine ⟨by simp [h.1], fun i hi => ?_⟩
  rcases Nat.lt_or_ge i ks.length with hl | hl
  · have := h.2 i hl
    rw [List.getD_eq_getElem?_getD, List.getElem?_append_left hl, List.getD_eq_getElem?_getD, List.getElem?_append_left (by rw [h.1]; exact hl), ← List.getD_eq_getElem?_getD, ← List.getD_eq_getElem?_getD]
    exact this
  · have e : i = ks.length := by simp at hi; omega
    subst e
    rw [List.getD_eq_getElem?_getD, List.getElem?_append_right (Nat.le_refl _), List.getD_eq_getElem?_getD, List.getElem?_append_right (by rw [h.1]; exact Nat.le_refl _), Nat.sub_self, h.1, Nat.sub_self]
    exact hv
theorem of_node {F : ByteArray → Int × Int} {G : ByteArray → Int} {Rv : ByteArray → V} {ks : List Int} {vs : List V} {n : Nd} {k : Int} {v : V} (h : OfAll ks vs) (hk : kindN F G ks n = (k, 0)) (hv : nodeR Rv vs n = some v)
    (hr : (F n.s).2 = 0 → Of (G n.s) (Rv n.s)) (hn : ok64 n.v.n) (hs : n.v.s.size ≤ 60) : Of k v := by
  unfold kindN at hk
  by_cases c1 : partsV n.op = -1
  · rw [if_pos c1] at hk; cases hk
  rw [if_neg c1] at hk
  unfold nodeR nodeV at hv
  by_cases c2 : n.op = 1
  · rw [if_pos c2] at hk
    rw [if_neg (by omega), if_pos c2] at hv
    injection hv with hv
    injection hk with hk hc
    subst hv hk
    have h4 : 0 ≤ n.v.k ∧ n.v.k < 4 := by
      unfold chk at hc
      split at hc
      · cases hc
      · omega
    exact ⟨⟨hc, hn, hs, h4⟩, .inr rfl⟩
  rw [if_neg c2] at hk
  by_cases c3 : n.op = 2
  · rw [if_pos c3] at hk
    rw [if_pos c3] at hv
    injection hv with hv
    subst hv
    split at hk
    · next hf =>
      injection hk with hk _
      subst hk
      exact hr hf
    · next hf =>
      injection hk with _ hk
      exact absurd hk hf
  rw [if_neg c3] at hk hv
  rw [if_neg c2] at hv
  have hop : 3 ≤ n.op ∧ n.op ≤ 16 := by
    unfold partsV at c1
    rw [if_neg (by omega)] at c1
    by_cases h5 : n.op = 3 ∨ n.op = 4 ∨ n.op = 5
    · omega
    · rw [if_neg h5] at c1
      by_cases h6 : 6 ≤ n.op ∧ n.op ≤ 16
      · omega
      · rw [if_neg h6] at c1; exact absurd rfl c1
  by_cases c4 : n.a < 0 ∨ (ks.length : Int) ≤ n.a
  · rw [if_pos c4] at hk; cases hk
  rw [if_neg c4] at hk
  have oa := h.2 n.a.toNat (by omega)
  by_cases c5 : n.op ≤ 5
  · rw [if_pos c5] at hk hv
    exact of_pair hop hk oa oa hv
  rw [if_neg c5] at hk hv
  by_cases c6 : n.b < 0 ∨ (ks.length : Int) ≤ n.b
  · rw [if_pos c6] at hk; cases hk
  rw [if_neg c6] at hk
  exact of_pair hop hk oa (h.2 n.b.toNat (by omega)) hv
theorem of_vals {F : ByteArray → Int × Int} {G : ByteArray → Int} {Rv : ByteArray → V} : ∀ (es : List Nd) (ks : List Int) (vs : List V) (k : Int) (ws : List V), OfAll ks vs → kindsV F G es ks = (k, 0) → valsR Rv es vs = some ws →
    (∀ n ∈ es, ((F n.s).2 = 0 → Of (G n.s) (Rv n.s)) ∧ ok64 n.v.n ∧ n.v.s.size ≤ 60) → 0 < ks.length + es.length → Of k (ws.getLast?.getD nul)
  | [], ks, vs, k, ws, h, hk, hv, hn, hp => by
    unfold valsR at hv
    injection hv with hv
    subst hv
    unfold kindsV at hk
    injection hk with hk _
    subst hk
    simp only [List.length_nil, Nat.add_zero] at hp
    have := h.2 (ks.length - 1) (by omega)
    rw [List.getLast?_eq_getElem?, List.getLast?_eq_getElem?, h.1, ← List.getD_eq_getElem?_getD, ← List.getD_eq_getElem?_getD]
    exact this
  | n :: es, ks, vs, k, ws, h, hk, hv, hn, hp => by
    unfold kindsV at hk
    unfold valsR at hv
    by_cases c : (kindN F G ks n).2 = 0
    · rw [if_pos c] at hk
      cases ho : nodeR Rv vs n with
      | none => rw [ho] at hv; cases hv
      | some v =>
        rw [ho] at hv
        simp only [Option.bind_some] at hv
        have hx := hn n (List.mem_cons_self ..)
        have hof := of_node h (show kindN F G ks n = ((kindN F G ks n).1, 0) from Prod.ext rfl c) ho hx.1 hx.2.1 hx.2.2
        refine of_vals es _ _ k ws (ofall_snoc h hof) hk hv (fun m hm => hn m (List.mem_cons_of_mem _ hm)) (by simp; omega)
    · rw [if_neg c] at hk
      exact absurd (congrArg Prod.snd hk) c
/-- what Value answers, where the kind is k -/
theorem kinds_law {F : ByteArray → Int × Int} {G : ByteArray → Int} {Rv : ByteArray → V} {es : List Nd} {k : Int} (hk : KindV F G es = (k, 0)) (hn : ∀ n ∈ es, ((F n.s).2 = 0 → Of (G n.s) (Rv n.s)) ∧ ok64 n.v.n ∧ n.v.s.size ≤ 60) :
    EvR F G Rv es = .tuple #[.agg #[.int .i64 0, .int .i64 0, .string ⟨#[]⟩], .int .i64 11] ∨ ∃ v, Of k v ∧ EvR F G Rv es = .tuple #[.agg #[.int .i64 v.k, .int .i64 v.n, .string v.s], .int .i64 0] := by
  unfold EvR
  rw [hk, if_pos rfl]
  cases hv : valsR Rv es [] with
  | none => exact .inl rfl
  | some vs =>
    refine .inr ⟨vs.getLast?.getD nul, ?_, rfl⟩
    unfold KindV at hk
    split at hk
    · cases hk
    · exact of_vals es [] [] k vs ⟨rfl, fun i h => absurd h (by simp)⟩ hk hv hn (by simp; omega)
theorem kinds_bad {F : ByteArray → Int × Int} {G : ByteArray → Int} {Rv : ByteArray → V} {es : List Nd} {k er : Int} (hk : KindV F G es = (k, er)) (he : er ≠ 0) :
    EvR F G Rv es = .tuple #[.agg #[.int .i64 0, .int .i64 0, .string ⟨#[]⟩], .int .i64 er] := by
  unfold EvR
  rw [hk, if_neg he]
/-- a row by its columns' names -/
def rowF (vs : List V) (s : ByteArray) : V := vs.getD (colF s).1.toNat nul
theorem col_bd {s : ByteArray} (h : (colF s).2 = 0) : 0 ≤ (colF s).1 ∧ (colF s).1 < 4 := by
  have hbd := findL_bd s.data.toList colsL 0 (-1) (by omega) (by omega) h
  have h2 : (colF s).1 < (0 + colsL.length : Nat) := hbd.2
  have h3 : 0 ≤ (colF s).1 := hbd.1
  have : (0 + colsL.length : Nat) = 4 := rfl
  omega
theorem row_of {vs : List V} (hl : vs.length = 4) (h : ∀ (i : Nat) v, vs[i]? = some v → RowV i v) {s : ByteArray} (hs : (colF s).2 = 0) : Of (colG s) (rowF vs s) := by
  have hb := col_bd hs
  obtain ⟨v, hv⟩ : ∃ v, vs[(colF s).1.toNat]? = some v := ⟨_, List.getElem?_eq_getElem (by omega)⟩
  have := h _ v hv
  have e : vs.getD (colF s).1.toNat nul = v := by rw [List.getD_eq_getElem?_getD, hv]; rfl
  unfold rowF colG
  rw [e]
  exact this
theorem rowOK {w : World} {A : Option Addr} {c : Nat} {vs : List V} (n : Nd) (hl : vs.length = 4) (h : ∀ (i : Nat) v, vs[i]? = some v → RowV i v) (hv : Vals w w.heap.size A vs) : RowOK w w.heap.size (.slice A 4 c) colF (rowF vs) n := by
  intro _ h0
  have hb := col_bd h0
  obtain ⟨b, off, rfl, hlt, hc⟩ := hv (by omega)
  obtain ⟨v, hx⟩ : ∃ v, vs[(colF n.s).1.toNat]? = some v := ⟨_, List.getElem?_eq_getElem (by omega)⟩
  have hg := (h _ v hx).1
  have hcc := hc _ v hx
  have e : rowF vs n.s = v := by unfold rowF; rw [List.getD_eq_getElem?_getD, hx]; rfl
  rw [e]
  exact ⟨(colF n.s).1.toNat, b, off, 4, c, by omega, rfl, by omega, by omega, hlt, hg.n64, hcc⟩
end Go.Proofs.Ytfgmlgflfagdjaa.ev

/- Contract: the document's Check. -/
namespace Go.Proofs.Ytfgmlgflfagdjaa.ev
open Go.ChangeShapes Go.WideShapes Go.ChangeAt Go.RowKit Go.Proofs.Ytfgmlgflfagdjaa.lib Go.Proofs.Ytfgmlgflfagdjaa.val
set_option linter.unusedVariables false

theorem tl_nil (s : ByteArray) : (s.toList == []) = (s == ByteArray.empty) := by
  rw [Bool.eq_iff_iff, beqBA, beq_iff_eq, ByteArray.toList_eq]
  constructor
  · intro h
    apply ByteArray.ext
    exact Array.toList_inj.1 (by rw [h]; rfl)
  · rintro rfl; rfl
/-- Check by kinds -/
theorem chk_by (k n : Int) (s : ByteArray) : chk k n s = if k < 0 then 3 else if 3 < k then 3 else
    if k = 0 then (if n = 0 then (if (s == ByteArray.empty) = true then 0 else 1) else 1) else
    if k = 1 then (if n < 0 then 1 else if 1 < n then 1 else if (s == ByteArray.empty) = true then 0 else 1) else
    if k = 2 then (if (s == ByteArray.empty) = true then 0 else 1) else
    if n = 0 then (if 60 < s.size then 5 else 0) else 1 := by
  have hk : k < 0 ∨ 3 < k ∨ k = 0 ∨ k = 1 ∨ k = 2 ∨ k = 3 := by omega
  have e0 : (ByteArray.empty == ByteArray.empty) = true := (beqBA _ _).2 rfl
  have es : (s == s) = true := (beqBA _ _).2 rfl
  rcases hk with h | h | rfl | rfl | rfl | rfl
  · unfold chk; rw [if_pos (.inl h), if_pos h]
  · unfold chk; rw [if_pos (.inr h), if_neg (by omega), if_pos h]
  · by_cases hn : n = 0
    · subst hn
      cases hs : s == ByteArray.empty
      · simp [chk, vEq, bareN, bareS, hs]
      · obtain rfl := (beqBA _ _).1 hs
        simp [chk, vEq, bareN, bareS, e0]
    · simp [chk, vEq, bareN, bareS, hn]
  · cases hs : s == ByteArray.empty
    · simp [chk, vEq, bareN, bareS, hs]
    · obtain rfl := (beqBA _ _).1 hs
      by_cases hn : n = 0 ∨ n = 1
      · rcases hn with rfl | rfl <;> simp [chk, vEq, bareN, bareS, e0]
      · have h1 : n ≠ 0 := by omega
        have h2 : n ≠ 1 := by omega
        by_cases h3 : n < 0
        · simp [chk, vEq, bareN, bareS, h1, h2, h3]
        · have h4 : 1 < n := by omega
          simp [chk, vEq, bareN, bareS, h1, h2, h3, h4]
  · cases hs : s == ByteArray.empty
    · simp [chk, vEq, bareN, bareS, hs]
    · obtain rfl := (beqBA _ _).1 hs
      simp [chk, vEq, bareN, bareS, e0]
  · by_cases hn : n = 0
    · subst hn
      simp [chk, vEq, bareN, bareS, es]
    · simp [chk, vEq, bareN, bareS, hn]
set_option maxRecDepth 1000000 in
set_option maxHeartbeats 4000000 in
theorem rcheck_ (k n : Int) (s : ByteArray) (w : World) (hs : s.size ≤ maxLen) :
    Calls Try.prog 25 #[.agg #[.int .i64 k, .int .i64 n, .string s]] w fun e w' => e = .returned (.int .i64 (chk k n s)) ∧ Below w.heap.size w w' := by
  unfold maxLen at hs
  have HT := Lib.hid (tl_nil s)
  obtain ⟨c, hc⟩ : ∃ c, c = chk k n s := ⟨_, rfl⟩
  have HK := Lib.hid (hc.trans (chk_by k n s))
  rw [← hc]
  clear hc
  have hk : k < 0 ∨ 3 < k ∨ k = 0 ∨ k = 1 ∨ k = 2 ∨ k = 3 := by omega
  rcases hk with h | h | rfl | rfl | rfl | rfl
  · have h1 : decide (k < 0) = true := by simpa using h
    obtain rfl : c = 3 := by rw [HK.out, if_pos h]
    clear h HK HT
    go_enter Try.func25, Try.ntmps25
    go_wp2
    go_ret
    exact ⟨rfl, (Below.refl _ _).alloc (Nat.le_refl _) _⟩
  · have h1 : decide (k < 0) = false := by simp; omega
    have h2 : decide (3 < k) = true := by simpa using h
    obtain rfl : c = 3 := by rw [HK.out, if_neg (by omega), if_pos h]
    clear h HK HT
    go_enter Try.func25, Try.ntmps25
    go_wp2
    go_ret
    exact ⟨rfl, (Below.refl _ _).alloc (Nat.le_refl _) _⟩
  · rcases Classical.em (n = 0) with hn | hn
    · subst hn
      rcases Bool.eq_false_or_eq_true (s == ByteArray.empty) with hb | hb
      · have hb : (s == ByteArray.empty) = true := by simpa using hb
        have hq : (s.toList == []) = true := by rw [HT.out]; exact hb
        have hz : s.size = 0 := by rw [(beqBA _ _).1 hb]; rfl
        have hz1 : decide (60 < (s.size : Int)) = false := by simp; omega
        have hz2 : decide (60 < s.size) = false := by simp; omega
        have hq2 : (s.toList != []) = false := by rw [bne, hq]; rfl
        obtain rfl : c = 0 := by rw [HK.out]; simp [*]
        try clear hn
        try clear hb hz
        try clear hb
        try clear h3
        try clear h4
        clear HK HT
        go_enter Try.func25, Try.ntmps25
        go_wp2
        go_ret
        exact ⟨rfl, (Below.refl _ _).alloc (Nat.le_refl _) _⟩
      · have hb : (s == ByteArray.empty) = false := by simpa using hb
        have hq : (s.toList == []) = false := by rw [HT.out]; exact hb
        have hq2 : (s.toList != []) = true := by rw [bne, hq]; rfl
        obtain rfl : c = 1 := by rw [HK.out]; simp [*]
        try clear hn
        try clear hb hz
        try clear hb
        try clear h3
        try clear h4
        clear HK HT
        go_enter Try.func25, Try.ntmps25
        go_wp2
        go_ret
        exact ⟨rfl, (Below.refl _ _).alloc (Nat.le_refl _) _⟩
    · have hn1 : (n == 0) = false := by simpa using hn
      have hn2 : (n != 0) = true := by simpa using hn
      obtain rfl : c = 1 := by rw [HK.out]; simp [*]
      try clear hn
      try clear hb hz
      try clear hb
      try clear h3
      try clear h4
      clear HK HT
      go_enter Try.func25, Try.ntmps25
      go_wp2
      go_ret
      exact ⟨rfl, (Below.refl _ _).alloc (Nat.le_refl _) _⟩
  · rcases (show n < 0 ∨ 1 < n ∨ (0 ≤ n ∧ n ≤ 1) by omega) with hn | hn | hn
    · have h1 : decide (n < 0) = true := by simpa using hn
      obtain rfl : c = 1 := by rw [HK.out]; simp [*]
      try clear hn
      try clear hb hz
      try clear hb
      try clear h3
      try clear h4
      clear HK HT
      go_enter Try.func25, Try.ntmps25
      go_wp2
      go_ret
      exact ⟨rfl, (Below.refl _ _).alloc (Nat.le_refl _) _⟩
    · have h1 : decide (n < 0) = false := by simp; omega
      have h2 : decide (1 < n) = true := by simpa using hn
      have h3 : ¬ n < 0 := by omega
      obtain rfl : c = 1 := by rw [HK.out]; simp [*]
      try clear hn
      try clear hb hz
      try clear hb
      try clear h3
      try clear h4
      clear HK HT
      go_enter Try.func25, Try.ntmps25
      go_wp2
      go_ret
      exact ⟨rfl, (Below.refl _ _).alloc (Nat.le_refl _) _⟩
    · rcases Bool.eq_false_or_eq_true (s == ByteArray.empty) with hb | hb
      · have h1 : decide (n < 0) = false := by simp; omega
        have h2 : decide (1 < n) = false := by simp; omega
        have h3 : ¬ n < 0 := by omega
        have h4 : ¬ 1 < n := by omega
        have hb : (s == ByteArray.empty) = true := by simpa using hb
        have hq : (s.toList == []) = true := by rw [HT.out]; exact hb
        have hz : s.size = 0 := by rw [(beqBA _ _).1 hb]; rfl
        have hz1 : decide (60 < (s.size : Int)) = false := by simp; omega
        have hz2 : decide (60 < s.size) = false := by simp; omega
        have hq2 : (s.toList != []) = false := by rw [bne, hq]; rfl
        obtain rfl : c = 0 := by rw [HK.out]; simp [*]
        try clear hn
        try clear hb hz
        try clear hb
        try clear h3
        try clear h4
        clear HK HT
        go_enter Try.func25, Try.ntmps25
        go_wp2
        go_ret
        exact ⟨rfl, (Below.refl _ _).alloc (Nat.le_refl _) _⟩
      · have h1 : decide (n < 0) = false := by simp; omega
        have h2 : decide (1 < n) = false := by simp; omega
        have h3 : ¬ n < 0 := by omega
        have h4 : ¬ 1 < n := by omega
        have hb : (s == ByteArray.empty) = false := by simpa using hb
        have hq : (s.toList == []) = false := by rw [HT.out]; exact hb
        have hq2 : (s.toList != []) = true := by rw [bne, hq]; rfl
        obtain rfl : c = 1 := by rw [HK.out]; simp [*]
        try clear hn
        try clear hb hz
        try clear hb
        try clear h3
        try clear h4
        clear HK HT
        go_enter Try.func25, Try.ntmps25
        go_wp2
        go_ret
        exact ⟨rfl, (Below.refl _ _).alloc (Nat.le_refl _) _⟩
  · rcases Bool.eq_false_or_eq_true (s == ByteArray.empty) with hb | hb
    · have hb : (s == ByteArray.empty) = true := by simpa using hb
      have hq : (s.toList == []) = true := by rw [HT.out]; exact hb
      have hz : s.size = 0 := by rw [(beqBA _ _).1 hb]; rfl
      have hz1 : decide (60 < (s.size : Int)) = false := by simp; omega
      have hz2 : decide (60 < s.size) = false := by simp; omega
      have hq2 : (s.toList != []) = false := by rw [bne, hq]; rfl
      obtain rfl : c = 0 := by rw [HK.out]; simp [*]
      try clear hn
      try clear hb hz
      try clear hb
      try clear h3
      try clear h4
      clear HK HT
      go_enter Try.func25, Try.ntmps25
      go_wp2
      go_ret
      exact ⟨rfl, (Below.refl _ _).alloc (Nat.le_refl _) _⟩
    · have hb : (s == ByteArray.empty) = false := by simpa using hb
      have hq : (s.toList == []) = false := by rw [HT.out]; exact hb
      have hq2 : (s.toList != []) = true := by rw [bne, hq]; rfl
      obtain rfl : c = 1 := by rw [HK.out]; simp [*]
      try clear hn
      try clear hb hz
      try clear hb
      try clear h3
      try clear h4
      clear HK HT
      go_enter Try.func25, Try.ntmps25
      go_wp2
      go_ret
      exact ⟨rfl, (Below.refl _ _).alloc (Nat.le_refl _) _⟩
  · rcases Classical.em (n = 0) with hn | hn
    · subst hn
      rcases Classical.em (60 < s.size) with hb | hb
      · have hz1 : decide (60 < (s.size : Int)) = true := by simp; omega
        have hz2 : decide (60 < s.size) = true := by simp; omega
        obtain rfl : c = 5 := by rw [HK.out]; simp [*]
        try clear hn
        try clear hb hz
        try clear hb
        try clear h3
        try clear h4
        clear HK HT
        go_enter Try.func25, Try.ntmps25
        go_wp2
        go_ret
        exact ⟨rfl, (Below.refl _ _).alloc (Nat.le_refl _) _⟩
      · have hz1 : decide (60 < (s.size : Int)) = false := by simp; omega
        have hz2 : decide (60 < s.size) = false := by simp; omega
        obtain rfl : c = 0 := by rw [HK.out]; simp [*]
        try clear hn
        try clear hb hz
        try clear hb
        try clear h3
        try clear h4
        clear HK HT
        go_enter Try.func25, Try.ntmps25
        go_wp2
        go_ret
        exact ⟨rfl, (Below.refl _ _).alloc (Nat.le_refl _) _⟩
    · have hn1 : (n == 0) = false := by simpa using hn
      have hn2 : (n != 0) = true := by simpa using hn
      obtain rfl : c = 1 := by rw [HK.out]; simp [*]
      try clear hn
      try clear hb hz
      try clear hb
      try clear h3
      try clear h4
      clear HK HT
      go_enter Try.func25, Try.ntmps25
      go_wp2
      go_ret
      exact ⟨rfl, (Below.refl _ _).alloc (Nat.le_refl _) _⟩
end Go.Proofs.Ytfgmlgflfagdjaa.ev
