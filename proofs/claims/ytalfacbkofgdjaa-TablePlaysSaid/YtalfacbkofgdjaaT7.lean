/- Contracts: Grow, Concat of slices of rows. -/
import Derived.Test.YtalfacbkofgdjaaT6
namespace Go.Proofs.Ytalfacbkofgdjaa.tb
open Go.ChangeShapes Go.WideShapes Go.ChangeAt Go.RowKit Go.Proofs.Ytalfacbkofgdjaa.lib Go.Proofs.Ytalfacbkofgdjaa.val
set_option linter.unusedVariables false

set_option maxHeartbeats 1000000 in
theorem grow0 (n : Nat) (w : World) (h0 : 0 < n) (hn : n ≤ 200000) :
    Calls Try.prog 63 #[.slice none 0 0, .int .i64 n] w fun e w' => ∃ v, e = .returned v ∧ w'.ownsRow w.heap.size 33 1 v 0 [] ∧ Below w.heap.size w w' := by
  obtain ⟨i0, hi, hz0, hz1, hz2⟩ := info_parts (P := Try.prog) (e := 33) (z := .slice none 0 0) (size := 1) (bytes := 24) (by kernel_rfl)
  have hrun := fun ty => Lib.run_append_nil_zeros (P := Try.prog) w 30 3 ty 33 i0 _ .i64 .i64 Try.underlying30 Try.underlying3 hi hz0 n h0 (by rw [hz1]; decide) (by omega) (by rw [hz2]; omega)
  have h2 := Lib.hid (World.ownsRow_made (e := 33) (size := 1) (base := w.heap.size) w.drew (Builtin.zeroCells (Value.slice none 0 0).cells n ++ Builtin.zeroCells (Value.slice none 0 0).cells (grownCap w n 0 33 - n)) (grownCap w n 0 33) (Nat.le_refl _) (grownCap_le_maxLen _ _ _ _ (by unfold maxLen; omega)) (by
    have := grownCap_ge w n 0 33
    simp [size_zeroCells, Value.cells]; try omega))
  have h3 := Lib.hid (((Below.refl w.heap.size w).drew).alloc (Nat.le_refl _) (.cells (Builtin.zeroCells (Value.slice none 0 0).cells n ++ Builtin.zeroCells (Value.slice none 0 0).cells (grownCap w n 0 33 - n)) 33))
  have hge := grownCap_ge w n 0 33
  have hle := grownCap_le_maxLen w n 0 33 (by unfold maxLen; omega)
  unfold maxLen at hle
  generalize grownCap w n 0 33 = G at *
  generalize hWW : w.drew.alloc (.cells (Builtin.zeroCells (Value.slice none 0 0).cells n ++ Builtin.zeroCells (Value.slice none 0 0).cells (G - n)) 33) = WW at *
  clear hWW
  have d1 : decide ((n : Int) < 0) = false := by simp; try omega
  have d2 : decide (0 < (n : Int)) = true := by simp; try omega
  go_enter Try.func63, Try.ntmps63
  go_wp2_with (at_builtin; refine Lib.wpList_append_run _ rfl _ _ _ _ rfl _ _ rfl rfl _ _ (hrun _) ?_)
  go_ret
  exact ⟨_, rfl, h2.out, h3.out⟩
theorem grow_ (n : Nat) (w : World) (hn : n ≤ 200000) :
    Calls Try.prog 63 #[.slice none 0 0, .int .i64 n] w fun e w' => ∃ v, e = .returned v ∧ w'.ownsRow w.heap.size 33 1 v 0 [] ∧ Below w.heap.size w w' := by
  rcases Nat.eq_zero_or_pos n with rfl | h0
  · go_enter Try.func63, Try.ntmps63
    go_wp2
    go_ret
    exact ⟨_, rfl, World.ownsRow_nil _ _ _ _, Below.refl _ _⟩
  · exact grow0 n w h0 hn

/-- one of the slices that are laid one behind the other -/
structure Part where
  A : Option Addr
  n : Nat
  c : Nat
  cs : List Value
structure PartOk (w : World) (p : Part) : Prop where
  row : Row w 0 p.A p.n p.c p.cs
  len : p.cs.length = p.n
  one : ∀ u ∈ p.cs, u.oneCell' = true
theorem PartOk.ext {w w' : World} {p : Part} (h : PartOk w p) (hb : Below w.heap.size w w') : PartOk w' p := ⟨h.row.ext hb, h.len, h.one⟩
def sumN (ps : List Part) : Nat := (ps.map (·.n)).sum
def allC (ps : List Part) : List Value := ps.flatMap (·.cs)
theorem take_snoc {α : Type} {l : List α} {k : Nat} {x : α} (h : l[k]? = some x) : l.take (k + 1) = l.take k ++ [x] := by rw [List.take_add_one, h]; rfl
theorem sumN_snoc {ps : List Part} {k : Nat} {p : Part} (h : ps[k]? = some p) : sumN (ps.take (k + 1)) = sumN (ps.take k) + p.n := by
  rw [take_snoc h]; simp [sumN]
theorem allC_snoc {ps : List Part} {k : Nat} {p : Part} (h : ps[k]? = some p) : allC (ps.take (k + 1)) = allC (ps.take k) ++ p.cs := by
  rw [take_snoc h]; simp [allC]
theorem sumN_le (ps : List Part) (k : Nat) : sumN (ps.take k) ≤ sumN ps := by
  have e : sumN ps = sumN (ps.take k) + sumN (ps.drop k) := by
    unfold sumN
    rw [← List.sum_append, ← List.map_append, List.take_append_drop]
  omega
def ConP (cs : List Value) (n : Nat) (w : World) (r : Ending) (w' : World) : Prop := ∃ A c, r = .returned (.slice A n c) ∧ w'.ownsRow w.heap.size 33 1 (.slice A n c) n cs ∧ Below w.heap.size w w'
set_option maxHeartbeats 4000000 in
theorem concat_ (ps : List Part) (g m : Nat) (w : World) (hm : ps.length = m) (hg : g < w.heap.size) (hc : ∀ (i : Nat) p, ps[i]? = some p → w.cell? ⟨g, i, none⟩ = some (.slice p.A p.n p.c) ∧ PartOk w p) (hN : sumN ps ≤ 100000) (hm2 : m ≤ 1000) :
    Calls Try.prog 53 #[.slice (some ⟨g, 0, none⟩) m m] w (ConP (allC ps) (sumN ps) w) := by
  obtain ⟨i0, hi, hz0, hz1, hz2⟩ := info_parts (P := Try.prog) (e := 33) (z := .slice none 0 0) (size := 1) (bytes := 24) (by kernel_rfl)
  have HM := Lib.hid hm
  have HC := Lib.hid hc
  clear hm hc
  obtain ⟨N, hNe⟩ : ∃ N, sumN ps = N := ⟨_, rfl⟩
  have HN := Lib.hid hNe
  rw [hNe] at hN ⊢
  clear hNe
  go_enter Try.func53, Try.ntmps53
  go_wp2_with fail
  go_loopw [3, 11] (fun s i wr => ∃ (k z : Nat), k ≤ m ∧ i = .int .i64 k ∧ s = .int .i64 z ∧ Hid (z = sumN (ps.take k)) ∧ Below w.heap.size w wr) (fun _ i _ => m - (intOf i).toNat)
  case atStart => exact ⟨0, 0, Nat.zero_le _, rfl, rfl, Lib.hid (by simp [sumN]), Below.refl _ _⟩
  case round =>
    obtain ⟨k, z, hk, rfl, rfl, HZ, hbl⟩ := hrel
    rcases Nat.lt_or_ge k m with hlt | hge
    · have hd : decide ((k : Int) < (m : Int)) = true := by simp; omega
      have hkn : (k : Int) < (m : Int) := by omega
      obtain ⟨p, hx⟩ : ∃ p, ps[k]? = some p := ⟨_, List.getElem?_eq_getElem (by rw [HM.out]; exact hlt)⟩
      obtain ⟨q, hp⟩ := HC.out k p hx
      have q := (hbl.cell (p := ⟨g, k, none⟩) hg).trans q
      have hs := sumN_snoc hx
      have hsl := sumN_le ps (k + 1)
      have hzn : z + p.n ≤ 100000 := by rw [HZ.out]; have := HN.out; omega
      have HS := Lib.hid (show z + p.n = sumN (ps.take (k + 1)) by rw [HZ.out, hs])
      clear hx hs hsl
      have hd2 : decide ((z : Int) + (p.n : Int) < 0) = false := by simp; omega
      go_wp2_with fail
      go_roundw
      case rel => exact ⟨k + 1, z + p.n, by omega, by go_num, by go_num, HS, hbl⟩
      case measure => simp [intOf]; omega
    · have hd : decide ((k : Int) < (m : Int)) = false := by simp; omega
      obtain rfl : k = m := by omega
      have hzN : z = N := by rw [HZ.out, List.take_of_length_le (by rw [HM.out]; exact Nat.le_refl _), HN.out]
      subst hzN
      go_wp2_with fail
      refine (grow_ z _ (by omega)).mono ?_
      rintro e w1 ⟨v, rfl, hown, hb1⟩
      have HO1 := Lib.hid (own_base hown hbl.size)
      have hb1 := Below.trans hbl (Below.mono hb1 hbl.size)
      clear hown
      go_wp2_with fail
      go_loopw [6, 27] (fun o i wr => ∃ (j z2 : Nat), j ≤ k ∧ i = .int .i64 j ∧ wr.ownsRow w.heap.size 33 1 o z2 (allC (ps.take j)) ∧ Hid (z2 = sumN (ps.take j)) ∧ Below w.heap.size w wr) (fun _ i _ => k - (intOf i).toNat)
      case atStart => exact ⟨0, 0, Nat.zero_le _, rfl, HO1.out, Lib.hid (by simp [sumN]), hb1⟩
      case round =>
        obtain ⟨j, z2, hj, rfl, hown, HZ2, hbw⟩ := hrel
        obtain ⟨A2, c2, rfl⟩ := own_slice hown
        have HO2 := Lib.hid hown
        clear hown
        rcases Nat.lt_or_ge j k with hlt | hge
        · have hd : decide ((j : Int) < (k : Int)) = true := by simp; omega
          have hkn : (j : Int) < (k : Int) := by omega
          obtain ⟨p, hx⟩ : ∃ p, ps[j]? = some p := ⟨_, List.getElem?_eq_getElem (by rw [HM.out]; exact hlt)⟩
          obtain ⟨q, hp⟩ := HC.out j p hx
          have q := (hbw.cell (p := ⟨g, j, none⟩) hg).trans q
          have hs := sumN_snoc hx
          have hsl := sumN_le ps (j + 1)
          have hzn : z2 + p.n ≤ 100000 := by rw [HZ2.out]; have := HN.out; omega
          have HS := Lib.hid (show z2 + p.n = sumN (ps.take (j + 1)) by rw [HZ2.out, hs])
          have HA := Lib.hid (allC_snoc hx)
          have HP := Lib.hid (hp.ext hbw)
          clear hx hs hsl hp
          obtain ⟨pA, pn, pc, pcs⟩ := p
          cases pA with
          | none =>
            have hr2 : pn = 0 ∧ pc = 0 ∧ pcs = [] := by
              rcases HP.out.row with h | ⟨_, h, _⟩ | ⟨_, _, h, _⟩
              · exact h.2
              · cases h
              · cases h
            obtain ⟨rfl, rfl, rfl⟩ := hr2
            go_wp2_with (at_builtin; refine wpList_append_own_none rfl (.tmp 31) (.tmp 32) 30 rfl w.heap.size 33 i0 1 Try.underlying30 hi _ z2 _ rfl HO2.out rfl ?_)
            go_roundw
            case rel => exact ⟨j + 1, z2, by omega, by go_num, by rw [HA.out]; simpa using HO2.out, HS, hbw⟩
            case measure => simp [intOf]; omega
          | some ad =>
            go_wp2_with (at_builtin; refine wpList_append_own _ rfl (.tmp 31) (.tmp 32) 30 rfl w.heap.size 33 i0 _ 1 24 Try.underlying30 hi hz0 hz1 hz2 rfl (by decide) _ _ _ rfl HO2.out ad pn pc pcs rfl ?c0 ?c1 ?c2 ?c3 ?c4 ?c5 ?_)
            case c0 => simpa using HP.out.len
            case c1 => exact HP.out.row.src'
            case c2 => exact HP.out.one
            case c3 => unfold maxLen; omega
            case c4 => omega
            case c5 => exact hbw.size
            intro v' w3 hown3 hgrow3 _
            go_wp2
            go_roundw
            case rel => exact ⟨j + 1, z2 + pn, by omega, by go_num, by rw [HA.out]; exact hown3, HS, hbw.grown hgrow3 hbw.size (fun b hb => (HO2.out.lt b hb).1)⟩
            case measure => simp [intOf]; omega
        · have hd : decide ((j : Int) < (k : Int)) = false := by simp; omega
          obtain rfl : j = k := by omega
          have e : ps.take j = ps := List.take_of_length_le (by rw [HM.out]; exact Nat.le_refl _)
          have hzN : z2 = z := by rw [HZ2.out, e, HN.out]
          subst hzN
          have h2 := HO2.out
          rw [e] at h2
          go_wp2
          go_ret
          exact ⟨A2, c2, rfl, h2, hbw⟩
end Go.Proofs.Ytalfacbkofgdjaa.tb
