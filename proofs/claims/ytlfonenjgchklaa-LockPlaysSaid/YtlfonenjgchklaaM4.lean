/- Contracts: Grow of nil, Concat of two. -/
import Derived.Test.YtlfonenjgchklaaM3
import Derived.Laws.AppendOwnNone
namespace Go.Proofs.Ytlfonenjgchklaa.lk
open Go.ChangeShapes Go.WideShapes Go.ChangeAt Go.RowKit Go.Proofs.Ytlfonenjgchklaa.lib
set_option linter.unusedVariables false

set_option maxHeartbeats 1000000 in
theorem grow0 (n : Nat) (w : World) (h0 : 0 < n) (hn : n ≤ 200000) :
    Calls Try.prog 37 #[.slice none 0 0, .int .i64 n] w fun e w' => ∃ v, e = .returned v ∧ w'.ownsRow w.heap.size 30 3 v 0 [] ∧ Below w.heap.size w w' := by
  obtain ⟨i0, hi, hz0, hz1, hz2⟩ := info_parts (P := Try.prog) (e := 30) (z := .agg #[.int .i64 0, .string ⟨#[]⟩, .bool false]) (size := 3) (bytes := 32) (by kernel_rfl)
  have hrun := fun ty => Lib.run_append_nil_zeros (P := Try.prog) w 24 3 ty 30 i0 _ .i64 .i64 Try.underlying24 Try.underlying3 hi hz0 n h0 (by rw [hz1]; decide) (by omega) (by rw [hz2]; omega)
  have h2 := Lib.hid (World.ownsRow_made (e := 30) (size := 3) (base := w.heap.size) w.drew (Builtin.zeroCells (Value.agg #[.int .i64 0, .string ⟨#[]⟩, .bool false]).cells n ++ Builtin.zeroCells (Value.agg #[.int .i64 0, .string ⟨#[]⟩, .bool false]).cells (grownCap w n 0 30 - n)) (grownCap w n 0 30) (Nat.le_refl _) (grownCap_le_maxLen _ _ _ _ (by unfold maxLen; omega)) (by
    have := grownCap_ge w n 0 30
    simp [size_zeroCells, Value.cells]; try omega))
  have h3 := Lib.hid (((Below.refl w.heap.size w).drew).alloc (Nat.le_refl _) (.cells (Builtin.zeroCells (Value.agg #[.int .i64 0, .string ⟨#[]⟩, .bool false]).cells n ++ Builtin.zeroCells (Value.agg #[.int .i64 0, .string ⟨#[]⟩, .bool false]).cells (grownCap w n 0 30 - n)) 30))
  have hge := grownCap_ge w n 0 30
  have hle := grownCap_le_maxLen w n 0 30 (by unfold maxLen; omega)
  unfold maxLen at hle
  generalize grownCap w n 0 30 = G at *
  generalize hWW : w.drew.alloc (.cells (Builtin.zeroCells (Value.agg #[.int .i64 0, .string ⟨#[]⟩, .bool false]).cells n ++ Builtin.zeroCells (Value.agg #[.int .i64 0, .string ⟨#[]⟩, .bool false]).cells (G - n)) 30) = WW at *
  clear hWW
  have d1 : decide ((n : Int) < 0) = false := by simp; try omega
  have d2 : decide (0 < (n : Int)) = true := by simp; try omega
  go_enter Try.func37, Try.ntmps37
  go_wp2_with (at_builtin; refine Lib.wpList_append_run _ rfl _ _ _ _ rfl _ _ rfl rfl _ _ (hrun _) ?_)
  go_ret
  exact ⟨_, rfl, h2.out, h3.out⟩

theorem grow_ (n : Nat) (z : Int) (w : World) (hz : z = n) (h0 : 0 < n) (hn : n ≤ 200000) :
    Calls Try.prog 37 #[.slice none 0 0, .int .i64 z] w fun e w' => ∃ v, e = .returned v ∧ w'.ownsRow w.heap.size 30 3 v 0 [] ∧ Below w.heap.size w w' := by
  subst hz
  exact grow0 n w h0 hn
theorem own_hid {w : World} {base : Nat} {e : TypeId} {v : Value} {n m : Nat} {l : List Hd} (h : w.ownsRow base e 3 v n (cellsH l)) (hm : n = m) : w.ownsRow base e 3 v m (cellsH l) := hm ▸ h
set_option maxHeartbeats 4000000 in
theorem concat_ (l : List Hd) (h : Hd) (A : Option Addr) (n c base g g2 : Nat) (w : World) (hl : l.length = n) (hn : n ≤ 100000) (ho : w.ownsRow base 30 3 (.slice A n c) n (cellsH l))
    (hb : Blk w g 24 #[.slice A n c, .slice (some ⟨g2, 0, none⟩) 1 1]) (hb2 : Blk w g2 30 h.arr) :
    Calls Try.prog 27 #[.slice (some ⟨g, 0, none⟩) 2 2] w (OwnP (l ++ [h]) (n + 1) w) := by
  obtain ⟨i0, hi, hz0, hz1, hz2⟩ := info_parts (P := Try.prog) (e := 30) (z := .agg #[.int .i64 0, .string ⟨#[]⟩, .bool false]) (size := 3) (bytes := 32) (by kernel_rfl)
  have q0 := hb.cell 0
  have q1 := hb.cell 1
  have HL := Lib.hid hl
  have HO := Lib.hid ho
  clear hl ho
  have d1 : decide ((n : Int) < 0) = false := by simp; try omega
  have d2 : decide ((n : Int) + 1 < 0) = false := by simp; try omega
  go_enter Try.func27, Try.ntmps27
  go_wp2_with fail
  refine wp_loop_rounds 3 ?_
  rw [rounds_succ]
  go_wp2
  rw [rounds_succ]
  go_wp2
  rw [rounds_succ]
  go_wp2_with fail
  refine (grow_ (n + 1) _ _ (by omega) (by omega) (by omega)).mono ?_
  rintro e w1 ⟨v, rfl, hown, hbw⟩
  obtain ⟨A1, c1, rfl⟩ := own_slice hown
  have HO1 := Lib.hid hown
  clear hown q0 q1
  have q0 := (hb.ext hbw).cell 0
  have q1 := (hb.ext hbw).cell 1
  rcases HO.out.2 with ⟨e, h0⟩ | ⟨gg, cap, cur, e, hgb, hgg, hnc, hcm, hcs, htk⟩
  · injection e with e1 e2 e3
    subst e1 h0 e3
    have hln : l = [] := List.length_eq_zero_iff.1 HL.out
    subst hln
    go_wp2_with fail
    refine wp_loop_rounds 3 ?_
    rw [rounds_succ]
    go_wp2_with (at_builtin; refine wpList_append_own_none rfl (.tmp 31) (.tmp 32) 24 rfl w.heap.size 30 i0 3 Try.underlying24 hi _ 0 [] rfl HO1.out rfl ?_)
    rw [rounds_succ]
    go_wp2_with (at_builtin; refine wpList_append_own _ rfl (.tmp 31) (.tmp 32) 24 rfl w.heap.size 30 i0 _ 3 32 Try.underlying24 hi hz0 hz1 hz2 rfl (by decide) _ _ _ rfl HO1.out ⟨g2, 0, none⟩ 1 1 h.cells rfl rfl ?c1 ?c2 ?c3 ?c4 ?c5 ?_)
    case c1 => exact three_at (hb2.ext hbw)
    case c2 => intro u hu; exact one_cells [h] u (by rw [cellsH_one]; exact hu)
    case c3 => unfold maxLen; omega
    case c4 => omega
    case c5 => exact hbw.size
    intro v' w3 hown3 hgrow3 _
    obtain ⟨A3, c3, rfl⟩ := own_slice hown3
    go_wp2
    rw [rounds_succ]
    go_wp2
    go_ret
    have hb3 : Below w.heap.size w w3 := hbw.grown hgrow3 hbw.size (fun k hk => (HO1.out.lt k hk).1)
    exact ⟨A3, c3, rfl, by simpa [cellsH_one] using hown3, hb3⟩
  · injection e with e1 e2 e3
    subst e1 e3
    have hcl : ∀ j u, (cellsH l)[j]? = some u → w1.cell? ((⟨gg, 0, none⟩ : Addr).add j) = some u := fun j u hu => by
      have hlt := (Array.getElem?_eq_some_iff.1 hgg).1
      have hj : j < (cellsH l).length := (List.getElem?_eq_some_iff.1 hu).1
      rw [HO.out.1] at hj
      rw [Addr.add_lit, Nat.zero_add, hbw.cell (p := ⟨gg, j, none⟩) hlt, HO.out.cellAt j hj]
      exact hu
    have HC := Lib.hid hcl
    clear hcl hgg hnc hcm hcs htk
    go_wp2_with fail
    refine wp_loop_rounds 3 ?_
    rw [rounds_succ]
    go_wp2_with (at_builtin; refine wpList_append_own _ rfl (.tmp 31) (.tmp 32) 24 rfl w.heap.size 30 i0 _ 3 32 Try.underlying24 hi hz0 hz1 hz2 rfl (by decide) _ _ _ rfl HO1.out ⟨gg, 0, none⟩ n c (cellsH l) rfl ?c0 HC.out ?c2 ?c3 ?c4 ?c5 ?_)
    case c0 => rw [cellsH_len, HL.out]
    case c2 => exact one_cells l
    case c3 => unfold maxLen; omega
    case c4 => omega
    case c5 => exact hbw.size
    intro v' w3 hown3 hgrow3 _
    obtain ⟨A3, c3, rfl⟩ := own_slice hown3
    have hlo := fun k hk => (HO1.out.lt k hk).1
    have hb3 : Below w.heap.size w w3 := hbw.grown hgrow3 hbw.size hlo
    have HO3 := Lib.hid hown3
    clear hown3 q0 q1
    have q0 := (hb.ext hb3).cell 0
    have q1 := (hb.ext hb3).cell 1
    go_wp2
    rw [rounds_succ]
    go_wp2_with (at_builtin; refine wpList_append_own _ rfl (.tmp 31) (.tmp 32) 24 rfl w.heap.size 30 i0 _ 3 32 Try.underlying24 hi hz0 hz1 hz2 rfl (by decide) _ _ _ rfl HO3.out ⟨g2, 0, none⟩ 1 1 h.cells rfl rfl ?c1 ?c2 ?c3 ?c4 ?c5 ?_)
    case c1 => exact three_at (hb2.ext hb3)
    case c2 => intro u hu; exact one_cells [h] u (by rw [cellsH_one]; exact hu)
    case c3 => unfold maxLen; omega
    case c4 => omega
    case c5 => exact hb3.size
    intro v' w4 hown4 hgrow4 _
    obtain ⟨A4, c4, rfl⟩ := own_slice hown4
    go_wp2
    rw [rounds_succ]
    go_wp2
    go_ret
    have hb4 : Below w.heap.size w w4 := hb3.grown hgrow4 hb3.size (fun k hk => (HO3.out.lt k hk).1)
    exact ⟨A4, c4, by simp, by simpa [cellsH_append, cellsH_one] using hown4, hb4⟩
end Go.Proofs.Ytlfonenjgchklaa.lk
