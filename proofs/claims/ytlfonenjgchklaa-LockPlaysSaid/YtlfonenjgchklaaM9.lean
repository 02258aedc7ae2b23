/- A queue of numbers that is cut at its head and grows at its end; asked.Add. -/
import Derived.Test.YtlfonenjgchklaaM8
import Derived.Laws.LoneSync
namespace Go.Proofs.Ytlfonenjgchklaa.lk
open Go.ChangeShapes Go.WideShapes Go.ChangeAt Go.RowKit Go.Proofs.Ytlfonenjgchklaa.lib
set_option linter.unusedVariables false

/-- the numbers xs in block g from off on, cap cells in all -/
structure Qu (w : World) (base g off cap : Nat) (xs : List Int) : Prop where
  base : base ≤ g
  lt : g < w.heap.size
  le : xs.length ≤ cap
  there : ∀ j, j < cap → (w.cell? ⟨g, off + j, none⟩).isSome = true ∧ w.frozen? ⟨g, off + j, none⟩ = false
  holds : ∀ (i : Nat) z, xs[i]? = some z → w.cell? ⟨g, off + i, none⟩ = some (.int .i64 z)
theorem Qu.kept {w w' : World} {row : Option Nat} {base g off cap : Nat} {xs : List Int} (h : Qu w base g off cap xs) (hg : w.grownBy w' row) (hr : 0 < cap → some g ≠ row) : Qu w' base g off cap xs := by
  refine ⟨h.base, Nat.lt_of_lt_of_le h.lt hg.size, h.le, fun j hj => ?_, fun i z hz => ?_⟩
  · have e := hg.block g h.lt (hr (by omega))
    rw [World.cell?_of_block (a := ⟨g, off + j, none⟩) e, World.frozen?_of_block (a := ⟨g, off + j, none⟩) e]
    exact h.there j hj
  · have hi : i < xs.length := (List.getElem?_eq_some_iff.1 hz).1
    have e := hg.block g h.lt (hr (by have := h.le; omega))
    rw [World.cell?_of_block (a := ⟨g, off + i, none⟩) e]
    exact h.holds i z hz
theorem Qu.ext {w w' : World} {base g off cap : Nat} {xs : List Int} (h : Qu w base g off cap xs) (hb : Below w.heap.size w w') : Qu w' base g off cap xs := h.kept (row := none) ⟨hb.os, hb.tape, hb.output, hb.size, fun k hk _ => hb.block k hk⟩ (fun _ => by simp)
/-- no map lies where its cells are -/
theorem Qu.ne_map {w : World} {base g off cap b : Nat} {xs : List Int} (h : Qu w base g off cap xs) (hb : ∃ es cl, w.heap[b]? = some (.map es cl)) : 0 < cap → g ≠ b := by
  rintro hc rfl
  obtain ⟨es, cl, hb⟩ := hb
  have := (h.there 0 hc).1
  simp [World.cell?, hb] at this
theorem Qu.pop {w : World} {base g off cap : Nat} {x : Int} {xs : List Int} (h : Qu w base g off cap (x :: xs)) : Qu w base g (off + 1) (cap - 1) xs := by
  have := h.le
  simp at this
  refine ⟨h.base, h.lt, by omega, fun j hj => ?_, fun i z hz => ?_⟩
  · rw [show off + 1 + j = off + (j + 1) by omega]; exact h.there (j + 1) (by omega)
  · rw [show off + 1 + i = off + (i + 1) by omega]; exact h.holds (i + 1) z hz
theorem Qu.one {w : World} {g : Nat} {x : Int} (h : Blk w g 3 #[.int .i64 x]) (base : Nat) (hb : base ≤ g) : Qu w base g 0 1 [x] := by
  refine ⟨hb, h.lt, Nat.le_refl _, fun j hj => ?_, fun i z hz => ?_⟩
  · have : j = 0 := by omega
    subst this
    exact ⟨by rw [Nat.add_zero, h.cell]; rfl, h.frozen _⟩
  · match i, hz with
    | 0, hz =>
      injection hz with hz
      subst hz
      exact h.cell 0
/-- one more at its end -/
theorem Qu.push {w : World} {base g off cap g1 : Nat} {xs : List Int} {k : Int} (h : Qu w base g off cap xs) (h1 : Blk w g1 3 #[.int .i64 k]) (ty : TypeId) (hl : xs.length ≤ 1000000) (hbase : base ≤ w.heap.size) :
    ∃ g' off' cap' w', (Builtin.append_ #[66, 66] ty #[.slice (some ⟨g, off, none⟩) xs.length cap, .slice (some ⟨g1, 0, none⟩) 1 1]).run Try.prog w = .ok (.slice (some ⟨g', off', none⟩) (xs.length + 1) cap') w' ∧
      Qu w' base g' off' cap' (xs ++ [k]) ∧ (w.grownBy w' none ∨ (0 < cap ∧ w.grownBy w' (some g))) := by
  obtain ⟨i0, hi, hz0, hz1, hz2⟩ := info_parts (P := Try.prog) (e := 3) (z := .int .i64 0) (size := 1) (bytes := 8) (by kernel_rfl)
  have hone : ∀ j u, [Value.int .i64 k][j]? = some u → w.cell? ((⟨g1, 0, none⟩ : Addr).add j) = some u := by
    intro j u hj
    match j, hj with
    | 0, hj =>
      injection hj with hj
      subst hj
      exact h1.cell 0
  have h1c : ∀ u ∈ [Value.int .i64 k], u.oneCell' = true := by intro u hu; simp at hu; subst hu; rfl
  by_cases hroom : xs.length + 1 ≤ cap
  · have hsrc : Src Try.prog i0.size 66 (.slice (some ⟨g1, 0, none⟩) 1 1) 1 [.int .i64 k] w := Src.ofSlice w Try.underlying66 _ _ _ _ (by rw [hz1]; rfl) hone h1c
    have hth := h.there xs.length (by omega)
    have hrun := run_append_room_src (P := Try.prog) w 66 66 ty 3 i0 Try.underlying66 hi g off xs.length cap (.slice (some ⟨g1, 0, none⟩) 1 1) 1 [.int .i64 k] hsrc hroom
      (fun j hj => by
        have : j = 0 := by simpa using hj
        subst this
        rw [hz1, Nat.mul_one, Nat.add_zero]
        exact hth.1)
      (fun j hj => by
        have : j = 0 := by simpa using hj
        subst this
        rw [hz1, Nat.mul_one, Nat.add_zero]
        exact hth.2)
    rw [hz1, Nat.mul_one] at hrun
    have hgr : w.grownBy (w.setCells g (off + xs.length) [.int .i64 k]) (some g) := ⟨rfl, rfl, rfl, by simp [World.setCells, World.setCell], fun i _ hne => Below.heap_setCell _ _ _ _ (fun e => hne (by rw [e]))⟩
    refine ⟨g, off, cap, _, hrun, ⟨h.base, Nat.lt_of_lt_of_le h.lt hgr.size, by simpa using hroom, fun j hj => ?_, fun i z hz => ?_⟩, .inr ⟨by omega, hgr⟩⟩
    · show ((w.setCell ⟨g, off + xs.length, none⟩ (.int .i64 k)).cell? ⟨g, off + j, none⟩).isSome = true ∧ (w.setCell ⟨g, off + xs.length, none⟩ (.int .i64 k)).frozen? ⟨g, off + j, none⟩ = false
      refine ⟨?_, ?_⟩
      · by_cases e : j = xs.length
        · subst e
          obtain ⟨u, hu⟩ := Option.isSome_iff_exists.1 hth.1
          rw [World.cell?_setCell_same _ _ _ hu]; simp
        · rw [World.cell?_setCell_other _ _ _ _ (by simp; try omega)]
          exact (h.there j hj).1
      · rw [World.frozen?_setCell]
        exact (h.there j hj).2
    · show (w.setCell ⟨g, off + xs.length, none⟩ (.int .i64 k)).cell? ⟨g, off + i, none⟩ = _
      rcases Nat.lt_trichotomy i xs.length with hlt | heq | hgt
      · rw [World.cell?_setCell_other _ _ _ _ (by simp; try omega)]
        rw [List.getElem?_append_left hlt] at hz
        exact h.holds i z hz
      · subst heq
        obtain ⟨u, hu⟩ := Option.isSome_iff_exists.1 hth.1
        rw [World.cell?_setCell_same _ _ _ hu]
        simp at hz
        rw [hz]
      · rw [List.getElem?_eq_none (by simp; omega)] at hz
        cases hz
  · have hcl : xs.length = cap := by have := h.le; omega
    have hrun := run_append_grow (P := Try.prog) w 66 ty 3 i0 _ Try.underlying66 hi hz0 ⟨g, off, none⟩ xs.length cap (xs.map (.int .i64)) (by rw [hz1]; simp)
      (fun j v hv => by
        rw [List.getElem?_map] at hv
        obtain ⟨z, hz, rfl⟩ := Option.map_eq_some_iff.1 hv
        rw [Addr.add_lit]
        exact h.holds j z hz)
      ⟨g1, 0, none⟩ 1 1 [.int .i64 k] (by rw [hz1]; rfl) hone (by omega) (by omega) (by rw [hz2]; exact growslice_fits (by omega) (by omega))
    have hge := grownCap_ge w (xs.length + 1) cap 3
    generalize grownCap w (xs.length + 1) cap 3 = G at *
    have hB : Blk (w.drew.alloc (.cells ((xs.map (Value.int .i64)).toArray ++ [Value.int .i64 k].toArray ++ Builtin.zeroCells (Value.int .i64 0).cells (G - (xs.length + 1))) 3)) w.heap.size 3 _ := Blk.new w.drew _ _
    have hsz : ((xs.map (Value.int .i64)).toArray ++ [Value.int .i64 k].toArray ++ Builtin.zeroCells (Value.int .i64 0).cells (G - (xs.length + 1))).size = G := by
      simp [size_zeroCells, Value.cells]; omega
    refine ⟨w.heap.size, 0, G, _, hrun, ⟨hbase, hB.lt, by simpa using hge, fun j hj => ⟨?_, hB.frozen _⟩, fun i z hz => ?_⟩, .inl ⟨rfl, rfl, rfl, by simp, fun i hi _ => Below.heap_alloc w.drew _ i hi⟩⟩
    · rw [hB.cell, Nat.zero_add, Array.getElem?_eq_getElem (by rw [hsz]; exact hj)]; rfl
    · rw [hB.cell, Nat.zero_add]
      have hi : i < xs.length + 1 := by simpa using (List.getElem?_eq_some_iff.1 hz).1
      rw [Array.getElem?_append_left (by simp; exact hi)]
      simp
      rcases Nat.lt_or_ge i xs.length with h1 | h1
      · rw [List.getElem?_append_left (by simpa using h1)]
        rw [List.getElem?_append_left h1] at hz
        rw [List.getElem?_map, hz]; rfl
      · have : i = xs.length := by omega
        subst this
        simp at hz ⊢
        rw [hz]
theorem add_ (g : Nat) (b : Option Nat) (z : Int) (w : World) (h : Blk w g 79 #[.map b, .int .i64 z]) :
    Calls Try.prog 38 #[.pointer (some ⟨g, 1, none⟩), .int .i64 1] w fun e w' => ∃ s, e = .returned (.int .i64 s) ∧ Blk w' g 79 #[.map b, .int .i64 s] ∧ w.grownBy w' (some g) := by
  obtain ⟨s, hs⟩ : ∃ s, ∀ w : World, (Op.intArith .add .i64 z 1).run Try.prog w = .ok (.int .i64 s) w := ⟨_, fun w => by simp [go_sem]; rfl⟩
  have hadd := run_call_add (P := Try.prog) Try.func39 (by kernel_rfl) (by kernel_rfl) (by kernel_rfl) .i64 (by kernel_rfl) (y := 1) (s := s) (h.cell 1) (h.frozen 1) (hs w)
  have hB : Blk (w.setCell ⟨g, 1, none⟩ (.int .i64 s)) g 79 #[.map b, .int .i64 s] := by simpa using h.set_ 1 (.int .i64 s)
  have hgr : w.grownBy (w.setCell ⟨g, 1, none⟩ (.int .i64 s)) (some g) := ⟨rfl, rfl, rfl, by simp [World.setCell], fun i _ hne => Below.heap_setCell _ _ _ _ (fun e => hne (by rw [e]))⟩
  clear h hs
  go_enter Try.func38, Try.ntmps38
  go_wp2
  go_ret
  exact ⟨s, rfl, hB, hgr⟩
end Go.Proofs.Ytlfonenjgchklaa.lk
