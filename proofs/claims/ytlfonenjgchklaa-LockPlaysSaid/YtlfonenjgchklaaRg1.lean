/- Contracts: the document's Against, in; a push that says where the queue lies. Printed by genrg.py. -/
import Derived.Test.YtlfonenjgchklaaRf1
namespace Go.Proofs.Ytlfonenjgchklaa.lk
open Go.ChangeShapes Go.WideShapes Go.ChangeAt Go.RowKit Go.Proofs.Ytlfonenjgchklaa.lib
set_option linter.unusedVariables false

theorem rAgainst_ (h o : Hd) (w : World) : Calls Try.prog 31 #[.agg h.arr, .agg o.arr] w fun e w' => e = .returned (.bool (agB h o)) ∧ Below w.heap.size w w' := by
  obtain ⟨hs, ht, hx⟩ := h
  obtain ⟨os, ot, ox⟩ := o
  simp only [Hd.arr]
  obtain ⟨p, hp⟩ : ∃ p, (hs != os) = p := ⟨_, rfl⟩
  obtain ⟨q, hq⟩ : ∃ q, (ht == ot) = q := ⟨_, rfl⟩
  have e : agB ⟨hs, ht, hx⟩ ⟨os, ot, ox⟩ = (p && (q && (hx || ox))) := by simp only [agB, hp, hq]
  rw [e]
  rw [← tl_beq] at hq
  clear e
  go_enter Try.func31, Try.ntmps31
  cases p <;> cases q <;> cases hx <;> cases ox <;> (go_wp2; go_ret; exact ⟨rfl, ((Below.refl _ _).alloc (Nat.le_refl _) _).alloc (by simp) _⟩)

theorem Qu.push2 {w : World} {base g off cap g1 : Nat} {xs : List Int} {k : Int} (h : Qu w base g off cap xs) (h1 : Blk w g1 3 #[.int .i64 k]) (ty : TypeId) (hl : xs.length ≤ 1000000) (hbase : base ≤ w.heap.size) :
    ∃ g' off' cap' w', (Builtin.append_ #[66, 66] ty #[.slice (some ⟨g, off, none⟩) xs.length cap, .slice (some ⟨g1, 0, none⟩) 1 1]).run Try.prog w = .ok (.slice (some ⟨g', off', none⟩) (xs.length + 1) cap') w' ∧
      Qu w' base g' off' cap' (xs ++ [k]) ∧ (w.grownBy w' none ∨ (0 < cap ∧ w.grownBy w' (some g))) ∧ (g' = g ∨ g' = w.heap.size) := by
  obtain ⟨i0, hi, hz0, hz1, hz2⟩ := info_parts (P := Try.prog) (e := 3) (z := .int .i64 0) (size := 1) (bytes := 8) (by kernel_rfl)
  have hone : ∀ j u, [Value.int .i64 k][j]? = some u → w.cell? ((⟨g1, 0, none⟩ : Addr).add j) = some u := by
    intro j u hj
    match j, hj with
    | 0, hj =>
      injection hj with hj
      subst hj
      exact h1.cell 0
  have h1c : ∀ u ∈ [Value.int .i64 k], u.oneCell' = true := by intro u hu; simp at hu; subst hu; rfl
  by_cases hroom : xs.length + 1 ≤ cap
  · have hsrc : Src Try.prog i0.size 66 (.slice (some ⟨g1, 0, none⟩) 1 1) 1 [.int .i64 k] w := Src.ofSlice w Try.underlying66 _ _ _ _ (by rw [hz1]; rfl) hone h1c
    have hth := h.there xs.length (by omega)
    have hrun := run_append_room_src (P := Try.prog) w 66 66 ty 3 i0 Try.underlying66 hi g off xs.length cap (.slice (some ⟨g1, 0, none⟩) 1 1) 1 [.int .i64 k] hsrc hroom
      (fun j hj => by
        have : j = 0 := by simpa using hj
        subst this
        rw [hz1, Nat.mul_one, Nat.add_zero]
        exact hth.1)
      (fun j hj => by
        have : j = 0 := by simpa using hj
        subst this
        rw [hz1, Nat.mul_one, Nat.add_zero]
        exact hth.2)
    rw [hz1, Nat.mul_one] at hrun
    have hgr : w.grownBy (w.setCells g (off + xs.length) [.int .i64 k]) (some g) := ⟨rfl, rfl, rfl, by simp [World.setCells, World.setCell], fun i _ hne => Below.heap_setCell _ _ _ _ (fun e => hne (by rw [e]))⟩
    refine ⟨g, off, cap, _, hrun, ⟨h.base, Nat.lt_of_lt_of_le h.lt hgr.size, by simpa using hroom, fun j hj => ?_, fun i z hz => ?_⟩, .inr ⟨by omega, hgr⟩, .inl rfl⟩
    · show ((w.setCell ⟨g, off + xs.length, none⟩ (.int .i64 k)).cell? ⟨g, off + j, none⟩).isSome = true ∧ (w.setCell ⟨g, off + xs.length, none⟩ (.int .i64 k)).frozen? ⟨g, off + j, none⟩ = false
      refine ⟨?_, ?_⟩
      · by_cases e : j = xs.length
        · subst e
          obtain ⟨u, hu⟩ := Option.isSome_iff_exists.1 hth.1
          rw [World.cell?_setCell_same _ _ _ hu]; simp
        · rw [World.cell?_setCell_other _ _ _ _ (by simp; try omega)]
          exact (h.there j hj).1
      · rw [World.frozen?_setCell]
        exact (h.there j hj).2
    · show (w.setCell ⟨g, off + xs.length, none⟩ (.int .i64 k)).cell? ⟨g, off + i, none⟩ = _
      rcases Nat.lt_trichotomy i xs.length with hlt | heq | hgt
      · rw [World.cell?_setCell_other _ _ _ _ (by simp; try omega)]
        rw [List.getElem?_append_left hlt] at hz
        exact h.holds i z hz
      · subst heq
        obtain ⟨u, hu⟩ := Option.isSome_iff_exists.1 hth.1
        rw [World.cell?_setCell_same _ _ _ hu]
        simp at hz
        rw [hz]
      · rw [List.getElem?_eq_none (by simp; omega)] at hz
        cases hz
  · have hcl : xs.length = cap := by have := h.le; omega
    have hrun := run_append_grow (P := Try.prog) w 66 ty 3 i0 _ Try.underlying66 hi hz0 ⟨g, off, none⟩ xs.length cap (xs.map (.int .i64)) (by rw [hz1]; simp)
      (fun j v hv => by
        rw [List.getElem?_map] at hv
        obtain ⟨z, hz, rfl⟩ := Option.map_eq_some_iff.1 hv
        rw [Addr.add_lit]
        exact h.holds j z hz)
      ⟨g1, 0, none⟩ 1 1 [.int .i64 k] (by rw [hz1]; rfl) hone (by omega) (by omega) (by rw [hz2]; exact growslice_fits (by omega) (by omega))
    have hge := grownCap_ge w (xs.length + 1) cap 3
    generalize grownCap w (xs.length + 1) cap 3 = G at *
    have hB : Blk (w.drew.alloc (.cells ((xs.map (Value.int .i64)).toArray ++ [Value.int .i64 k].toArray ++ Builtin.zeroCells (Value.int .i64 0).cells (G - (xs.length + 1))) 3)) w.heap.size 3 _ := Blk.new w.drew _ _
    have hsz : ((xs.map (Value.int .i64)).toArray ++ [Value.int .i64 k].toArray ++ Builtin.zeroCells (Value.int .i64 0).cells (G - (xs.length + 1))).size = G := by
      simp [size_zeroCells, Value.cells]; omega
    refine ⟨w.heap.size, 0, G, _, hrun, ⟨hbase, hB.lt, by simpa using hge, fun j hj => ⟨?_, hB.frozen _⟩, fun i z hz => ?_⟩, .inl ⟨rfl, rfl, rfl, by simp, fun i hi _ => Below.heap_alloc w.drew _ i hi⟩, .inr rfl⟩
    · rw [hB.cell, Nat.zero_add, Array.getElem?_eq_getElem (by rw [hsz]; exact hj)]; rfl
    · rw [hB.cell, Nat.zero_add]
      have hi : i < xs.length + 1 := by simpa using (List.getElem?_eq_some_iff.1 hz).1
      rw [Array.getElem?_append_left (by simp; exact hi)]
      simp
      rcases Nat.lt_or_ge i xs.length with h1 | h1
      · rw [List.getElem?_append_left (by simpa using h1)]
        rw [List.getElem?_append_left h1] at hz
        rw [List.getElem?_map, hz]; rfl
      · have : i = xs.length := by omega
        subst this
        simp at hz ⊢
        rw [hz]

/-- numbers at the head of a block -/
def Is (w : World) (A : Option Addr) (l : List Int) : Prop := (A = none ∧ l = []) ∨ ∃ b, A = some ⟨b, 0, none⟩ ∧ b < w.heap.size ∧ ∀ (i : Nat) z, l[i]? = some z → w.cell? ⟨b, i, none⟩ = some (.int .i64 z)
theorem Is.ext {w w' : World} {A : Option Addr} {l : List Int} (h : Is w A l) (hb : Below w.heap.size w w') : Is w' A l := by
  rcases h with h | ⟨b, e, hlt, hc⟩
  · exact .inl h
  · exact .inr ⟨b, e, Nat.lt_of_lt_of_le hlt hb.size, fun i z hz => (hb.cell (by exact hlt)).trans (hc i z hz)⟩
theorem is_of_own {w : World} {base : Nat} {t : TypeId} {A : Option Addr} {n c : Nat} {l : List Int} (h : w.ownsRow base t 1 (.slice A n c) n (l.map (Value.int .i64))) : Is w A l := by
  rcases h.2 with ⟨e, h0⟩ | ⟨g, cap, cur, e, hg, hgg, _, _, _, _⟩
  · injection e with e1 e2 e3
    refine .inl ⟨e1, ?_⟩
    have := h.1
    rw [List.length_map, h0] at this
    exact List.length_eq_zero_iff.1 (by omega)
  · injection e with e1 e2 e3
    subst e1
    refine .inr ⟨g, rfl, (Array.getElem?_eq_some_iff.1 hgg).1, fun i z hz => ?_⟩
    have hi : i < (l.map (Value.int .i64)).length := by rw [List.length_map]; exact (List.getElem?_eq_some_iff.1 hz).1
    rw [h.1] at hi
    rw [h.cellAt i hi, List.getElem?_map, hz]
    rfl
theorem in_ (l : List Int) (A : Option Addr) (n c : Nat) (k : Int) (w : World) (hl : l.length = n) (hn : n ≤ 100000) (hr : Is w A l) :
    Calls Try.prog 33 #[.slice A n c, .int .i64 k] w fun e w' => e = .returned (.bool (l.contains k)) ∧ w = w' := by
  have HL := Lib.hid hl
  clear hl
  obtain ⟨p, hp⟩ : ∃ p, l.contains k = p := ⟨_, rfl⟩
  rw [hp]
  have HP := Lib.hid hp
  clear hp
  go_enter Try.func33, Try.ntmps33
  go_wp2
  go_loopw [5] (fun i w' => ∃ j : Nat, w' = w ∧ j ≤ n ∧ i = .int .i64 j ∧ Hid (∀ i z, i < j → l[i]? = some z → z ≠ k)) (fun i _ => n - (intOf i).toNat)
  case atStart => exact ⟨0, rfl, Nat.zero_le _, rfl, Lib.hid (fun j x h => absurd h (by omega))⟩
  case round =>
    obtain ⟨j, rfl, hj, rfl, HK⟩ := hrel
    rcases Nat.lt_or_ge j n with hlt | hge
    · have hd : decide ((j : Int) < (n : Int)) = true := by simp; omega
      have hjn : (j : Int) < (n : Int) := by omega
      obtain ⟨z, hz⟩ : ∃ z, l[j]? = some z := ⟨_, List.getElem?_eq_getElem (by rw [HL.out]; exact hlt)⟩
      rcases hr with ⟨rfl, rfl⟩ | ⟨b, rfl, hbl, hc⟩
      · cases hz
      have q := hc j z hz
      have HZ := Lib.hid hz
      clear hz
      cases he : (z == k) with
      | true =>
        have E : Hid (true = p) := Lib.hid (by
          rw [← HP.out]
          symm
          have : z = k := by simpa using he
          simp only [List.contains_eq_mem, decide_eq_true_eq]
          rw [← this]
          exact List.mem_of_getElem? HZ.out)
        go_wp2
        go_ret
        exact ⟨ret_bool E.out, rfl⟩
      | false =>
        go_wp2
        go_roundw
        case rel =>
          refine ⟨j + 1, by trivial, by omega, by go_num, Lib.hid (fun i y hi hy => ?_)⟩
          by_cases hij : i = j
          · subst hij
            rw [HZ.out] at hy
            injection hy with hy
            rw [← hy]
            simpa using he
          · exact HK.out i y (by omega) hy
        case measure => simp [intOf]; omega
    · have hd : decide ((j : Int) < (n : Int)) = false := by simp; omega
      have E : Hid (false = p) := Lib.hid (by
        rw [← HP.out]
        symm
        simp only [List.contains_eq_mem, decide_eq_false_iff_not]
        intro hm
        obtain ⟨i, hi, e⟩ := List.getElem_of_mem hm
        exact HK.out i k (by have := HL.out; omega) (by rw [List.getElem?_eq_getElem hi, e]) rfl)
      go_wp2
      go_ret
      exact ⟨ret_bool E.out, rfl⟩
end Go.Proofs.Ytlfonenjgchklaa.lk
