/- same; the walk of LexAll. -/
import Derived.Test.YtfmpnanfjomcbaaR4
namespace Go.Proofs.Ytfmpnanfjomcbaa.lx
open Go.ChangeShapes Go.WideShapes Go.ChangeAt Go.RowKit Go.Proofs.Ytfmpnanfjomcbaa.lib
set_option linter.unusedVariables false

theorem wds_of {w : World} {base n : Nat} {e : TypeId} {v : Value} {ws : List Wd} (h : w.ownsRow base e 3 v n (cellsW ws)) (h0 : 0 < n) : ∃ g c, v = .slice (some ⟨g, 0, none⟩) n c ∧ Wds w g ws := by
  obtain ⟨g, c, rfl, h1, h2⟩ := h.form h0
  refine ⟨g, c, rfl, h2, fun j u hu => ?_⟩
  have := h.cells (g := g) rfl j u hu
  have e : (⟨g, 0, none⟩ : Addr).add j = ⟨g, j, none⟩ := by unfold Addr.add; split <;> simp_all
  rwa [e] at this

theorem goL_count : ∀ (f : Nat) (l : List UInt8) (out : List Wd), (goL f l out).2.length ≤ out.length + l.length
  | 0, [], out => by show out.length ≤ _; simp
  | f + 1, [], out => by show out.length ≤ _; simp
  | 0, c :: l, out => by show 0 ≤ _; omega
  | f + 1, c :: l, out => by
    have hl := stepL_lt c l
    unfold goL
    cases hs : stepL (c :: l) with
    | skip r =>
      rw [hs] at hl
      have := goL_count f r out
      simp only [St.lt, List.length_cons] at *
      omega
    | put w r =>
      rw [hs] at hl
      have := goL_count f r (out ++ [w])
      simp only [St.lt, List.length_cons, List.length_append, List.length_nil] at *
      omega
    | err e => show 0 ≤ _; omega
theorem words_count (l : List UInt8) : (wordsL l).2.length ≤ l.length + 1 := by
  have h := goL_count l.length l []
  unfold wordsL
  split
  · exact Nat.zero_le _
  · split
    · show ((lexL l []).2 ++ [endW]).length ≤ _
      unfold lexL
      rw [List.length_append]
      simp at h ⊢
      exact h
    · exact Nat.zero_le _
theorem same_0 (A A2 : Option Addr) (c c2 : Nat) (w : World) :
    Calls Try.prog 13 #[.slice A 0 c, .slice A2 0 c2] w fun e w' => e = .returned (.bool true) ∧ Below w.heap.size w w' := by
  go_enter Try.func13, Try.ntmps13
  go_wp2
  refine wp_loop_rounds 1 ?_
  rw [rounds_succ]
  go_wp2
  go_ret
  exact ⟨rfl, Below.refl _ _⟩

set_option maxRecDepth 100000 in
set_option maxHeartbeats 8000000 in
theorem same_n (ws : List Wd) (n g g2 c c2 : Nat) (w : World) (hW : Wds w g ws) (hW2 : Wds w g2 ws) (hn : ws.length = n) (hn2 : n ≤ 100000) :
    Calls Try.prog 13 #[.slice (some ⟨g, 0, none⟩) n c, .slice (some ⟨g2, 0, none⟩) n c2] w fun e w' => e = .returned (.bool true) ∧ Below w.heap.size w w' := by
  have HN := Lib.hid hn
  clear hn
  go_enter Try.func13, Try.ntmps13
  go_wp2
  go_loopw [5] (fun i wr => ∃ (k : Nat), i = .int .i64 k ∧ k ≤ n ∧ Below w.heap.size w wr) (fun i _ => n - (intOf i).toNat)
  case atStart => exact ⟨0, rfl, Nat.zero_le _, Below.refl _ _⟩
  case round =>
    obtain ⟨k, rfl, hk, hb⟩ := hrel
    rcases Nat.lt_or_ge k n with hlt | hge
    · have hd : decide (k < n) = true := by simp; omega
      have hd2 : decide ((k : Int) < (n : Int)) = true := by simp; omega
      have hk2 : (k : Int) < (n : Int) := by omega
      obtain ⟨x, hx⟩ : ∃ x, ws[k]? = some x := ⟨_, List.getElem?_eq_getElem (by rw [HN.out]; exact hlt)⟩
      have HX := Lib.hid hx
      clear hx
      have D := fun w' (h : Below wr.heap.size wr.drew w') => ((hW.ext hb).ext (Below.trans (Below.refl _ _).drew h)).at_ HX.out
      have D2 := fun w' (h : Below wr.heap.size wr.drew w') => ((hW2.ext hb).ext (Below.trans (Below.refl _ _).drew h)).at_ HX.out
      go_wp2
      refine wp_region_one [(0, true), (1, true), (2, true), (3, true), (4, true), (5, true), (6, true), (7, true), (8, true), (9, true), (10, true), (11, true), (12, true), (13, true), (14, true), (15, true), (16, true), (17, true), (18, true), (19, true), (20, true), (21, true), (22, true), (23, true), (24, true), (25, true), (26, true), (27, true), (28, true), (29, true), (30, true), (31, true), (32, true), (33, true), (34, true), (35, true), (36, true)] (by kernel_rfl) (by kernel_rfl) (by kernel_rfl) (by decide) ?_
      repeat ((with_reducible show wpPerm _ _ _ _ ((_, true) :: _) _ _); (first | (refine wpPerm_on (v := ?_) rfl rfl (wanted_free rfl) (fun w' hS => ?_) ?_; rotate_left; (focus (go_simp; (try with_reducible rfl); done)); try simp only [Act.put, List.setIfInBounds_toArray, List.set_cons_zero, List.set_cons_succ]) | (refine wpPerm_on (v := ?_) rfl rfl (wanted_yes rfl rfl rfl) (fun w' hS => ?_) ?_; rotate_left; (focus (go_simp; (try with_reducible rfl); done)); try simp only [Act.put, List.setIfInBounds_toArray, List.set_cons_zero, List.set_cons_succ]) | (refine wpPerm_off rfl rfl (wanted_no rfl rfl rfl) ?_; try simp only [Act.put, List.setIfInBounds_toArray, List.set_cons_zero, List.set_cons_succ]) | (refine wpPerm_off rfl rfl (wanted_undef rfl rfl rfl) ?_; try simp only [Act.put, List.setIfInBounds_toArray, List.set_cons_zero, List.set_cons_succ])))
      refine wpPerm_done ?_
      clear D D2
      go_wp2
      go_roundw
      case rel => exact ⟨k + 1, by go_num, by omega, hb.drew⟩
      case measure => simp [intOf]; omega
    · have hd : decide (k < n) = false := by simp; omega
      have hd2 : decide ((k : Int) < (n : Int)) = false := by simp; omega
      go_wp2
      go_ret
      exact ⟨rfl, hb⟩

set_option maxHeartbeats 4000000 in
theorem all_walk (s : ByteArray) (w : World) (hs : s.size ≤ maxLen) :
    Calls Try.prog 3 #[.string s] w fun e w' => e = .returned (.bool true) ∧ Below w.heap.size w w' := by
  by_cases h700 : 700 < s.size
  · unfold maxLen at hs
    have hd : decide (700 < (s.size : Int)) = true := by simp; try omega
    go_enter Try.func3, Try.ntmps3
    go_wp2_with fail
    refine (known _).mono ?_
    rintro e w1 ⟨rfl, hb1⟩
    go_wp2
    go_ret
    exact ⟨rfl, hb1⟩
  have hd : decide (700 < (s.size : Int)) = false := by simp; omega
  obtain ⟨l, hl⟩ : ∃ l, l = s.data.toList := ⟨_, rfl⟩
  have hz : l.length = s.size := by rw [hl, Array.length_toList]; rfl
  have HS : Hid (Str s l) := Lib.hid ⟨by rw [hl]⟩
  have HL := Lib.hid hl
  have hl7 : l.length ≤ 700 := by omega
  have hsb : s.size ≤ 700 := by omega
  obtain ⟨⟨e0, ws⟩, hp⟩ : ∃ p, wordsL l = p := ⟨_, rfl⟩
  have HP := Lib.hid hp
  have hlen : ws.length ≤ 1000 := by
    have := words_count l
    rw [hp] at this
    have : ws.length ≤ l.length + 1 := this
    omega
  have hmx : (1000 : Nat) ≤ maxLen := by decide
  clear hl hz h700 hs hp
  go_enter Try.func3, Try.ntmps3
  go_wp2_with fail
  refine (known _).mono ?_
  rintro e w1 ⟨rfl, hb1⟩
  go_wp2_with fail
  refine (words_ s _ (by omega)).mono ?_
  rw [← HL.out, HP.out]
  rintro r w2 ⟨v, rfl, ho, hb2⟩
  obtain ⟨N, hN⟩ : ∃ N, ws.length = N := ⟨_, rfl⟩
  have HN := Lib.hid hN
  have HO : Hid (w2.ownsRow w1.heap.size 35 3 v N (cellsW ws)) := Lib.hid (by rw [← hN]; exact ho)
  clear ho hN
  go_wp2_with fail
  refine (rwords_ s l HS.out (by omega) _).mono ?_
  rw [HP.out]
  rintro r w3 ⟨v3, rfl, ho3, hb3⟩
  have HO3 : Hid (w3.ownsRow w2.heap.size 61 3 v3 N (cellsW ws)) := Lib.hid (by rw [← HN.out]; exact ho3)
  clear ho3
  go_wp2_with fail
  rcases Nat.eq_zero_or_pos N with h0 | h0
  · obtain ⟨A, c, rfl⟩ := own_slice HO.out
    obtain ⟨A3, c3, rfl⟩ := own_slice HO3.out
    subst h0
    refine (same_0 _ _ _ _ _).mono ?_
    rintro e w4 ⟨rfl, hb4⟩
    go_wp2
    go_ret
    exact ⟨rfl, bch0 hb1 (bch0 hb2 (bch0 hb3 hb4))⟩
  · obtain ⟨g, c, rfl, hW⟩ := wds_of HO.out h0
    obtain ⟨g3, c3, rfl, hW3⟩ := wds_of HO3.out h0
    refine (same_n ws N g g3 c c3 _ (hW.ext hb3) hW3 HN.out (by have := HN.out; omega)).mono ?_
    rintro e w4 ⟨rfl, hb4⟩
    go_wp2
    go_ret
    exact ⟨rfl, bch0 hb1 (bch0 hb2 (bch0 hb3 hb4))⟩
end Go.Proofs.Ytfmpnanfjomcbaa.lx
