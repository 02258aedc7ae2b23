/- The walk of ValueKinds. -/
import Derived.Test.YtofihlpekljkeaaRRRRP
namespace Go.Proofs.YtofihlpekljkeaaRRRR.val
open Go.ChangeShapes Go.WideShapes Go.ChangeAt Go.RowKit Go.Proofs.YtofihlpekljkeaaRRRR.lib
set_option linter.unusedVariables false

/-- the five values -/
def five (a : Int) (s : ByteArray) : Nat → V
  | 0 => ⟨0, 0, ⟨#[]⟩⟩
  | 1 => ⟨1, 0, ⟨#[]⟩⟩
  | 2 => ⟨1, 1, ⟨#[]⟩⟩
  | 3 => ⟨2, a, ⟨#[]⟩⟩
  | _ => ⟨3, 0, s⟩
theorem five_cmp (a : Int) (s : ByteArray) (i k : Nat) (hi : i < 5) (hk : k < 5) : cmpV (five a s i) (five a s k) = if i < k then -1 else if k < i then 1 else 0 := by
  by_cases h : i = k
  · subst h
    rw [cmpV_refl]
    simp
  · have h0 : i = 0 ∨ i = 1 ∨ i = 2 ∨ i = 3 ∨ i = 4 := by omega
    have h1 : k = 0 ∨ k = 1 ∨ k = 2 ∨ k = 3 ∨ k = 4 := by omega
    rcases h0 with rfl | rfl | rfl | rfl | rfl <;> rcases h1 with rfl | rfl | rfl | rfl | rfl <;> first | (exact absurd rfl h) | rfl
def fiveCells (a : Int) (s : ByteArray) : Array Value := #[.int .i64 0, .int .i64 0, .string ⟨#[]⟩, .int .i64 1, .int .i64 0, .string ⟨#[]⟩, .int .i64 1, .int .i64 1, .string ⟨#[]⟩, .int .i64 2, .int .i64 a, .string ⟨#[]⟩, .int .i64 3, .int .i64 0, .string s]
theorem five_at (a : Int) (s : ByteArray) (i : Nat) (hi : i < 5) : (fiveCells a s)[i * 3 + 0]? = some (.int .i64 (five a s i).k) ∧ (fiveCells a s)[i * 3 + 1]? = some (.int .i64 (five a s i).n) ∧ (fiveCells a s)[i * 3 + 2]? = some (.string (five a s i).s) := by
  have h0 : i = 0 ∨ i = 1 ∨ i = 2 ∨ i = 3 ∨ i = 4 := by omega
  rcases h0 with rfl | rfl | rfl | rfl | rfl <;> exact ⟨rfl, rfl, rfl⟩

theorem compareG (a b : V) (c : Int) (w : World) (hc : cmpV a b = c) :
    Calls Try.prog 10 #[.agg #[.int .i64 a.k, .int .i64 a.n, .string a.s], .agg #[.int .i64 b.k, .int .i64 b.n, .string b.s]] w fun e w' => e = .returned (.int .i64 c) ∧ Below w.heap.size w w' := by
  subst hc
  exact compare a.k a.n a.s b.k b.n b.s w

set_option maxHeartbeats 2000000 in
theorem kinds_walk (a : Int) (s : ByteArray) (w : World) (hs : s.size ≤ maxLen) (ba : -9223372036854775808 ≤ a ∧ a ≤ 9223372036854775807) :
    Calls Try.prog 5 #[.int .i64 a, .string s] w fun e w' => e = .returned (.bool true) ∧ Below w.heap.size w w' := by
  unfold maxLen at hs
  go_enter Try.func5, Try.ntmps5
  go_wp2_with fail
  refine (known _).mono ?_
  rintro e w1 ⟨rfl, hb1⟩
  by_cases h60 : 60 < s.size
  · go_wp2_with fail
    go_ret
    exact ⟨rfl, hb1⟩
  go_wp2_with fail
  obtain ⟨W, hW, hB, B, hbW⟩ : ∃ W, W = w1.alloc (.cells (fiveCells a s) 23) ∧ Below w.heap.size w W ∧ Blk W w1.heap.size 23 (fiveCells a s) ∧ w1.heap.size < W.heap.size :=
    ⟨_, rfl, hb1.alloc hb1.size _, Blk.new _ _ _, by simp⟩
  unfold fiveCells at hW
  rw [← hW]
  clear hW
  obtain ⟨g, hg⟩ : ∃ g, g = w1.heap.size := ⟨_, rfl⟩
  rw [← hg] at B ⊢
  clear hg hbW
  go_loopw [6] (fun vi wr => ∃ i : Nat, i ≤ 5 ∧ vi = .int .i64 i ∧ Below W.heap.size W wr) (fun vi _ => 5 - (intOf vi).toNat)
  case atStart => exact ⟨0, by omega, rfl, Below.refl _ _⟩
  case round =>
    obtain ⟨i, hi, rfl, hbr⟩ := hrel
    by_cases hi5 : i < 5
    · have hdi : decide ((i : Int) < 5) = true := by simp; omega
      have hii : (i : Int) < 5 := by omega
      have hi0 : (0 : Int) ≤ (i : Int) := by omega
      go_wp2_with fail
      obtain ⟨wo, rfl⟩ : ∃ wo : World, wo = wr := ⟨_, rfl⟩
      go_loopw [7] (fun vk wr => ∃ k : Nat, k ≤ 5 ∧ vk = .int .i64 k ∧ Below W.heap.size W wr) (fun vk _ => 5 - (intOf vk).toNat)
      case atStart => exact ⟨0, by omega, rfl, hbr⟩
      case round =>
        obtain ⟨k, hk, rfl, hbr2⟩ := hrel
        by_cases hk5 : k < 5
        · have hdk : decide ((k : Int) < 5) = true := by simp; omega
          have hkk : (k : Int) < 5 := by omega
          have hk0 : (0 : Int) ≤ (k : Int) := by omega
          have D : ∀ w', Below wr.heap.size wr.drew w' → (w'.cell? ⟨g, i * 3, none⟩ = some (.int .i64 (five a s i).k) ∧ w'.cell? ⟨g, i * 3 + 1, none⟩ = some (.int .i64 (five a s i).n) ∧ w'.cell? ⟨g, i * 3 + 2, none⟩ = some (.string (five a s i).s)) ∧
              (w'.cell? ⟨g, k * 3, none⟩ = some (.int .i64 (five a s k).k) ∧ w'.cell? ⟨g, k * 3 + 1, none⟩ = some (.int .i64 (five a s k).n) ∧ w'.cell? ⟨g, k * 3 + 2, none⟩ = some (.string (five a s k).s)) := fun w' h => by
            have b := B.below (Below.trans hbr2 (Below.mono (Below.trans (Below.refl _ _).drew h) hbr2.size)) B.lt
            have ei := five_at a s i hi5
            have ek := five_at a s k hk5
            exact ⟨⟨(b.cell _).trans ei.1, (b.cell _).trans ei.2.1, (b.cell _).trans ei.2.2⟩, ⟨(b.cell _).trans ek.1, (b.cell _).trans ek.2.1, (b.cell _).trans ek.2.2⟩⟩
          have fc := Lib.hid (five_cmp a s i k hi5 hk5)
          by_cases h1 : i < k
          · have h1' : ¬ k < i := by omega
            have hc : cmpV (five a s i) (five a s k) = -1 := by rw [five_cmp a s i k hi5 hk5]; rw [if_pos h1]
            have HC := Lib.hid hc
            clear hc
            go_wp2_with fail
            refine wp_region_one [(0, true), (1, true), (2, true), (3, true), (4, true), (5, true), (6, true), (7, true), (9, true), (8, false), (10, true)] (by kernel_rfl) (by kernel_rfl) (by kernel_rfl) (by decide) ?_
            repeat ((with_reducible show wpPerm _ _ _ _ ((_, true) :: _) _ _); (first | (refine wpPerm_on (v := ?_) rfl rfl (wanted_free rfl) (fun w' hS => ?_) ?_; rotate_left; (focus (go_simp; (try with_reducible rfl); done)); try simp only [Act.put, List.setIfInBounds_toArray, List.set_cons_zero, List.set_cons_succ]) | (refine wpPerm_on (v := ?_) rfl rfl (wanted_yes rfl rfl rfl) (fun w' hS => ?_) ?_; rotate_left; (focus (go_simp; (try with_reducible rfl); done)); try simp only [Act.put, List.setIfInBounds_toArray, List.set_cons_zero, List.set_cons_succ]) | (refine wpPerm_off rfl rfl (wanted_no rfl rfl rfl) ?_; try simp only [Act.put, List.setIfInBounds_toArray, List.set_cons_zero, List.set_cons_succ]) | (refine wpPerm_off rfl rfl (wanted_undef rfl rfl rfl) ?_; try simp only [Act.put, List.setIfInBounds_toArray, List.set_cons_zero, List.set_cons_succ])))
            refine wpPerm_do rfl (wanted_free rfl) (fun K hK => ?_); go_simp
            refine (compareG _ _ (-1) _ HC.out).mono ?_
            rintro e w3 ⟨rfl, hb3⟩
            refine hK.out _ _ (Below.trans (Below.refl _ _) hb3) ?_
            clear hK K D
            repeat ((with_reducible show wpPerm _ _ _ _ ((_, true) :: _) _ _); (first | (refine wpPerm_on (v := ?_) rfl rfl (wanted_free rfl) (fun w' hS => ?_) ?_; rotate_left; (focus (go_simp; (try with_reducible rfl); done)); try simp only [Act.put, List.setIfInBounds_toArray, List.set_cons_zero, List.set_cons_succ]) | (refine wpPerm_on (v := ?_) rfl rfl (wanted_yes rfl rfl rfl) (fun w' hS => ?_) ?_; rotate_left; (focus (go_simp; (try with_reducible rfl); done)); try simp only [Act.put, List.setIfInBounds_toArray, List.set_cons_zero, List.set_cons_succ]) | (refine wpPerm_off rfl rfl (wanted_no rfl rfl rfl) ?_; try simp only [Act.put, List.setIfInBounds_toArray, List.set_cons_zero, List.set_cons_succ]) | (refine wpPerm_off rfl rfl (wanted_undef rfl rfl rfl) ?_; try simp only [Act.put, List.setIfInBounds_toArray, List.set_cons_zero, List.set_cons_succ])))
            refine wpPerm_done ?_
            have hb4 : Below W.heap.size W w3 := Below.trans hbr2 (Below.mono (Below.trans (Below.refl _ _).drew hb3) hbr2.size)
            go_wp2_with fail
            go_roundw
            case rel => first | exact ⟨k + 1, by omega, by go_num, hb4⟩ | ((repeat apply Exists.intro); exact ⟨⟨k + 1, by omega, by go_num, hb4⟩, rfl⟩)
            case measure => simp [intOf]; omega
          · by_cases h2 : k < i
            · have hc : cmpV (five a s i) (five a s k) = 1 := by rw [five_cmp a s i k hi5 hk5]; rw [if_neg h1, if_pos h2]
              have HC := Lib.hid hc
              clear hc
              go_wp2_with fail
              refine wp_region_one [(0, true), (1, true), (2, true), (3, true), (4, true), (5, true), (6, true), (7, true), (9, true), (8, false), (10, true)] (by kernel_rfl) (by kernel_rfl) (by kernel_rfl) (by decide) ?_
              repeat ((with_reducible show wpPerm _ _ _ _ ((_, true) :: _) _ _); (first | (refine wpPerm_on (v := ?_) rfl rfl (wanted_free rfl) (fun w' hS => ?_) ?_; rotate_left; (focus (go_simp; (try with_reducible rfl); done)); try simp only [Act.put, List.setIfInBounds_toArray, List.set_cons_zero, List.set_cons_succ]) | (refine wpPerm_on (v := ?_) rfl rfl (wanted_yes rfl rfl rfl) (fun w' hS => ?_) ?_; rotate_left; (focus (go_simp; (try with_reducible rfl); done)); try simp only [Act.put, List.setIfInBounds_toArray, List.set_cons_zero, List.set_cons_succ]) | (refine wpPerm_off rfl rfl (wanted_no rfl rfl rfl) ?_; try simp only [Act.put, List.setIfInBounds_toArray, List.set_cons_zero, List.set_cons_succ]) | (refine wpPerm_off rfl rfl (wanted_undef rfl rfl rfl) ?_; try simp only [Act.put, List.setIfInBounds_toArray, List.set_cons_zero, List.set_cons_succ])))
              refine wpPerm_do rfl (wanted_free rfl) (fun K hK => ?_); go_simp
              refine (compareG _ _ (1) _ HC.out).mono ?_
              rintro e w3 ⟨rfl, hb3⟩
              refine hK.out _ _ (Below.trans (Below.refl _ _) hb3) ?_
              clear hK K D
              repeat ((with_reducible show wpPerm _ _ _ _ ((_, true) :: _) _ _); (first | (refine wpPerm_on (v := ?_) rfl rfl (wanted_free rfl) (fun w' hS => ?_) ?_; rotate_left; (focus (go_simp; (try with_reducible rfl); done)); try simp only [Act.put, List.setIfInBounds_toArray, List.set_cons_zero, List.set_cons_succ]) | (refine wpPerm_on (v := ?_) rfl rfl (wanted_yes rfl rfl rfl) (fun w' hS => ?_) ?_; rotate_left; (focus (go_simp; (try with_reducible rfl); done)); try simp only [Act.put, List.setIfInBounds_toArray, List.set_cons_zero, List.set_cons_succ]) | (refine wpPerm_off rfl rfl (wanted_no rfl rfl rfl) ?_; try simp only [Act.put, List.setIfInBounds_toArray, List.set_cons_zero, List.set_cons_succ]) | (refine wpPerm_off rfl rfl (wanted_undef rfl rfl rfl) ?_; try simp only [Act.put, List.setIfInBounds_toArray, List.set_cons_zero, List.set_cons_succ])))
              refine wpPerm_done ?_
              have hb4 : Below W.heap.size W w3 := Below.trans hbr2 (Below.mono (Below.trans (Below.refl _ _).drew hb3) hbr2.size)
              go_wp2_with fail
              go_roundw
              case rel => first | exact ⟨k + 1, by omega, by go_num, hb4⟩ | ((repeat apply Exists.intro); exact ⟨⟨k + 1, by omega, by go_num, hb4⟩, rfl⟩)
              case measure => simp [intOf]; omega

            · have hc : cmpV (five a s i) (five a s k) = 0 := by rw [five_cmp a s i k hi5 hk5]; rw [if_neg h1, if_neg h2]
              have HC := Lib.hid hc
              clear hc
              go_wp2_with fail
              refine wp_region_one [(0, true), (1, true), (2, true), (3, true), (4, true), (5, true), (6, true), (7, true), (9, true), (8, false), (10, true)] (by kernel_rfl) (by kernel_rfl) (by kernel_rfl) (by decide) ?_
              repeat ((with_reducible show wpPerm _ _ _ _ ((_, true) :: _) _ _); (first | (refine wpPerm_on (v := ?_) rfl rfl (wanted_free rfl) (fun w' hS => ?_) ?_; rotate_left; (focus (go_simp; (try with_reducible rfl); done)); try simp only [Act.put, List.setIfInBounds_toArray, List.set_cons_zero, List.set_cons_succ]) | (refine wpPerm_on (v := ?_) rfl rfl (wanted_yes rfl rfl rfl) (fun w' hS => ?_) ?_; rotate_left; (focus (go_simp; (try with_reducible rfl); done)); try simp only [Act.put, List.setIfInBounds_toArray, List.set_cons_zero, List.set_cons_succ]) | (refine wpPerm_off rfl rfl (wanted_no rfl rfl rfl) ?_; try simp only [Act.put, List.setIfInBounds_toArray, List.set_cons_zero, List.set_cons_succ]) | (refine wpPerm_off rfl rfl (wanted_undef rfl rfl rfl) ?_; try simp only [Act.put, List.setIfInBounds_toArray, List.set_cons_zero, List.set_cons_succ])))
              refine wpPerm_do rfl (wanted_free rfl) (fun K hK => ?_); go_simp
              refine (compareG _ _ (0) _ HC.out).mono ?_
              rintro e w3 ⟨rfl, hb3⟩
              refine hK.out _ _ (Below.trans (Below.refl _ _) hb3) ?_
              clear hK K D
              repeat ((with_reducible show wpPerm _ _ _ _ ((_, true) :: _) _ _); (first | (refine wpPerm_on (v := ?_) rfl rfl (wanted_free rfl) (fun w' hS => ?_) ?_; rotate_left; (focus (go_simp; (try with_reducible rfl); done)); try simp only [Act.put, List.setIfInBounds_toArray, List.set_cons_zero, List.set_cons_succ]) | (refine wpPerm_on (v := ?_) rfl rfl (wanted_yes rfl rfl rfl) (fun w' hS => ?_) ?_; rotate_left; (focus (go_simp; (try with_reducible rfl); done)); try simp only [Act.put, List.setIfInBounds_toArray, List.set_cons_zero, List.set_cons_succ]) | (refine wpPerm_off rfl rfl (wanted_no rfl rfl rfl) ?_; try simp only [Act.put, List.setIfInBounds_toArray, List.set_cons_zero, List.set_cons_succ]) | (refine wpPerm_off rfl rfl (wanted_undef rfl rfl rfl) ?_; try simp only [Act.put, List.setIfInBounds_toArray, List.set_cons_zero, List.set_cons_succ])))
              refine wpPerm_done ?_
              have hb4 : Below W.heap.size W w3 := Below.trans hbr2 (Below.mono (Below.trans (Below.refl _ _).drew hb3) hbr2.size)
              go_wp2_with fail
              go_roundw
              case rel => first | exact ⟨k + 1, by omega, by go_num, hb4⟩ | ((repeat apply Exists.intro); exact ⟨⟨k + 1, by omega, by go_num, hb4⟩, rfl⟩)
              case measure => simp [intOf]; omega

        · go_wp2_with fail
          go_roundw
          case rel => first | exact ⟨i + 1, by omega, by go_num, hbr2⟩ | ((repeat apply Exists.intro); exact ⟨⟨i + 1, by omega, by go_num, hbr2⟩, rfl⟩)
          case measure => simp [intOf]; omega
    · go_wp2_with fail
      go_ret
      exact ⟨rfl, Below.trans hB (hbr.mono hB.size)⟩
end Go.Proofs.YtofihlpekljkeaaRRRR.val
