/- The walk of ValueFronts. -/
import Derived.Test.YtofihlpekljkeaaRRRRP
import Derived.Deep.DeepCutAuto
namespace Go.Proofs.YtofihlpekljkeaaRRRR.val
open Go.ChangeShapes Go.WideShapes Go.ChangeAt Go.RowKit Go.Proofs.YtofihlpekljkeaaRRRR.lib
set_option linter.unusedVariables false

theorem compareF (k n : Int) (s : ByteArray) (k' n' : Int) (s' : ByteArray) (c : Int) (w : World) (hc : cmpV ⟨k, n, s⟩ ⟨k', n', s'⟩ = c) :
    Calls Try.prog 10 #[.agg #[.int .i64 k, .int .i64 n, .string s], .agg #[.int .i64 k', .int .i64 n', .string s']] w fun e w' => e = .returned (.int .i64 c) ∧ Below w.heap.size w w' := by
  subst hc
  exact compare k n s k' n' s' w

theorem cb_front : ∀ (l : List UInt8) (b : UInt8), Lib.compareBytes l (l ++ [b]) = -1
  | [], b => rfl
  | a :: l, b => by
    rw [List.cons_append, Lib.compareBytes, if_neg (by simp), if_neg (by simp)]
    exact cb_front l b
theorem app_list (s : ByteArray) (b : UInt8) : (s ++ (⟨#[b]⟩ : ByteArray)).data.toList = s.data.toList ++ [b] := by simp
theorem cmp_front (s : ByteArray) (b : UInt8) : cmpV ⟨3, 0, s⟩ ⟨3, 0, s ++ ⟨#[b]⟩⟩ = -1 := by
  unfold cmpV
  rw [app_list, cb_front]
  simp [or3, ord]
theorem cmp_ints (a b : Int) : cmpV ⟨2, a, ⟨#[]⟩⟩ ⟨2, b, ⟨#[]⟩⟩ = ord a b := by
  unfold cmpV or3
  have e1 : ord 2 2 = 0 := rfl
  have e2 : Lib.compareBytes [] [] = 0 := rfl
  simp only [e1, e2, if_true]
  split <;> omega
theorem conv1 (W : World) (g : Nat) (b : UInt8) (h : W.cell? ⟨g, 0, none⟩ = some (.int .u8 (b.toNat : Int))) : (convert 31 9 (.slice (some ⟨g, 0, none⟩) 1 1)).run Try.prog W = .ok (.string ⟨#[b]⟩) W :=
  run_convert_bytes_back (P := Try.prog) W 31 9 5 ⟨g, 0, none⟩ 1 [b] Try.underlying31 Try.underlying5 Try.underlying9 (fun j hj => by
    simp only [List.length_cons, List.length_nil] at hj
    obtain rfl : j = 0 := by omega
    simpa [Addr.add] using h)

theorem blk_at0 (w : World) (t : TypeId) (x : Array Value) (b c : Obj) : Blk (((w.alloc (.cells x t)).alloc b).alloc c) w.heap.size t x := ((Blk.new _ _ _).alloc _).alloc _
theorem blk_at1 (w : World) (t : TypeId) (x : Array Value) (a c : Obj) : Blk (((w.alloc a).alloc (.cells x t)).alloc c) (w.heap.size + 1) t x := by
  have h := Blk.new (w.alloc a) t x
  have e : (w.alloc a).heap.size = w.heap.size + 1 := by simp
  rw [e] at h
  exact h.alloc _
theorem blk_at2 (w : World) (t : TypeId) (x : Array Value) (a b : Obj) : Blk (((w.alloc a).alloc b).alloc (.cells x t)) (w.heap.size + 1 + 1) t x := by
  have h := Blk.new ((w.alloc a).alloc b) t x
  have e : ((w.alloc a).alloc b).heap.size = w.heap.size + 1 + 1 := by simp
  rw [e] at h
  exact h
theorem blk_drew {w : World} {g : Nat} {t : TypeId} {cs : Array Value} (h : Blk w g t cs) : Blk w.drew g t cs := h
theorem below3 (w : World) (a b c : Obj) : Below w.heap.size w (((w.alloc a).alloc b).alloc c) := (((Below.refl _ _).alloc (Nat.le_refl _) _).alloc (by simp) _).alloc (by simp; omega) _

set_option maxHeartbeats 4000000 in
theorem fronts_walk (s : ByteArray) (c a b : Int) (w : World) (hs : s.size ≤ maxLen) (bc : 0 ≤ c ∧ c ≤ 255) (ba : -9223372036854775808 ≤ a ∧ a ≤ 9223372036854775807) (bb : -9223372036854775808 ≤ b ∧ b ≤ 9223372036854775807) :
    Calls Try.prog 6 #[.string s, .int .u8 c, .int .i64 a, .int .i64 b] w fun e w' => e = .returned (.bool true) ∧ Below w.heap.size w w' := by
  obtain ⟨d, hd⟩ : ∃ d : UInt8, c = (d.toNat : Int) := ⟨UInt8.ofNat c.toNat, by simp; omega⟩
  subst hd
  unfold maxLen at hs
  go_enter Try.func6, Try.ntmps6
  go_wp2_with fail
  refine (known _).mono ?_
  rintro e w1 ⟨rfl, hb1⟩
  by_cases h60 : 59 < s.size
  · go_wp2_with fail
    go_ret
    exact ⟨rfl, hb1⟩
  go_wp2_with fail
  have hN := hb1.size
  go_cut [9, 10] (fun s9 s10 wx => ∃ g1 g2 : Nat, s9 = .pointer (some ⟨g1, 0, none⟩) ∧ s10 = .pointer (some ⟨g2, 0, none⟩) ∧ Blk wx g1 23 #[.int .i64 3, .int .i64 0, .string s] ∧ Blk wx g2 23 #[.int .i64 3, .int .i64 0, .string (s ++ ⟨#[d]⟩)] ∧ Below w1.heap.size w1 wx)
  case first =>
    have hcv := fun W g => conv1 W g d
    have hcv2 : ∀ o1 o2, (convert 31 9 (.slice (some ⟨w1.heap.size, 0, none⟩) 1 1)).run Try.prog (((w1.alloc (.cells #[.int .u8 (d.toNat : Int)] 5)).alloc o1).alloc o2).drew = .ok (.string ⟨#[d]⟩) (((w1.alloc (.cells #[.int .u8 (d.toNat : Int)] 5)).alloc o1).alloc o2).drew := fun o1 o2 =>
      conv1 _ _ d ((((Blk.new w1 _ _).alloc o1).alloc o2).cell 0)
    have hz : (⟨#[d]⟩ : ByteArray).size = 1 := rfl
    have hq : ¬ (9223372036854775807 < s.size + 1) := by omega
    go_region
    all_goals
      go_wp2_with fail
      go_meet
      refine ⟨_, _, rfl, rfl, ?_, ?_, (below3 w1 _ _ _).drew⟩
      · first
        | exact blk_drew (blk_at0 _ _ _ _ _)
        | exact blk_drew (blk_at1 _ _ _ _ _)
        | exact blk_drew (blk_at2 _ _ _ _ _)
      · first
        | exact blk_drew (blk_at0 _ _ _ _ _)
        | exact blk_drew (blk_at1 _ _ _ _ _)
        | exact blk_drew (blk_at2 _ _ _ _ _)
  obtain ⟨g1, g2, rfl, rfl, B1, B2, hb⟩ := hcut
  have hfin := Below.trans hb1 (hb.mono hN)
  have hx1 : Below wc.heap.size wc ((wc.alloc (.cells #[.int .i64 2, .int .i64 a, .string ⟨#[]⟩] 23)).alloc (.cells #[.int .i64 2, .int .i64 b, .string ⟨#[]⟩] 23)) := ((Below.refl _ _).alloc (Nat.le_refl _) _).alloc (by simp) _
  have q1 := B1.three hx1
  have q2 := B2.three hx1
  go_wp2_with fail
  clear q1 q2
  obtain ⟨W0, hW0, hx1, B1, B2, B3, B4⟩ : ∃ W0, W0 = (wc.alloc (.cells #[.int .i64 2, .int .i64 a, .string ⟨#[]⟩] 23)).alloc (.cells #[.int .i64 2, .int .i64 b, .string ⟨#[]⟩] 23) ∧ Below wc.heap.size wc W0 ∧
      Blk W0 g1 23 #[.int .i64 3, .int .i64 0, .string s] ∧ Blk W0 g2 23 #[.int .i64 3, .int .i64 0, .string (s ++ ⟨#[d]⟩)] ∧
      Blk W0 wc.heap.size 23 #[.int .i64 2, .int .i64 a, .string ⟨#[]⟩] ∧ Blk W0 (wc.heap.size + 1) 23 #[.int .i64 2, .int .i64 b, .string ⟨#[]⟩] :=
    ⟨_, rfl, hx1, B1.ext hx1, B2.ext hx1, (Blk.new wc _ _).alloc _, by
      have h := Blk.new (wc.alloc (.cells #[.int .i64 2, .int .i64 a, .string ⟨#[]⟩] 23)) 23 #[.int .i64 2, .int .i64 b, .string ⟨#[]⟩]
      have e : (wc.alloc (.cells #[.int .i64 2, .int .i64 a, .string ⟨#[]⟩] 23)).heap.size = wc.heap.size + 1 := by simp
      rw [e] at h
      exact h⟩
  rw [← hW0]
  have hfin : Below w.heap.size w W0 := Below.trans hfin (hx1.mono (by have := hfin.size; omega))
  have hN0 := hfin.size
  clear hW0
  refine (compareF _ _ _ _ _ _ (-1) _ (cmp_front s d)).mono ?_
  rintro e w3 ⟨rfl, hb3⟩
  have q1 := B1.three hb3
  have q2 := B2.three hb3
  go_wp2_with fail
  clear q1 q2
  refine (compareF _ _ _ _ _ _ 1 _ (by rw [cmpV_anti, cmp_front]; rfl)).mono ?_
  rintro e w4 ⟨rfl, hb4⟩
  have hb4 := Below.trans hb3 (hb4.mono hb3.size)
  have q3 := B3.three hb4
  have q4 := B4.three hb4
  have tri : (a < b ∧ ord a b = -1) ∨ (a = b ∧ ord a b = 0) ∨ (b < a ∧ ord a b = 1) := by unfold ord; split <;> (try split) <;> omega
  rcases tri with ⟨h, ho⟩ | ⟨h, ho⟩ | ⟨h, ho⟩
  · have e1 : (a == b) = false := by simp; omega
    have ho := Lib.hid ho
    go_wp2_with fail
    refine (compareF _ _ _ _ _ _ (-1) _ (by rw [cmp_ints]; exact ho.out)).mono ?_
    rintro e w5 ⟨rfl, hb5⟩
    have hb5 := Below.trans hb4 (hb5.mono hb4.size)
    clear q3 q4
    have q3 := B3.three hb5
    have q4 := B4.three hb5
    go_wp2_with fail
    refine (compareF _ _ _ _ _ _ (-1) _ (by rw [cmp_ints]; exact ho.out)).mono ?_
    rintro e w6 ⟨rfl, hb6⟩
    have hb6 := Below.trans hb5 (hb6.mono hb5.size)
    clear q3 q4
    go_wp2
    go_ret
    exact ⟨rfl, Below.trans hfin (hb6.mono hN0)⟩
  · subst h
    have ho := Lib.hid ho
    go_wp2_with fail
    refine (compareF _ _ _ _ _ _ 0 _ (by rw [cmp_ints]; exact ho.out)).mono ?_
    rintro e w5 ⟨rfl, hb5⟩
    have hb5 := Below.trans hb4 (hb5.mono hb4.size)
    clear q3 q4
    have q3 := B3.three hb5
    have q4 := B4.three hb5
    go_wp2_with fail
    refine (compareF _ _ _ _ _ _ 0 _ (by rw [cmp_ints]; exact ho.out)).mono ?_
    rintro e w6 ⟨rfl, hb6⟩
    have hb6 := Below.trans hb5 (hb6.mono hb5.size)
    clear q3 q4
    go_wp2
    go_ret
    exact ⟨rfl, Below.trans hfin (hb6.mono hN0)⟩
  · have e1 : (a == b) = false := by simp; omega
    have e2 : ¬ a < b := by omega
    have ho := Lib.hid ho
    go_wp2_with fail
    refine (compareF _ _ _ _ _ _ 1 _ (by rw [cmp_ints]; exact ho.out)).mono ?_
    rintro e w5 ⟨rfl, hb5⟩
    have hb5 := Below.trans hb4 (hb5.mono hb4.size)
    clear q3 q4
    have q3 := B3.three hb5
    have q4 := B4.three hb5
    go_wp2_with fail
    refine (compareF _ _ _ _ _ _ 1 _ (by rw [cmp_ints]; exact ho.out)).mono ?_
    rintro e w6 ⟨rfl, hb6⟩
    have hb6 := Below.trans hb5 (hb6.mono hb5.size)
    clear q3 q4
    go_wp2
    go_ret
    exact ⟨ret_bool (by simp; omega), Below.trans hfin (hb6.mono hN0)⟩
end Go.Proofs.YtofihlpekljkeaaRRRR.val
