/- Contracts: within (twice), Few of schemas, Fit. -/
import Derived.Test.YtnlmbjmgmofeiaaT3
import Derived.Deep.CutRange
namespace Go.Proofs.Ytnlmbjmgmofeiaa.tb
open Go.ChangeShapes Go.WideShapes Go.ChangeAt Go.RowKit Go.Proofs.Ytnlmbjmgmofeiaa.lib Go.Proofs.Ytnlmbjmgmofeiaa.val
set_option linter.unusedVariables false

theorem within10 (a n k : Int) (hk : a % n = k) (w : World) (hn : 1 ≤ n) (hn2 : n ≤ 2000000000000) (ha : -9223372036854775808 ≤ a) (hb : a ≤ 9223372036854775807) :
    Calls Try.prog 40 #[.int .i64 a, .int .i64 n] w fun e w' => e = .returned (.int .i64 k) ∧ w = w' := by
  subst hk
  have h0 : (n == 0) = false := by simp; omega
  have h1 := Int.emod_nonneg a (by omega : n ≠ 0)
  have h2 := Int.emod_lt_of_pos a (by omega : 0 < n)
  go_enter Try.func40, Try.ntmps40
  go_wp2
  · have h := tmod_pos a n hn (by assumption)
    go_ret
    exact ⟨ret_int (by simp [h]; exact IntWalk.wrap64_in _ ⟨by omega, by omega⟩), rfl⟩
  · have h := tmod_nn a n hn (by assumption)
    go_ret
    exact ⟨ret_int (by simp [h]), rfl⟩
theorem within9 (a n k : Int) (hk : a % n = k) (w : World) (hn : 1 ≤ n) (hn2 : n ≤ 2000000000000) (ha : -9223372036854775808 ≤ a) (hb : a ≤ 9223372036854775807) :
    Calls Try.prog 33 #[.int .i64 a, .int .i64 n] w fun e w' => e = .returned (.int .i64 k) ∧ w = w' := by
  subst hk
  have h0 : (n == 0) = false := by simp; omega
  have h1 := Int.emod_nonneg a (by omega : n ≠ 0)
  have h2 := Int.emod_lt_of_pos a (by omega : 0 < n)
  go_enter Try.func33, Try.ntmps33
  go_wp2
  · have h := tmod_pos a n hn (by assumption)
    go_ret
    exact ⟨ret_int (by simp [h]; exact IntWalk.wrap64_in _ ⟨by omega, by omega⟩), rfl⟩
  · have h := tmod_nn a n hn (by assumption)
    go_ret
    exact ⟨ret_int (by simp [h]), rfl⟩
set_option maxHeartbeats 1000000 in
theorem few9_ (s : ByteArray) (A : Option Addr) (n c : Nat) (l : List Col) (key : Int) (only : Bool) (w : World) (hs : s.size ≤ maxLen) (hC : Cs w 0 A n c l) (hn : n ≤ maxLen) (hp : ∀ x ∈ l, x.name.size ≤ maxLen) :
    Calls Try.prog 10 #[.agg #[.string s, .slice A n c, .int .i64 key, .bool only]] w fun e w' => (∃ b, e = .returned (.bool b)) ∧ Below w.heap.size w w' := by
  unfold maxLen at hn hs
  have HP := Lib.hid hp
  have HL := Lib.hid hC.2
  clear hp
  go_enter Try.func10, Try.ntmps10
  go_upto_region 1 with fail
  obtain ⟨W, hW_, hbW, B1⟩ : ∃ W_, W_ = (w.alloc (.cells #[.string s, .slice A n c, .int .i64 key, .bool only] 24)) ∧ Below w.heap.size w W_ ∧ Blk W_ (w.heap.size) 24 #[.string s, .slice A n c, .int .i64 key, .bool only] :=
    ⟨_, rfl, ((Below.refl _ _).alloc (Nat.le_refl _) _), (blk_new_at w (w.heap.size) _ _ (by simp))⟩
  rw [← hW_]
  clear hW_
  go_wp2
  go_loopw [3] (fun i w' => ∃ k : Nat, w' = W ∧ k ≤ n ∧ i = .int .i64 k) (fun i _ => n - (intOf i).toNat)
  case atStart => exact ⟨0, rfl, Nat.zero_le _, rfl⟩
  case round =>
    obtain ⟨k, rfl, hk, rfl⟩ := hrel
    have q1 := four B1 (Below.refl _ _)
    rcases Nat.lt_or_ge k n with hlt | hge
    · have hd : decide ((k : Int) < (n : Int)) = true := by simp; omega
      have hkn : (k : Int) < (n : Int) := by omega
      obtain ⟨x, hx⟩ : ∃ x, l[k]? = some x := ⟨_, List.getElem?_eq_getElem (by rw [HL.out]; exact hlt)⟩
      obtain ⟨g, o, rfl, _, _, hg⟩ := hC.1.some_ (by omega)
      have q := (hC.ext hbW).at_ hx
      have hxs := HP.out x (List.mem_of_getElem? hx)
      unfold maxLen at hxs
      clear hx
      obtain ⟨x0, x1, x2⟩ := x
      simp only at q hxs
      by_cases h30 : 30 < x0.size
      · have hd2 : decide (30 < (x0.size : Int)) = true := by simp; omega
        go_wp2
        go_ret
        exact ⟨⟨_, rfl⟩, hbW⟩
      · have hd2 : decide (30 < (x0.size : Int)) = false := by simp; omega
        go_wp2
        go_roundw
        case rel => exact ⟨k + 1, trivial, by omega, by go_num⟩
        case measure => simp [intOf]; omega
    · have hd : decide ((k : Int) < (n : Int)) = false := by simp; omega
      by_cases h9 : n ≤ 9
      · have hd2 : decide ((n : Int) ≤ 9) = true := by simp; omega
        go_wp2
        go_ret
        exact ⟨⟨_, rfl⟩, hbW⟩
      · have hd2 : decide ((n : Int) ≤ 9) = false := by simp; omega
        go_wp2
        go_ret
        exact ⟨⟨_, rfl⟩, hbW⟩

set_option maxRecDepth 1000000 in
set_option maxHeartbeats 4000000 in
theorem fit_ (S : Sch) (lo : Nat) (A : Option Addr) (n c : Nat) (x : Int) (w : World) (hC : Cs w lo A n c S.cols) (hn : n ≤ 100) (hk : KindsOk S.cols) (hx1 : -9223372036854775808 ≤ x) (hx2 : x ≤ 9223372036854775807) :
    Calls Try.prog 20 #[.agg (schA S A n c), .int .i64 x] w (OwnV (fitL S.cols x) n w) := by
  obtain ⟨i0, hi, hz0, hz1, hz2⟩ := info_parts (P := Try.prog) (e := 41) (z := .agg #[.int .i64 0, .int .i64 0, .string ⟨#[]⟩]) (size := 3) (bytes := 32) (by kernel_rfl)
  obtain ⟨nm, cols, key, only⟩ := S
  simp only [schA] at hC hk ⊢
  have HC := Lib.hid hC
  have HK := Lib.hid hk
  clear hC hk
  go_enter Try.func20, Try.ntmps20
  go_upto_region 1 with fail
  obtain ⟨W, hW_, hbW, B1⟩ : ∃ W_, W_ = (w.alloc (.cells #[.string nm, .slice A n c, .int .i64 key, .bool only] 24)) ∧ Below w.heap.size w W_ ∧ Blk W_ (w.heap.size) 24 #[.string nm, .slice A n c, .int .i64 key, .bool only] :=
    ⟨_, rfl, ((Below.refl _ _).alloc (Nat.le_refl _) _), (blk_new_at w (w.heap.size) _ _ (by simp))⟩
  rw [← hW_]
  clear hW_
  have hWs := B1.lt
  go_wp2
  go_loopw [5, 6] (fun out i wr => ∃ k : Nat, k ≤ n ∧ i = .int .i64 k ∧ wr.ownsRow W.heap.size 41 3 out k (cellsV ((fitL cols x).take k)) ∧ Below W.heap.size W wr) (fun _ i _ => n - (intOf i).toNat)
  case atStart => exact ⟨0, Nat.zero_le _, rfl, World.ownsRow_nil _ _ _ _, Below.refl _ _⟩
  case round =>
    obtain ⟨k, hk, rfl, hown, hbw⟩ := hrel
    have hw1 := Below.trans hbW (Below.mono hbw hbW.size)
    have q1 := four B1 hbw
    obtain ⟨A2, c2, rfl⟩ := own_slice hown
    have HO := Lib.hid hown
    clear hown
    rcases Nat.lt_or_ge k n with hlt | hge
    case inr =>
      have hd : decide ((k : Int) < (n : Int)) = false := by simp; omega
      obtain rfl : k = n := by omega
      have e : (fitL cols x).take k = fitL cols x := List.take_of_length_le (by rw [fitL_len, HC.out.2]; exact Nat.le_refl _)
      have h2 := HO.out
      rw [e] at h2
      have H2 := Lib.hid h2
      clear h2 e HO
      go_wp2
      go_ret
      exact ⟨A2, c2, rfl, own_base H2.out hbW.size, hw1⟩
    have hd : decide ((k : Int) < (n : Int)) = true := by simp; omega
    have hkn : (k : Int) < (n : Int) := by omega
    obtain ⟨cl, hcl⟩ : ∃ cl, cols[k]? = some cl := ⟨_, List.getElem?_eq_getElem (by rw [HC.out.2]; exact hlt)⟩
    obtain ⟨g, o, rfl, _, _, hg⟩ := HC.out.1.some_ (by omega)
    have q := (HC.out.ext hw1).at_ hcl
    have hkd := HK.out k cl hcl
    have HN := Lib.hid (fitL_succ cols x k cl hcl)
    obtain ⟨z, hz⟩ : ∃ z, (x.tdiv (1 + 3 * (k : Int))) % 40 = z := ⟨_, rfl⟩
    have hzb : 0 ≤ z ∧ z < 40 := by rw [← hz]; exact ⟨Int.emod_nonneg _ (by decide), Int.emod_lt_of_pos _ (by decide)⟩
    have hkz : Hid (kkV k x = z - 5) := Lib.hid (by unfold kkV; rw [hz])
    have htd : (x.tdiv (1 + 3 * (k : Int))).natAbs ≤ x.natAbs := by rw [Int.natAbs_tdiv]; exact Nat.div_le_self _ _
    have htd1 : -9223372036854775808 ≤ x.tdiv (1 + 3 * (k : Int)) ∧ x.tdiv (1 + 3 * (k : Int)) ≤ 9223372036854775807 := by
      have hs : x < 0 → x.tdiv (1 + 3 * (k : Int)) ≤ 0 := by
        intro h
        have h1 := Int.tdiv_nonneg (a := -x) (b := 1 + 3 * (k : Int)) (by omega) (by omega)
        rw [Int.neg_tdiv] at h1
        omega
      generalize x.tdiv (1 + 3 * (k : Int)) = d at htd hs
      omega
    go_wp2_with fail
    clear q1 q
    refine (within10 _ 40 z hz _ (by decide) (by decide) htd1.1 htd1.2).mono ?_
    rintro e w2 ⟨rfl, rfl⟩
    clear htd htd1 hz
    obtain ⟨cnm, ckd, nl⟩ := cl
    simp only at hkd hcl HN
    obtain ⟨y, hy⟩ : ∃ y, x % 5 = y := ⟨_, rfl⟩
    obtain ⟨j, hj⟩ : ∃ j, (z - 5) % 2 = j := ⟨_, rfl⟩
    have HJ := Lib.hid hj
    obtain ⟨j9, hj9⟩ : ∃ j9, (z - 5) % 9 = j9 := ⟨_, rfl⟩
    have hj9b : 0 ≤ j9 ∧ j9 ≤ 26 := by omega
    have HJ9 := Lib.hid hj9
    have q1 := four B1 hbw
    have q := (HC.out.ext hw1).at_ hcl
    have q1' := fun o => four B1 (hbw.alloc hbw.size o)
    have qx := fun o => (HC.out.ext (hw1.alloc hw1.size o)).at_ hcl
    have hkd3 : ckd = 1 ∨ ckd = 2 ∨ ckd = 3 := by omega
    clear hcl hkd
    rcases hkd3 with rfl | rfl | rfl
    · cases nl with
      | false =>
        go_wp2_with fail
        refine (within10 (z - 5) 2 j hj _ (by decide) (by decide) (by omega) (by omega)).mono ?_
        rintro e w2 ⟨rfl, rfl⟩
        have hfv : fitV ⟨cnm, 1, false⟩ k x = ⟨1, j, ByteArray.empty⟩ := by unfold fitV rawV; rw [hkz.out]; simp; exact HJ.out
        have HN9 : Hid (cellsV ((fitL cols x).take (k + 1)) = cellsV ((fitL cols x).take k) ++ [.int .i64 1, .int .i64 (j), .string ByteArray.empty]) := Lib.hid (by rw [HN.out, hfv]; unfold cellsV; rw [flatK_append, flatK_one]; rfl)
        clear hfv
        go_wp2_with (at_builtin; refine wpList_append_own _ rfl (.tmp 59) (.tmp 61) 38 rfl W.heap.size 41 i0 _ 3 32 Try.underlying38 hi hz0 hz1 hz2 rfl (by decide) _ _ _ rfl ((HO.out.alloc _).alloc _) ⟨wr.heap.size + 1, 0, none⟩ 1 1 [.int .i64 1, .int .i64 (j), .string ByteArray.empty] rfl rfl ?c1 ?c2 ?c3 ?c4 ?c5 ?_)
        case c1 => exact (Row.of_blk (blk_new_at _ _ _ _ (by simp)) (Nat.zero_le _) 3 3 (Nat.le_refl _)).src
        case c2 => exact fun u hu => oneV [⟨1, j, ByteArray.empty⟩] u (by simpa [cellsV, flatK, encV] using hu)
        case c3 => unfold maxLen; omega
        case c4 => omega
        case c5 => have := hbw.size; simp; omega
        intro v' w9 hown9 hgrow9 _
        have hbw9 : Below W.heap.size W w9 := ((hbw.alloc hbw.size _).alloc (by have := hbw.size; simp; omega) _).grown hgrow9 (by have := hbw.size; simp; omega) (fun b hb => (HO.out.lt b hb).1)
        have HO9 := Lib.hid hown9
        clear q1 q q1' qx
        go_wp2
        go_roundw
        case rel => exact ⟨k + 1, by omega, by go_num, by rw [HN9.out]; exact HO9.out, hbw9⟩
        case measure => simp [intOf]; omega
      | true =>
        go_wp2_with fail
        refine (within10 (z - 5) 2 j hj _ (by decide) (by decide) (by omega) (by omega)).mono ?_
        rintro e w2 ⟨rfl, rfl⟩
        go_wp2_with fail
        refine (within10 x 5 y hy _ (by decide) (by decide) hx1 hx2).mono ?_
        rintro e w3 ⟨rfl, rfl⟩
        by_cases hy0 : y = 0
        · have hyx : x % 5 = 0 := hy.trans hy0
          subst hy0
          have HYX := Lib.hid hyx
          clear hyx hy
          have hfv : fitV ⟨cnm, 1, true⟩ k x = ⟨0, 0, ByteArray.empty⟩ := by unfold fitV; rw [if_pos ⟨rfl, HYX.out⟩]; rfl
          have HN9 : Hid (cellsV ((fitL cols x).take (k + 1)) = cellsV ((fitL cols x).take k) ++ [.int .i64 0, .int .i64 (0), .string ByteArray.empty]) := Lib.hid (by rw [HN.out, hfv]; unfold cellsV; rw [flatK_append, flatK_one]; rfl)
          clear hfv
          go_wp2_with (at_builtin; refine wpList_append_own _ rfl (.tmp 59) (.tmp 61) 38 rfl W.heap.size 41 i0 _ 3 32 Try.underlying38 hi hz0 hz1 hz2 rfl (by decide) _ _ _ rfl ((HO.out.alloc _).alloc _) ⟨wr.heap.size + 1, 0, none⟩ 1 1 [.int .i64 0, .int .i64 (0), .string ByteArray.empty] rfl rfl ?c1 ?c2 ?c3 ?c4 ?c5 ?_)
          case c1 => exact (Row.of_blk (blk_new_at _ _ _ _ (by simp)) (Nat.zero_le _) 3 3 (Nat.le_refl _)).src
          case c2 => exact fun u hu => oneV [⟨0, 0, ByteArray.empty⟩] u (by simpa [cellsV, flatK, encV] using hu)
          case c3 => unfold maxLen; omega
          case c4 => omega
          case c5 => have := hbw.size; simp; omega
          intro v' w9 hown9 hgrow9 _
          have hbw9 : Below W.heap.size W w9 := ((hbw.alloc hbw.size _).alloc (by have := hbw.size; simp; omega) _).grown hgrow9 (by have := hbw.size; simp; omega) (fun b hb => (HO.out.lt b hb).1)
          have HO9 := Lib.hid hown9
          clear q1 q q1' qx
          go_wp2
          go_roundw
          case rel => exact ⟨k + 1, by omega, by go_num, by rw [HN9.out]; exact HO9.out, hbw9⟩
          case measure => simp [intOf]; omega
        · have hyx : ¬ x % 5 = 0 := fun e => hy0 (hy.symm.trans e)
          have hyb : (y == 0) = false := by simpa using hy0
          have HYX := Lib.hid hyx
          clear hyx hy hy0
          have hfv : fitV ⟨cnm, 1, true⟩ k x = ⟨1, j, ByteArray.empty⟩ := by unfold fitV rawV; rw [hkz.out, if_neg (fun h => HYX.out h.2)]; simp; exact HJ.out
          have HN9 : Hid (cellsV ((fitL cols x).take (k + 1)) = cellsV ((fitL cols x).take k) ++ [.int .i64 1, .int .i64 (j), .string ByteArray.empty]) := Lib.hid (by rw [HN.out, hfv]; unfold cellsV; rw [flatK_append, flatK_one]; rfl)
          clear hfv
          go_wp2_with (at_builtin; refine wpList_append_own _ rfl (.tmp 59) (.tmp 61) 38 rfl W.heap.size 41 i0 _ 3 32 Try.underlying38 hi hz0 hz1 hz2 rfl (by decide) _ _ _ rfl ((HO.out.alloc _).alloc _) ⟨wr.heap.size + 1, 0, none⟩ 1 1 [.int .i64 1, .int .i64 (j), .string ByteArray.empty] rfl rfl ?c1 ?c2 ?c3 ?c4 ?c5 ?_)
          case c1 => exact (Row.of_blk (blk_new_at _ _ _ _ (by simp)) (Nat.zero_le _) 3 3 (Nat.le_refl _)).src
          case c2 => exact fun u hu => oneV [⟨1, j, ByteArray.empty⟩] u (by simpa [cellsV, flatK, encV] using hu)
          case c3 => unfold maxLen; omega
          case c4 => omega
          case c5 => have := hbw.size; simp; omega
          intro v' w9 hown9 hgrow9 _
          have hbw9 : Below W.heap.size W w9 := ((hbw.alloc hbw.size _).alloc (by have := hbw.size; simp; omega) _).grown hgrow9 (by have := hbw.size; simp; omega) (fun b hb => (HO.out.lt b hb).1)
          have HO9 := Lib.hid hown9
          clear q1 q q1' qx
          go_wp2
          go_roundw
          case rel => exact ⟨k + 1, by omega, by go_num, by rw [HN9.out]; exact HO9.out, hbw9⟩
          case measure => simp [intOf]; omega
    · cases nl with
      | false =>
        have hfv : fitV ⟨cnm, 2, false⟩ k x = ⟨2, z - 5, ByteArray.empty⟩ := by unfold fitV rawV; rw [hkz.out]; simp
        have HN9 : Hid (cellsV ((fitL cols x).take (k + 1)) = cellsV ((fitL cols x).take k) ++ [.int .i64 2, .int .i64 (z - 5), .string ByteArray.empty]) := Lib.hid (by rw [HN.out, hfv]; unfold cellsV; rw [flatK_append, flatK_one]; rfl)
        clear hfv
        go_wp2_with (at_builtin; refine wpList_append_own _ rfl (.tmp 59) (.tmp 61) 38 rfl W.heap.size 41 i0 _ 3 32 Try.underlying38 hi hz0 hz1 hz2 rfl (by decide) _ _ _ rfl ((HO.out.alloc _).alloc _) ⟨wr.heap.size + 1, 0, none⟩ 1 1 [.int .i64 2, .int .i64 (z - 5), .string ByteArray.empty] rfl rfl ?c1 ?c2 ?c3 ?c4 ?c5 ?_)
        case c1 => exact (Row.of_blk (blk_new_at _ _ _ _ (by simp)) (Nat.zero_le _) 3 3 (Nat.le_refl _)).src
        case c2 => exact fun u hu => oneV [⟨2, z - 5, ByteArray.empty⟩] u (by simpa [cellsV, flatK, encV] using hu)
        case c3 => unfold maxLen; omega
        case c4 => omega
        case c5 => have := hbw.size; simp; omega
        intro v' w9 hown9 hgrow9 _
        have hbw9 : Below W.heap.size W w9 := ((hbw.alloc hbw.size _).alloc (by have := hbw.size; simp; omega) _).grown hgrow9 (by have := hbw.size; simp; omega) (fun b hb => (HO.out.lt b hb).1)
        have HO9 := Lib.hid hown9
        clear q1 q q1' qx
        go_wp2
        go_roundw
        case rel => exact ⟨k + 1, by omega, by go_num, by rw [HN9.out]; exact HO9.out, hbw9⟩
        case measure => simp [intOf]; omega
      | true =>
        go_wp2_with fail
        refine (within10 x 5 y hy _ (by decide) (by decide) hx1 hx2).mono ?_
        rintro e w3 ⟨rfl, rfl⟩
        by_cases hy0 : y = 0
        · have hyx : x % 5 = 0 := hy.trans hy0
          subst hy0
          have HYX := Lib.hid hyx
          clear hyx hy
          have hfv : fitV ⟨cnm, 2, true⟩ k x = ⟨0, 0, ByteArray.empty⟩ := by unfold fitV; rw [if_pos ⟨rfl, HYX.out⟩]; rfl
          have HN9 : Hid (cellsV ((fitL cols x).take (k + 1)) = cellsV ((fitL cols x).take k) ++ [.int .i64 0, .int .i64 (0), .string ByteArray.empty]) := Lib.hid (by rw [HN.out, hfv]; unfold cellsV; rw [flatK_append, flatK_one]; rfl)
          clear hfv
          go_wp2_with (at_builtin; refine wpList_append_own _ rfl (.tmp 59) (.tmp 61) 38 rfl W.heap.size 41 i0 _ 3 32 Try.underlying38 hi hz0 hz1 hz2 rfl (by decide) _ _ _ rfl ((HO.out.alloc _).alloc _) ⟨wr.heap.size + 1, 0, none⟩ 1 1 [.int .i64 0, .int .i64 (0), .string ByteArray.empty] rfl rfl ?c1 ?c2 ?c3 ?c4 ?c5 ?_)
          case c1 => exact (Row.of_blk (blk_new_at _ _ _ _ (by simp)) (Nat.zero_le _) 3 3 (Nat.le_refl _)).src
          case c2 => exact fun u hu => oneV [⟨0, 0, ByteArray.empty⟩] u (by simpa [cellsV, flatK, encV] using hu)
          case c3 => unfold maxLen; omega
          case c4 => omega
          case c5 => have := hbw.size; simp; omega
          intro v' w9 hown9 hgrow9 _
          have hbw9 : Below W.heap.size W w9 := ((hbw.alloc hbw.size _).alloc (by have := hbw.size; simp; omega) _).grown hgrow9 (by have := hbw.size; simp; omega) (fun b hb => (HO.out.lt b hb).1)
          have HO9 := Lib.hid hown9
          clear q1 q q1' qx
          go_wp2
          go_roundw
          case rel => exact ⟨k + 1, by omega, by go_num, by rw [HN9.out]; exact HO9.out, hbw9⟩
          case measure => simp [intOf]; omega
        · have hyx : ¬ x % 5 = 0 := fun e => hy0 (hy.symm.trans e)
          have hyb : (y == 0) = false := by simpa using hy0
          have HYX := Lib.hid hyx
          clear hyx hy hy0
          have hfv : fitV ⟨cnm, 2, true⟩ k x = ⟨2, z - 5, ByteArray.empty⟩ := by unfold fitV rawV; rw [hkz.out, if_neg (fun h => HYX.out h.2)]; simp
          have HN9 : Hid (cellsV ((fitL cols x).take (k + 1)) = cellsV ((fitL cols x).take k) ++ [.int .i64 2, .int .i64 (z - 5), .string ByteArray.empty]) := Lib.hid (by rw [HN.out, hfv]; unfold cellsV; rw [flatK_append, flatK_one]; rfl)
          clear hfv
          go_wp2_with (at_builtin; refine wpList_append_own _ rfl (.tmp 59) (.tmp 61) 38 rfl W.heap.size 41 i0 _ 3 32 Try.underlying38 hi hz0 hz1 hz2 rfl (by decide) _ _ _ rfl ((HO.out.alloc _).alloc _) ⟨wr.heap.size + 1, 0, none⟩ 1 1 [.int .i64 2, .int .i64 (z - 5), .string ByteArray.empty] rfl rfl ?c1 ?c2 ?c3 ?c4 ?c5 ?_)
          case c1 => exact (Row.of_blk (blk_new_at _ _ _ _ (by simp)) (Nat.zero_le _) 3 3 (Nat.le_refl _)).src
          case c2 => exact fun u hu => oneV [⟨2, z - 5, ByteArray.empty⟩] u (by simpa [cellsV, flatK, encV] using hu)
          case c3 => unfold maxLen; omega
          case c4 => omega
          case c5 => have := hbw.size; simp; omega
          intro v' w9 hown9 hgrow9 _
          have hbw9 : Below W.heap.size W w9 := ((hbw.alloc hbw.size _).alloc (by have := hbw.size; simp; omega) _).grown hgrow9 (by have := hbw.size; simp; omega) (fun b hb => (HO.out.lt b hb).1)
          have HO9 := Lib.hid hown9
          clear q1 q q1' qx
          go_wp2
          go_roundw
          case rel => exact ⟨k + 1, by omega, by go_num, by rw [HN9.out]; exact HO9.out, hbw9⟩
          case measure => simp [intOf]; omega
    · cases nl with
      | false =>
        go_wp2_with fail
        refine (within10 (z - 5) 9 j9 hj9 _ (by decide) (by decide) (by omega) (by omega)).mono ?_
        rintro e w2 ⟨rfl, rfl⟩
        have hfv : fitV ⟨cnm, 3, false⟩ k x = ⟨3, 0, (abc.extract 0 j9.toNat)⟩ := by unfold fitV rawV; rw [hkz.out]; simp; rw [HJ9.out]
        have HN9 : Hid (cellsV ((fitL cols x).take (k + 1)) = cellsV ((fitL cols x).take k) ++ [.int .i64 3, .int .i64 (0), .string (abc.extract 0 j9.toNat)]) := Lib.hid (by rw [HN.out, hfv]; unfold cellsV; rw [flatK_append, flatK_one]; rfl)
        clear hfv
        go_wp2_with (at_builtin; refine wpList_append_own _ rfl (.tmp 59) (.tmp 61) 38 rfl W.heap.size 41 i0 _ 3 32 Try.underlying38 hi hz0 hz1 hz2 rfl (by decide) _ _ _ rfl ((HO.out.alloc _).alloc _) ⟨wr.heap.size + 1, 0, none⟩ 1 1 [.int .i64 3, .int .i64 (0), .string (abc.extract 0 j9.toNat)] rfl rfl ?c1 ?c2 ?c3 ?c4 ?c5 ?_)
        case c1 => exact (Row.of_blk (blk_new_at _ _ _ _ (by simp)) (Nat.zero_le _) 3 3 (Nat.le_refl _)).src
        case c2 => exact fun u hu => oneV [⟨3, 0, (abc.extract 0 j9.toNat)⟩] u (by simpa [cellsV, flatK, encV] using hu)
        case c3 => unfold maxLen; omega
        case c4 => omega
        case c5 => have := hbw.size; simp; omega
        intro v' w9 hown9 hgrow9 _
        have hbw9 : Below W.heap.size W w9 := ((hbw.alloc hbw.size _).alloc (by have := hbw.size; simp; omega) _).grown hgrow9 (by have := hbw.size; simp; omega) (fun b hb => (HO.out.lt b hb).1)
        have HO9 := Lib.hid hown9
        clear q1 q q1' qx
        go_wp2
        go_roundw
        case rel => exact ⟨k + 1, by omega, by go_num, by rw [HN9.out]; exact HO9.out, hbw9⟩
        case measure => simp [intOf]; omega
      | true =>
        go_wp2_with fail
        refine (within10 (z - 5) 9 j9 hj9 _ (by decide) (by decide) (by omega) (by omega)).mono ?_
        rintro e w2 ⟨rfl, rfl⟩
        go_wp2_with fail
        refine (within10 x 5 y hy _ (by decide) (by decide) hx1 hx2).mono ?_
        rintro e w3 ⟨rfl, rfl⟩
        by_cases hy0 : y = 0
        · have hyx : x % 5 = 0 := hy.trans hy0
          subst hy0
          have HYX := Lib.hid hyx
          clear hyx hy
          have hfv : fitV ⟨cnm, 3, true⟩ k x = ⟨0, 0, ByteArray.empty⟩ := by unfold fitV; rw [if_pos ⟨rfl, HYX.out⟩]; rfl
          have HN9 : Hid (cellsV ((fitL cols x).take (k + 1)) = cellsV ((fitL cols x).take k) ++ [.int .i64 0, .int .i64 (0), .string ByteArray.empty]) := Lib.hid (by rw [HN.out, hfv]; unfold cellsV; rw [flatK_append, flatK_one]; rfl)
          clear hfv
          go_wp2_with (at_builtin; refine wpList_append_own _ rfl (.tmp 59) (.tmp 61) 38 rfl W.heap.size 41 i0 _ 3 32 Try.underlying38 hi hz0 hz1 hz2 rfl (by decide) _ _ _ rfl ((HO.out.alloc _).alloc _) ⟨wr.heap.size + 1, 0, none⟩ 1 1 [.int .i64 0, .int .i64 (0), .string ByteArray.empty] rfl rfl ?c1 ?c2 ?c3 ?c4 ?c5 ?_)
          case c1 => exact (Row.of_blk (blk_new_at _ _ _ _ (by simp)) (Nat.zero_le _) 3 3 (Nat.le_refl _)).src
          case c2 => exact fun u hu => oneV [⟨0, 0, ByteArray.empty⟩] u (by simpa [cellsV, flatK, encV] using hu)
          case c3 => unfold maxLen; omega
          case c4 => omega
          case c5 => have := hbw.size; simp; omega
          intro v' w9 hown9 hgrow9 _
          have hbw9 : Below W.heap.size W w9 := ((hbw.alloc hbw.size _).alloc (by have := hbw.size; simp; omega) _).grown hgrow9 (by have := hbw.size; simp; omega) (fun b hb => (HO.out.lt b hb).1)
          have HO9 := Lib.hid hown9
          clear q1 q q1' qx
          go_wp2
          go_roundw
          case rel => exact ⟨k + 1, by omega, by go_num, by rw [HN9.out]; exact HO9.out, hbw9⟩
          case measure => simp [intOf]; omega
        · have hyx : ¬ x % 5 = 0 := fun e => hy0 (hy.symm.trans e)
          have hyb : (y == 0) = false := by simpa using hy0
          have HYX := Lib.hid hyx
          clear hyx hy hy0
          have hfv : fitV ⟨cnm, 3, true⟩ k x = ⟨3, 0, (abc.extract 0 j9.toNat)⟩ := by unfold fitV rawV; rw [hkz.out, if_neg (fun h => HYX.out h.2)]; simp; rw [HJ9.out]
          have HN9 : Hid (cellsV ((fitL cols x).take (k + 1)) = cellsV ((fitL cols x).take k) ++ [.int .i64 3, .int .i64 (0), .string (abc.extract 0 j9.toNat)]) := Lib.hid (by rw [HN.out, hfv]; unfold cellsV; rw [flatK_append, flatK_one]; rfl)
          clear hfv
          go_wp2_with (at_builtin; refine wpList_append_own _ rfl (.tmp 59) (.tmp 61) 38 rfl W.heap.size 41 i0 _ 3 32 Try.underlying38 hi hz0 hz1 hz2 rfl (by decide) _ _ _ rfl ((HO.out.alloc _).alloc _) ⟨wr.heap.size + 1, 0, none⟩ 1 1 [.int .i64 3, .int .i64 (0), .string (abc.extract 0 j9.toNat)] rfl rfl ?c1 ?c2 ?c3 ?c4 ?c5 ?_)
          case c1 => exact (Row.of_blk (blk_new_at _ _ _ _ (by simp)) (Nat.zero_le _) 3 3 (Nat.le_refl _)).src
          case c2 => exact fun u hu => oneV [⟨3, 0, (abc.extract 0 j9.toNat)⟩] u (by simpa [cellsV, flatK, encV] using hu)
          case c3 => unfold maxLen; omega
          case c4 => omega
          case c5 => have := hbw.size; simp; omega
          intro v' w9 hown9 hgrow9 _
          have hbw9 : Below W.heap.size W w9 := ((hbw.alloc hbw.size _).alloc (by have := hbw.size; simp; omega) _).grown hgrow9 (by have := hbw.size; simp; omega) (fun b hb => (HO.out.lt b hb).1)
          have HO9 := Lib.hid hown9
          clear q1 q q1' qx
          go_wp2
          go_roundw
          case rel => exact ⟨k + 1, by omega, by go_num, by rw [HN9.out]; exact HO9.out, hbw9⟩
          case measure => simp [intOf]; omega
end Go.Proofs.Ytnlmbjmgmofeiaa.tb
