/- Contract of the document's Compare (chapter 4). -/
import Derived.Test.YtfgmlgflfagdjaaE14
namespace Go.Proofs.Ytfgmlgflfagdjaa.ev
open Go.ChangeShapes Go.WideShapes Go.ChangeAt Go.RowKit Go.Proofs.Ytfgmlgflfagdjaa.lib Go.Proofs.Ytfgmlgflfagdjaa.val
set_option linter.unusedVariables false

theorem order_ (a b : Int) (w : World) : Calls Try.prog 43 #[.int .i64 a, .int .i64 b] w fun e w' => e = .returned (.int .i64 (ord a b)) ∧ w = w' := by
  unfold ord
  by_cases h1 : a < b
  · go_enter Try.func43, Try.ntmps43
    go_wp2
    go_ret
    exact ⟨ret_int (by (repeat' split) <;> first | rfl | omega), rfl⟩
  · by_cases h2 : b < a
    · go_enter Try.func43, Try.ntmps43
      go_wp2
      go_ret
      exact ⟨ret_int (by (repeat' split) <;> first | rfl | omega), rfl⟩
    · go_enter Try.func43, Try.ntmps43
      go_wp2
      go_ret
      exact ⟨ret_int (by (repeat' split) <;> first | rfl | omega), rfl⟩
theorem wrap_u8 (x : UInt8) : IntKind.i64.wrap (x.toNat : Int) = (x.toNat : Int) := IntWalk.i64_in _ ⟨by omega, by have := x.toNat_lt; omega⟩
theorem order_r (a b r : Int) (hr : ord a b = r) (w : World) : Calls Try.prog 43 #[.int .i64 a, .int .i64 b] w fun e w' => e = .returned (.int .i64 r) ∧ w = w' := by
  subst hr; exact order_ a b w
def rcmpV (a b : V) : Int := if a.k ≠ b.k then ord a.k b.k else if a.k ≠ 3 then ord a.n b.n else Lib.compareBytes a.s.data.toList b.s.data.toList
theorem cb_step (a b : UInt8) (l m : List UInt8) (h : a = b) : Lib.compareBytes (a :: l) (b :: m) = Lib.compareBytes l m := by
  subst h
  conv => lhs; unfold Lib.compareBytes
  have : ¬ a < a := by simp
  rw [if_neg this, if_neg this]
theorem cb_diff (a b : UInt8) (l m : List UInt8) (h : a ≠ b) : Lib.compareBytes (a :: l) (b :: m) = ord (a.toNat : Int) (b.toNat : Int) := by
  unfold Lib.compareBytes ord
  have hne : a.toNat ≠ b.toNat := fun e => h (UInt8.toNat_inj.1 e)
  by_cases h1 : a < b
  · have h1' : a.toNat < b.toNat := h1
    rw [if_pos h1, if_pos (by omega)]
  · have h1' : ¬ a.toNat < b.toNat := h1
    have h2 : b < a := by show b.toNat < a.toNat; omega
    rw [if_neg h1, if_pos h2, if_neg (by omega), if_pos (by omega)]
theorem cb_end (l m : List UInt8) (k : Nat) (hk : k ≤ l.length ∧ k ≤ m.length) (h : k = l.length ∨ k = m.length) : Lib.compareBytes (l.drop k) (m.drop k) = ord (l.length : Int) (m.length : Int) := by
  unfold ord
  rcases h with h | h
  · rw [List.drop_eq_nil_of_le (show l.length ≤ k by omega)]
    cases hm : m.drop k with
    | nil =>
      have := congrArg List.length hm
      rw [List.length_drop] at this
      simp at this
      rw [if_neg (by omega), if_neg (by omega)]; rfl
    | cons c r =>
      have := congrArg List.length hm
      rw [List.length_drop] at this
      simp at this
      rw [if_pos (by omega)]; rfl
  · rw [List.drop_eq_nil_of_le (show m.length ≤ k by omega)]
    cases hm : l.drop k with
    | nil =>
      have := congrArg List.length hm
      rw [List.length_drop] at this
      simp at this
      rw [if_neg (by omega), if_neg (by omega)]; rfl
    | cons c r =>
      have := congrArg List.length hm
      rw [List.length_drop] at this
      simp at this
      rw [if_neg (by omega), if_pos (by omega)]; rfl

set_option maxRecDepth 1000000 in
set_option maxHeartbeats 4000000 in
theorem rcmp_ (a b : V) (w : World) (ha : a.s.size ≤ maxLen) (hb : b.s.size ≤ maxLen) :
    Calls Try.prog 29 #[.agg #[.int .i64 a.k, .int .i64 a.n, .string a.s], .agg #[.int .i64 b.k, .int .i64 b.n, .string b.s]] w fun e w' => e = .returned (.int .i64 (rcmpV a b)) ∧ Below w.heap.size w w' := by
  obtain ⟨k, n, s⟩ := a
  obtain ⟨k', n', t⟩ := b
  unfold maxLen at ha hb
  simp only at ha hb
  unfold rcmpV
  simp only
  by_cases hk : k = k'
  · rw [if_neg (by simp [hk])]
    subst hk
    by_cases h3 : k = 3
    · subst h3
      rw [if_neg (by simp)]
      obtain ⟨l, hl⟩ : ∃ l, l = s.data.toList := ⟨_, rfl⟩
      obtain ⟨m, hm⟩ : ∃ m, m = t.data.toList := ⟨_, rfl⟩
      rw [← hl, ← hm]
      have hls : l.length = s.size := by rw [hl, Array.length_toList]; rfl
      have hmt : m.length = t.size := by rw [hm, Array.length_toList]; rfl
      have gs : ∀ (i : Nat) (h : i < s.size) (h2 : i < l.length), s[i]'h = l[i] := by subst hl; intro i h h2; simp [ByteArray.getElem_eq_getElem_data]
      have gt : ∀ (i : Nat) (h : i < t.size) (h2 : i < m.length), t[i]'h = m[i] := by subst hm; intro i h h2; simp [ByteArray.getElem_eq_getElem_data]
      have HLS := Lib.hid hls
      have HMT := Lib.hid hmt
      have GS := Lib.hid gs
      have GT := Lib.hid gt
      clear hl hm hls hmt gs gt
      go_enter Try.func29, Try.ntmps29
      go_wp2_with fail
      obtain ⟨W, hW_, hbW, B1, B2⟩ : ∃ W_, W_ = ((w.alloc (.cells #[.int .i64 3, .int .i64 n, .string s] 30)).alloc (.cells #[.int .i64 3, .int .i64 n', .string t] 30)) ∧ Below w.heap.size w W_ ∧ Blk W_ (w.heap.size) 30 #[.int .i64 3, .int .i64 n, .string s] ∧ Blk W_ (w.heap.size + 1) 30 #[.int .i64 3, .int .i64 n', .string t] :=
        ⟨_, rfl, (((Below.refl _ _).alloc (Nat.le_refl _) _).alloc (by simp; try omega) _), ((blk_new_at w (w.heap.size) _ _ (by simp)).alloc _), (blk_new_at (w.alloc (.cells #[.int .i64 3, .int .i64 n, .string s] 30)) (w.heap.size + 1) _ _ (by simp))⟩
      rw [← hW_]
      clear hW_
      have q1 := B1.three (Below.refl _ _)
      have q2 := B2.three (Below.refl _ _)
      go_wp2_with fail
      clear q1 q2
      go_loopw [5] (fun i wr => ∃ j : Nat, i = .int .i64 j ∧ j ≤ s.size ∧ j ≤ t.size ∧ Below W.heap.size W wr ∧ Hid (Lib.compareBytes l m = Lib.compareBytes (l.drop j) (m.drop j))) (fun i _ => s.size - (intOf i).toNat)
      case atStart => exact ⟨0, rfl, Nat.zero_le _, Nat.zero_le _, Below.refl _ _, Lib.hid rfl⟩
      case round =>
        obtain ⟨j, rfl, hj1, hj2, hbj, HJ⟩ := hrel
        have q1 := (B1.ext hbj).three (Below.refl _ _)
        have q2 := (B2.ext hbj).three (Below.refl _ _)
        by_cases hlt : j < s.size ∧ j < t.size
        · obtain ⟨hlt1, hlt2⟩ := hlt
          have hd1 : decide ((j : Int) < (s.size : Int)) = true := by simp; omega
          have hd2 : decide ((j : Int) < (t.size : Int)) = true := by simp; omega
          have hj1' : (j : Int) < (s.size : Int) := by omega
          have hj2' : (j : Int) < (t.size : Int) := by omega
          have hl : j < l.length := by rw [HLS.out]; exact hlt1
          have hm : j < m.length := by rw [HMT.out]; exact hlt2
          have D := fun w' (h : Below wr.heap.size wr.drew w') => ((B1.ext hbj).ext (Below.trans (Below.refl _ _).drew h)).three (Below.refl _ _)
          have D2 := fun w' (h : Below wr.heap.size wr.drew w') => ((B2.ext hbj).ext (Below.trans (Below.refl _ _).drew h)).three (Below.refl _ _)
          by_cases hne : l[j] = m[j]
          · have hq : (((s[j]'hlt1).toNat : Int) != ((t[j]'hlt2).toNat : Int)) = false := by rw [GS.out j hlt1 hl, GT.out j hlt2 hm, hne]; simp
            have HNX := Lib.hid (show Lib.compareBytes l m = Lib.compareBytes (l.drop (j + 1)) (m.drop (j + 1)) by
              rw [HJ.out, List.drop_eq_getElem_cons hl, List.drop_eq_getElem_cons hm, cb_step _ _ _ _ hne])
            clear hne
            go_wp2_with fail
            clear q1 q2
            refine wp_region_one [(0, true), (1, true), (2, true), (3, true), (4, true), (5, true), (6, true), (7, true), (8, true)] (by kernel_rfl) (by kernel_rfl) (by kernel_rfl) (by decide) ?_
            repeat ((with_reducible show wpPerm _ _ _ _ ((_, true) :: _) _ _); (first | (refine wpPerm_on (v := ?_) rfl rfl (wanted_free rfl) (fun w' hS => ?_) ?_; rotate_left; (focus (go_simp; (try with_reducible rfl); done)); try simp only [List.setIfInBounds_toArray, List.set_cons_zero, List.set_cons_succ]) | (refine wpPerm_on (v := ?_) rfl rfl (wanted_yes rfl rfl rfl) (fun w' hS => ?_) ?_; rotate_left; (focus (go_simp; (try with_reducible rfl); done)); try simp only [List.setIfInBounds_toArray, List.set_cons_zero, List.set_cons_succ]) | (refine wpPerm_off rfl rfl (wanted_no rfl rfl rfl) ?_; try simp only [List.setIfInBounds_toArray, List.set_cons_zero, List.set_cons_succ]) | (refine wpPerm_off rfl rfl (wanted_undef rfl rfl rfl) ?_; try simp only [List.setIfInBounds_toArray, List.set_cons_zero, List.set_cons_succ])))
            refine wpPerm_done ?_
            clear D D2
            go_wp2
            go_roundw
            case rel => exact ⟨j + 1, by go_num, by omega, by omega, hbj.drew, HNX⟩
            case measure => simp [intOf]; omega
          · have hq : (((s[j]'hlt1).toNat : Int) != ((t[j]'hlt2).toNat : Int)) = true := by
              rw [GS.out j hlt1 hl, GT.out j hlt2 hm, bne_iff_ne]
              intro e
              exact hne (UInt8.toNat_inj.1 (by omega))
            have HR := Lib.hid (show ord (IntKind.i64.wrap ((s[j]'hlt1).toNat : Int)) (IntKind.i64.wrap ((t[j]'hlt2).toNat : Int)) = Lib.compareBytes l m by
              rw [wrap_u8, wrap_u8, HJ.out, List.drop_eq_getElem_cons hl, List.drop_eq_getElem_cons hm, cb_diff _ _ _ _ hne, GS.out j hlt1 hl, GT.out j hlt2 hm])
            clear hne
            go_wp2_with fail
            clear q1 q2
            refine wp_region_one [(0, true), (1, true), (2, true), (3, true), (4, true), (5, true), (6, true), (7, true), (8, true)] (by kernel_rfl) (by kernel_rfl) (by kernel_rfl) (by decide) ?_
            repeat ((with_reducible show wpPerm _ _ _ _ ((_, true) :: _) _ _); (first | (refine wpPerm_on (v := ?_) rfl rfl (wanted_free rfl) (fun w' hS => ?_) ?_; rotate_left; (focus (go_simp; (try with_reducible rfl); done)); try simp only [List.setIfInBounds_toArray, List.set_cons_zero, List.set_cons_succ]) | (refine wpPerm_on (v := ?_) rfl rfl (wanted_yes rfl rfl rfl) (fun w' hS => ?_) ?_; rotate_left; (focus (go_simp; (try with_reducible rfl); done)); try simp only [List.setIfInBounds_toArray, List.set_cons_zero, List.set_cons_succ]) | (refine wpPerm_off rfl rfl (wanted_no rfl rfl rfl) ?_; try simp only [List.setIfInBounds_toArray, List.set_cons_zero, List.set_cons_succ]) | (refine wpPerm_off rfl rfl (wanted_undef rfl rfl rfl) ?_; try simp only [List.setIfInBounds_toArray, List.set_cons_zero, List.set_cons_succ])))
            refine wpPerm_done ?_
            clear D D2
            have hbj2 : Below W.heap.size W wr.drew := hbj.drew
            generalize wr.drew = wd at hbj2 ⊢
            go_wp2_with fail
            have D := fun w' (h : Below wd.heap.size wd.drew w') => ((B1.ext hbj2).ext (Below.trans (Below.refl _ _).drew h)).three (Below.refl _ _)
            have D2 := fun w' (h : Below wd.heap.size wd.drew w') => ((B2.ext hbj2).ext (Below.trans (Below.refl _ _).drew h)).three (Below.refl _ _)
            refine wp_region_one [(0, true), (1, true), (2, true), (3, true), (4, true), (5, true), (6, true), (7, true), (8, true), (9, true), (10, false), (11, true)] (by kernel_rfl) (by kernel_rfl) (by kernel_rfl) (by decide) ?_
            repeat ((with_reducible show wpPerm _ _ _ _ ((_, true) :: _) _ _); (first | (refine wpPerm_on (v := ?_) rfl rfl (wanted_free rfl) (fun w' hS => ?_) ?_; rotate_left; (focus (go_simp; (try with_reducible rfl); done)); try simp only [List.setIfInBounds_toArray, List.set_cons_zero, List.set_cons_succ]) | (refine wpPerm_on (v := ?_) rfl rfl (wanted_yes rfl rfl rfl) (fun w' hS => ?_) ?_; rotate_left; (focus (go_simp; (try with_reducible rfl); done)); try simp only [List.setIfInBounds_toArray, List.set_cons_zero, List.set_cons_succ]) | (refine wpPerm_off rfl rfl (wanted_no rfl rfl rfl) ?_; try simp only [List.setIfInBounds_toArray, List.set_cons_zero, List.set_cons_succ]) | (refine wpPerm_off rfl rfl (wanted_undef rfl rfl rfl) ?_; try simp only [List.setIfInBounds_toArray, List.set_cons_zero, List.set_cons_succ])))
            refine wpPerm_do rfl (wanted_free rfl) (fun K hK => ?_); go_simp
            refine (order_r _ _ _ HR.out _).mono ?_
            rintro e w3 ⟨rfl, rfl⟩
            refine hK.out _ _ (Below.refl _ _) ?_
            clear hK K
            repeat ((with_reducible show wpPerm _ _ _ _ ((_, true) :: _) _ _); (first | (refine wpPerm_on (v := ?_) rfl rfl (wanted_free rfl) (fun w' hS => ?_) ?_; rotate_left; (focus (go_simp; (try with_reducible rfl); done)); try simp only [List.setIfInBounds_toArray, List.set_cons_zero, List.set_cons_succ]) | (refine wpPerm_on (v := ?_) rfl rfl (wanted_yes rfl rfl rfl) (fun w' hS => ?_) ?_; rotate_left; (focus (go_simp; (try with_reducible rfl); done)); try simp only [List.setIfInBounds_toArray, List.set_cons_zero, List.set_cons_succ]) | (refine wpPerm_off rfl rfl (wanted_no rfl rfl rfl) ?_; try simp only [List.setIfInBounds_toArray, List.set_cons_zero, List.set_cons_succ]) | (refine wpPerm_off rfl rfl (wanted_undef rfl rfl rfl) ?_; try simp only [List.setIfInBounds_toArray, List.set_cons_zero, List.set_cons_succ])))
            refine wpPerm_done ?_
            clear D D2
            go_wp2
            go_ret
            exact ⟨rfl, Below.trans hbW (Below.mono hbj2.drew hbW.size)⟩
        · have hend : j = l.length ∨ j = m.length := by have := HLS.out; have := HMT.out; omega
          have HR := Lib.hid (show ord (s.size : Int) (t.size : Int) = Lib.compareBytes l m by
            rw [HJ.out, cb_end l m j (by have := HLS.out; have := HMT.out; omega) hend, HLS.out, HMT.out])
          clear hend
          have hg : (decide ((j : Int) < (s.size : Int)) = false ∧ decide (j < s.size) = false) ∨ (decide ((j : Int) < (s.size : Int)) = true ∧ decide (j < s.size) = true ∧ decide ((j : Int) < (t.size : Int)) = false ∧ decide (j < t.size) = false) := by
            by_cases h : j < s.size
            · exact .inr ⟨by simp; omega, by simp; omega, by simp; omega, by simp; omega⟩
            · exact .inl ⟨by simp; omega, by simp; omega⟩
          clear hlt
          rcases hg with ⟨hg1, hg3⟩ | ⟨hg1, hg3, hg2, hg4⟩
          all_goals
            go_wp2_with fail
            refine (order_r _ _ _ HR.out _).mono ?_
            rintro e w3 ⟨rfl, rfl⟩
            clear q1 q2
            go_wp2
            go_ret
            exact ⟨rfl, Below.trans hbW (Below.mono hbj hbW.size)⟩
    · rw [if_pos h3]
      have h3b : (k != 3) = true := by simpa using h3
      clear h3
      go_enter Try.func29, Try.ntmps29
      go_wp2_with fail
      obtain ⟨W, hW_, hbW, B1, B2⟩ : ∃ W_, W_ = ((w.alloc (.cells #[.int .i64 k, .int .i64 n, .string s] 30)).alloc (.cells #[.int .i64 k, .int .i64 n', .string t] 30)) ∧ Below w.heap.size w W_ ∧ Blk W_ (w.heap.size) 30 #[.int .i64 k, .int .i64 n, .string s] ∧ Blk W_ (w.heap.size + 1) 30 #[.int .i64 k, .int .i64 n', .string t] :=
        ⟨_, rfl, (((Below.refl _ _).alloc (Nat.le_refl _) _).alloc (by simp; try omega) _), ((blk_new_at w (w.heap.size) _ _ (by simp)).alloc _), (blk_new_at (w.alloc (.cells #[.int .i64 k, .int .i64 n, .string s] 30)) (w.heap.size + 1) _ _ (by simp))⟩
      rw [← hW_]
      clear hW_
      have q1 := B1.three (Below.refl _ _)
      have q2 := B2.three (Below.refl _ _)
      go_wp2_with fail
      refine (order_ _ _ _).mono ?_
      rintro e w3 ⟨rfl, rfl⟩
      clear q1 q2
      go_wp2
      go_ret
      exact ⟨rfl, hbW⟩
  · rw [if_pos hk]
    have hkb : (k != k') = true := by simpa using hk
    clear hk
    go_enter Try.func29, Try.ntmps29
    go_wp2_with fail
    obtain ⟨W, hW_, hbW, B1, B2⟩ : ∃ W_, W_ = ((w.alloc (.cells #[.int .i64 k, .int .i64 n, .string s] 30)).alloc (.cells #[.int .i64 k', .int .i64 n', .string t] 30)) ∧ Below w.heap.size w W_ ∧ Blk W_ (w.heap.size) 30 #[.int .i64 k, .int .i64 n, .string s] ∧ Blk W_ (w.heap.size + 1) 30 #[.int .i64 k', .int .i64 n', .string t] :=
      ⟨_, rfl, (((Below.refl _ _).alloc (Nat.le_refl _) _).alloc (by simp; try omega) _), ((blk_new_at w (w.heap.size) _ _ (by simp)).alloc _), (blk_new_at (w.alloc (.cells #[.int .i64 k, .int .i64 n, .string s] 30)) (w.heap.size + 1) _ _ (by simp))⟩
    rw [← hW_]
    clear hW_
    have q1 := B1.three (Below.refl _ _)
    have q2 := B2.three (Below.refl _ _)
    go_wp2_with fail
    refine (order_ _ _ _).mono ?_
    rintro e w3 ⟨rfl, rfl⟩
    clear q1 q2
    go_wp2
    go_ret
    exact ⟨rfl, hbW⟩
end Go.Proofs.Ytfgmlgflfagdjaa.ev
