/- The walk of LexTexts. -/
import Derived.Test.YtfmpnanfjomcbaaK9
namespace Go.Proofs.Ytfmpnanfjomcbaa.lx
open Go.ChangeShapes Go.WideShapes Go.ChangeAt Go.RowKit Go.Proofs.Ytfmpnanfjomcbaa.lib
set_option linter.unusedVariables false

theorem app_mk (a b : List UInt8) : (ByteArray.mk a.toArray) ++ (ByteArray.mk b.toArray) = ⟨(a ++ b).toArray⟩ := by
  apply ByteArray.ext
  simp
theorem ext_one (s : ByteArray) (l : List UInt8) (hs : s = ⟨l.toArray⟩) (k : Nat) (h : k < l.length) : s.extract k (k + 1) = ⟨[l[k]].toArray⟩ := by
  subst hs
  apply ByteArray.ext
  apply Array.ext'
  rw [ByteArray.data_extract, Array.toList_extract]
  simp only [List.extract_eq_drop_take', List.toList_toArray]
  rw [List.take_succ_eq_append_getElem h, List.drop_append_of_le_length (by simp; omega), List.drop_of_length_le (by simp; omega)]
  rfl
theorem dbl_snoc : ∀ (l : List UInt8) (c : UInt8), dbl (l ++ [c]) = if c = 39 then dbl l ++ [39, 39] else dbl l ++ [c]
  | [], c => by
    show dbl [c] = _
    unfold dbl
    split <;> rfl
  | x :: l, c => by
    have ih := dbl_snoc l c
    rw [List.cons_append]
    unfold dbl
    rw [ih]
    repeat' split
    all_goals simp
theorem dbl_len : ∀ l : List UInt8, (dbl l).length ≤ 2 * l.length
  | [] => Nat.le_refl _
  | c :: l => by
    have ih := dbl_len l
    unfold dbl
    split <;> simp <;> omega

set_option maxRecDepth 100000 in
set_option maxHeartbeats 2000000 in
theorem quoted_ (s : ByteArray) (l : List UInt8) (hs : s = ⟨l.toArray⟩) (hl : l.length ≤ 100000) (w : World) :
    Calls Try.prog 16 #[.string s] w fun e w' => e = .returned (.string ⟨(quo l).toArray⟩) ∧ w = w' := by
  have hz : s.size = l.length := by rw [hs]; exact size_mk l
  have hg : ∀ (i : Nat) (h : i < s.size) (h2 : i < l.length), s[i]'h = l[i] := by subst hs; exact get_mk l
  have HZ := Lib.hid hz
  have HG := Lib.hid hg
  have HS := Lib.hid hs
  have hsb : s.size ≤ 100000 := by omega
  clear hz hg hs
  go_enter Try.func16, Try.ntmps16
  go_wp2
  go_loopw [3, 4] (fun t i w' => ∃ (k : Nat) (u : ByteArray), w' = w ∧ k ≤ s.size ∧ i = .int .i64 k ∧ t = .string u ∧ u.size ≤ 2 * k + 1 ∧ Hid (u = ⟨(39 :: dbl (l.take k)).toArray⟩)) (fun _ i _ => s.size - (intOf i).toNat)
  case atStart => exact ⟨0, ⟨#[39]⟩, rfl, Nat.zero_le _, rfl, rfl, by decide, Lib.hid rfl⟩
  case round =>
    obtain ⟨k, u, rfl, hk, rfl, rfl, hus, HU⟩ := hrel
    rcases Nat.lt_or_ge k s.size with hlt | hge
    · have hl2 : k < l.length := by rw [← HZ.out]; exact hlt
      have hd : decide (k < s.size) = true := by simp; omega
      have hd2 : decide ((k : Int) < (s.size : Int)) = true := by simp; omega
      have HX := Lib.hid (ext_one s l HS.out k hl2)
      have hxs : (s.extract k (k + 1)).size ≤ 1 := by rw [HX.out]; exact Nat.le_refl _
      have hus2 : (u ++ s.extract k (k + 1)).size ≤ 2 * k + 2 := by rw [ByteArray.size_append]; omega
      have HT := Lib.hid (show l.take (k + 1) = l.take k ++ [l[k]] from List.take_succ_eq_append_getElem hl2)
      by_cases hc : l[k] = 39
      · have he : (((s[k]'hlt).toNat : Int) == 39) = true := by rw [HG.out k hlt hl2, hc]; decide
        have HC := Lib.hid hc
        clear hc
        go_wp2
        go_roundw
        case rel =>
          refine ⟨k + 1, _, by trivial, by omega, by go_num, rfl, by rw [ByteArray.size_append]; show _ + 1 ≤ _; omega, Lib.hid ?_⟩
          rw [HX.out, HU.out, HT.out, dbl_snoc, if_pos HC.out, HC.out, app_mk]
          show (ByteArray.mk _) ++ (ByteArray.mk [39].toArray) = _
          rw [app_mk]
          simp
        case measure => simp [intOf]; omega
      · have he : (((s[k]'hlt).toNat : Int) == 39) = false := by
          rw [HG.out k hlt hl2, Bool.eq_false_iff]
          intro e
          rw [beq_iff_eq] at e
          exact hc (UInt8.toNat_inj.1 (by show l[k].toNat = 39; omega))
        have HC := Lib.hid hc
        clear hc
        go_wp2
        go_roundw
        case rel =>
          refine ⟨k + 1, _, by trivial, by omega, by go_num, rfl, by omega, Lib.hid ?_⟩
          rw [HX.out, HU.out, HT.out, dbl_snoc, if_neg HC.out, app_mk]
          simp
        case measure => simp [intOf]; omega
    · have hd : decide (k < s.size) = false := by simp; omega
      have hd2 : decide ((k : Int) < (s.size : Int)) = false := by simp; omega
      go_wp2
      go_ret
      refine ⟨?_, rfl⟩
      have e : u ++ (⟨#[39]⟩ : ByteArray) = ⟨(quo l).toArray⟩ := by
        rw [HU.out, List.take_of_length_le (by have := HZ.out; omega)]
        show (ByteArray.mk _) ++ (ByteArray.mk [39].toArray) = _
        rw [app_mk]
        rfl
      exact congrArg (fun b => Ending.returned (.string b)) e

theorem hasSign_ (s : ByteArray) (l : List UInt8) (hs : s = ⟨l.toArray⟩) (hl : l.length ≤ 100000) (w : World) :
    Calls Try.prog 17 #[.string s] w fun e w' => e = .returned (.bool (l.contains 39)) ∧ w = w' := by
  have hz : s.size = l.length := by rw [hs]; exact size_mk l
  have hg : ∀ (i : Nat) (h : i < s.size) (h2 : i < l.length), s[i]'h = l[i] := by subst hs; exact get_mk l
  have HZ := Lib.hid hz
  have HG := Lib.hid hg
  have hsb : s.size ≤ 100000 := by omega
  clear hz hg hs
  go_enter Try.func17, Try.ntmps17
  go_wp2
  go_loopw [3] (fun i w' => ∃ (k : Nat), w' = w ∧ k ≤ s.size ∧ i = .int .i64 k ∧ Hid (∀ j (hj : j < l.length), j < k → l[j] ≠ 39)) (fun i _ => s.size - (intOf i).toNat)
  case atStart => exact ⟨0, rfl, Nat.zero_le _, rfl, Lib.hid (fun j hj h => absurd h (by omega))⟩
  case round =>
    obtain ⟨k, rfl, hk, rfl, HJ⟩ := hrel
    rcases Nat.lt_or_ge k s.size with hlt | hge
    · have hl2 : k < l.length := by rw [← HZ.out]; exact hlt
      have hd : decide (k < s.size) = true := by simp; omega
      have hd2 : decide ((k : Int) < (s.size : Int)) = true := by simp; omega
      by_cases hc : l[k] = 39
      · have he : (((s[k]'hlt).toNat : Int) == 39) = true := by rw [HG.out k hlt hl2, hc]; decide
        have HC := Lib.hid hc
        clear hc
        go_wp2
        go_ret
        refine ⟨ret_bool ?_, rfl⟩
        have : l.contains 39 = true := by rw [List.contains_iff_mem, ← HC.out]; exact List.getElem_mem hl2
        rw [this]
      · have he : (((s[k]'hlt).toNat : Int) == 39) = false := by
          rw [HG.out k hlt hl2, Bool.eq_false_iff]
          intro e
          rw [beq_iff_eq] at e
          exact hc (UInt8.toNat_inj.1 (by show l[k].toNat = 39; omega))
        have HC := Lib.hid hc
        clear hc
        go_wp2
        go_roundw
        case rel =>
          refine ⟨k + 1, by trivial, by omega, by go_num, Lib.hid (fun j hj h => ?_)⟩
          by_cases hjk : j = k
          · subst hjk; exact HC.out
          · exact HJ.out j hj (by omega)
        case measure => simp [intOf]; omega
    · have hd : decide (k < s.size) = false := by simp; omega
      have hd2 : decide ((k : Int) < (s.size : Int)) = false := by simp; omega
      go_wp2
      go_ret
      refine ⟨ret_bool ?_, rfl⟩
      have : l.contains 39 = false := by
        rw [Bool.eq_false_iff]
        intro h
        rw [List.contains_iff_mem] at h
        obtain ⟨j, hj, e⟩ := List.getElem_of_mem h
        exact HJ.out j hj (by have := HZ.out; omega) e
      rw [this]

theorem words_quo (l : List UInt8) (h : l.length ≤ 100) : wordsL (quo l) = if 60 < l.length then (5, []) else (0, [⟨3, 0, l⟩, endW]) := by
  have ht := textL_dbl l [] [] (fun c q e => by cases e)
  rw [List.nil_append] at ht
  have hl := dbl_len l
  have hlen : ¬ 600 < (quo l).length := by unfold quo; simp; omega
  have hst : stepL (quo l) = textSt (textL (dbl l ++ [39]) []) := by
    unfold quo
    rw [stepL, if_neg (by decide), if_neg (by decide), if_neg (by decide), if_pos rfl]
  unfold wordsL
  rw [if_neg hlen]
  rw [ht] at hst
  by_cases h6 : 60 < l.length
  · rw [if_pos h6] at hst ⊢
    rw [lexL_err [] (by unfold quo; simp) (e := 5) hst]
    rfl
  · rw [if_neg h6] at hst ⊢
    rw [lexL_put [] (w := ⟨3, 0, l⟩) (r := []) hst, lexL_nil]
    rfl
theorem textL_none : ∀ (l acc : List UInt8), l.contains 39 = false → textL l acc = (6, [], [])
  | [], acc, _ => textL_nil acc
  | c :: l, acc, h => by
    rw [List.contains_cons, Bool.or_eq_false_iff] at h
    have hc : c ≠ 39 := fun e => by rw [e] at h; exact absurd h.1 (by decide)
    rw [textL_other c l acc hc]
    exact textL_none l _ h.2
theorem words_open (l : List UInt8) (h : l.length ≤ 100) (hc : l.contains 39 = false) : wordsL (39 :: l) = (6, []) := by
  have hst : stepL (39 :: l) = .err 6 := by
    rw [stepL, if_neg (by decide), if_neg (by decide), if_neg (by decide), if_pos rfl, textL_none l [] hc]
    rfl
  unfold wordsL
  rw [if_neg (by simp; omega), lexL_err [] (by simp) hst]
  rfl

def WordsA (e : Int) (w : World) (r : Ending) (w' : World) : Prop := ∃ A n c, r = .returned (.tuple #[.slice A n c, .int .i64 e]) ∧ Below w.heap.size w w'
theorem wordsA (s : ByteArray) (w : World) (hl : s.size ≤ maxLen) : Calls Try.prog 11 #[.string s] w (WordsA (wordsL s.data.toList).1 w) := by
  refine (words_ s w hl).mono fun r w' hp => ?_
  obtain ⟨v, rfl, ho, hb⟩ := hp
  obtain ⟨A, c, rfl⟩ := own_slice ho
  exact ⟨A, _, c, rfl, hb⟩

set_option maxRecDepth 100000 in
set_option maxHeartbeats 4000000 in
theorem texts_walk (s : ByteArray) (n : Int) (w : World) (hs : s.size ≤ maxLen) :
    Calls Try.prog 6 #[.string s, .int .i64 n] w fun e w' => e = .returned (.bool true) ∧ Below w.heap.size w w' := by
  by_cases h100 : 100 < s.size
  · unfold maxLen at hs
    have hd : decide (100 < (s.size : Int)) = true := by simp; try omega
    go_enter Try.func6, Try.ntmps6
    go_wp2_with fail
    refine (known _).mono ?_
    rintro e w1 ⟨rfl, hb1⟩
    go_wp2
    go_ret
    exact ⟨rfl, hb1⟩
  have hd : decide (100 < (s.size : Int)) = false := by simp; omega
  obtain ⟨l, hl⟩ : ∃ l, l = s.data.toList := ⟨_, rfl⟩
  have hz : l.length = s.size := by rw [hl, Array.length_toList]; rfl
  have hsl : s = ⟨l.toArray⟩ := by rw [hl]
  have HS := Lib.hid hsl
  have HZ := Lib.hid hz
  have hsb : s.size ≤ 100 := by omega
  have HQ := Lib.hid (words_quo l (by omega))
  have hql : (ByteArray.mk (quo l).toArray).size ≤ 400 := by
    have := dbl_len l
    rw [size_mk]; unfold quo; simp; try omega
  have hol : (ByteArray.mk #[39] ++ s).size ≤ 101 := by rw [ByteArray.size_append]; show 1 + _ ≤ _; omega
  have HO : Hid ((ByteArray.mk #[39] ++ s).data.toList = 39 :: l) := Lib.hid (by rw [hsl]; simp)
  obtain ⟨q, hq⟩ : ∃ q, l.contains 39 = q := ⟨_, rfl⟩
  have HC := Lib.hid hq
  clear hl hz hsl hq h100 hs
  have hmx : (400 : Nat) ≤ maxLen := by decide
  by_cases h6 : 60 < s.size
  · have hd6 : decide (60 < (s.size : Int)) = true := by simp; omega
    have HQ5 := Lib.hid (show wordsL (quo l) = (5, []) by rw [HQ.out, if_pos (by have := HZ.out; omega)])
    cases q with
    | true =>
      obtain ⟨f, hf⟩ : ∃ f, (wordsL (39 :: l)).1 = f := ⟨_, rfl⟩
      have HF := Lib.hid hf
      clear hf
      go_enter Try.func6, Try.ntmps6
      go_wp2_with fail
      refine (known _).mono ?_
      rintro e w1 ⟨rfl, hb1⟩
      go_wp2_with fail
      refine (quoted_ s l HS.out (by have := HZ.out; omega) _).mono ?_
      rintro e w2 ⟨rfl, rfl⟩
      go_wp2_with fail
      refine (wordsE _ (quo l) 5 _ (by simp) HQ5.out (by omega)).mono ?_
      rintro r w3 ⟨A, c, rfl, hb3⟩
      go_wp2_with fail
      refine (wordsA _ _ (by omega)).mono ?_
      rintro r w4 ⟨A4, n4, c4, rfl, hb4⟩
      rw [HO.out, HF.out]
      go_wp2_with (go_at_call 17; refine (hasSign_ s l HS.out (by have := HZ.out; omega) _).mono ?_; rw [HC.out]; rintro e w5 ⟨rfl, rfl⟩)
      all_goals
        go_ret
        exact ⟨rfl, bch0 hb1 (bch0 hb3 hb4)⟩
    | false =>
      have HF := Lib.hid (words_open l (by have := HZ.out; omega) HC.out)
      go_enter Try.func6, Try.ntmps6
      go_wp2_with fail
      refine (known _).mono ?_
      rintro e w1 ⟨rfl, hb1⟩
      go_wp2_with fail
      refine (quoted_ s l HS.out (by have := HZ.out; omega) _).mono ?_
      rintro e w2 ⟨rfl, rfl⟩
      go_wp2_with fail
      refine (wordsE _ (quo l) 5 _ (by simp) HQ5.out (by omega)).mono ?_
      rintro r w3 ⟨A, c, rfl, hb3⟩
      go_wp2_with fail
      refine (wordsE _ (39 :: l) 6 _ HO.out HF.out (by omega)).mono ?_
      rintro r w4 ⟨A4, c4, rfl, hb4⟩
      go_wp2
      go_ret
      exact ⟨rfl, bch0 hb1 (bch0 hb3 hb4)⟩
  · have hd6 : decide (60 < (s.size : Int)) = false := by simp; omega
    have HQ0 := Lib.hid (show wordsL (quo l) = (0, [⟨3, 0, l⟩, endW]) by rw [HQ.out, if_neg (by have := HZ.out; omega)])
    have heq : (s.toList == s.toList) = true := beq_self_eq_true _
    cases q with
    | true =>
      obtain ⟨f, hf⟩ : ∃ f, (wordsL (39 :: l)).1 = f := ⟨_, rfl⟩
      have HF := Lib.hid hf
      clear hf
      go_enter Try.func6, Try.ntmps6
      go_wp2_with fail
      refine (known _).mono ?_
      rintro e w1 ⟨rfl, hb1⟩
      go_wp2_with fail
      refine (quoted_ s l HS.out (by have := HZ.out; omega) _).mono ?_
      rintro e w2 ⟨rfl, rfl⟩
      go_wp2_with fail
      refine (words0 _ (quo l) [⟨3, 0, l⟩, endW] 2 _ (by simp) HQ0.out rfl (by omega) (by omega)).mono ?_
      rintro r w3 ⟨g, c, rfl, hW, hb3⟩
      go_wp2_with fail
      refine (wordsA _ _ (by omega)).mono ?_
      rintro r w4 ⟨A4, n4, c4, rfl, hb4⟩
      rw [HO.out, HF.out]
      have q0 := (hW.ext hb4).at_ (i := 0) rfl
      simp only [← HS.out] at q0
      go_wp2_with (go_at_call 17; refine (hasSign_ s l HS.out (by have := HZ.out; omega) _).mono ?_; rw [HC.out]; rintro e w5 ⟨rfl, rfl⟩)
      all_goals
        go_ret
        exact ⟨rfl, bch0 hb1 (bch0 hb3 hb4)⟩
    | false =>
      have HF := Lib.hid (words_open l (by have := HZ.out; omega) HC.out)
      go_enter Try.func6, Try.ntmps6
      go_wp2_with fail
      refine (known _).mono ?_
      rintro e w1 ⟨rfl, hb1⟩
      go_wp2_with fail
      refine (quoted_ s l HS.out (by have := HZ.out; omega) _).mono ?_
      rintro e w2 ⟨rfl, rfl⟩
      go_wp2_with fail
      refine (words0 _ (quo l) [⟨3, 0, l⟩, endW] 2 _ (by simp) HQ0.out rfl (by omega) (by omega)).mono ?_
      rintro r w3 ⟨g, c, rfl, hW, hb3⟩
      go_wp2_with fail
      refine (wordsE _ (39 :: l) 6 _ HO.out HF.out (by omega)).mono ?_
      rintro r w4 ⟨A4, c4, rfl, hb4⟩
      have q0 := (hW.ext hb4).at_ (i := 0) rfl
      simp only [← HS.out] at q0
      go_wp2
      go_ret
      exact ⟨rfl, bch0 hb1 (bch0 hb3 hb4)⟩
end Go.Proofs.Ytfmpnanfjomcbaa.lx
