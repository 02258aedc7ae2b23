/- Contract of the document's lex: next. -/
import Derived.Test.YtfgmlgflfagdjaaR2
namespace Go.Proofs.Ytfgmlgflfagdjaa.lx
open Go.ChangeShapes Go.WideShapes Go.ChangeAt Go.RowKit Go.Proofs.Ytfgmlgflfagdjaa.lib
set_option linter.unusedVariables false

def NextP (l : List UInt8) (w : World) (e : Ending) (w' : World) : St → Prop
  | .put x r => Below w.heap.size w w' ∧ ∃ m : Nat, e = .returned (.tuple #[.agg #[.int .i64 x.k, .int .i64 x.n, .string ⟨x.s.toArray⟩], .int .i64 m, .int .i64 0]) ∧ l.drop m = r ∧ m ≤ l.length
  | .err er => Below w.heap.size w w' ∧ ∃ (a b c : Int) (t : ByteArray), e = .returned (.tuple #[.agg #[.int .i64 a, .int .i64 b, .string t], .int .i64 c, .int .i64 er])
  | .skip _ => False
def NextQ (l : List UInt8) (st : St) (w : World) (e : Ending) (w' : World) : Prop := NextP l w e w' st

set_option maxRecDepth 100000 in
set_option maxHeartbeats 8000000 in
theorem next_ (s : ByteArray) (l : List UInt8) (hs : Str s l) (k : Nat) (hk : k < l.length) (hl : l.length ≤ 100000) (hnb : blankB l[k] = false) (w : World) :
    Calls Try.prog 45 #[.string s, .int .i64 k] w (NextQ l (stepL (l.drop k)) w) := by
  have hz := hs.size
  have hsb : s.size ≤ 100000 := by omega
  have hks : k < s.size := by omega
  have hg := hs.get k hks hk
  have hd : l.drop k = l[k] :: l.drop (k + 1) := List.drop_eq_getElem_cons hk
  have HS := Lib.hid hs
  have HZ := Lib.hid hz
  have HD := Lib.hid hd
  have HN : Hid (stepL (l.drop k) = if letB l[k] = true then .put ⟨1, 0, (l.drop k).takeWhile nameB⟩ ((l.drop k).dropWhile nameB) else
      if digB l[k] = true then numSt (numL ((l.drop k).takeWhile digB) 0) ((l.drop k).dropWhile digB) else if l[k] = 39 then textSt (textL (l.drop (k + 1)) []) else
      if twoB (l.drop k) = true then .put ⟨4, 0, (l.drop k).take 2⟩ ((l.drop k).drop 2) else if signB l[k] = true then .put ⟨4, 0, [l[k]]⟩ (l.drop (k + 1)) else .err 6) := Lib.hid (by
    rw [hd, stepL, if_neg (by rw [hnb]; decide)])
  have hd1 : decide ((k : Int) < (s.size : Int)) = true := by simp; omega
  have hd0 : decide (k < s.size) = true := by simp; omega
  clear hs hz hd
  obtain ⟨c, hc⟩ : ∃ c, s[k]'hks = c := ⟨_, rfl⟩
  have HC : Hid (l[k] = c) := Lib.hid (by rw [← hg, hc])
  clear hg
  cases hp : letB c with
  | true =>
    have e : stepL (l.drop k) = .put ⟨1, 0, (l.drop k).takeWhile nameB⟩ ((l.drop k).dropWhile nameB) := by rw [HN.out, HC.out, if_pos hp]
    rw [e]
    have HP := Lib.hid hp
    have hb := tw_bound nameB (l.drop k)
    rw [List.length_drop] at hb
    obtain ⟨m, hm⟩ : ∃ m, m = k + ((l.drop k).takeWhile nameB).length := ⟨_, rfl⟩
    have hmk : k ≤ m := by omega
    have hml : m ≤ s.size := by have := HZ.out; omega
    have HX := Lib.hid (show s.extract k m = ⟨((l.drop k).takeWhile nameB).toArray⟩ by
      rw [ext_range HS.out k m hmk (by have := HZ.out; omega), show m - k = ((l.drop k).takeWhile nameB).length by omega, (tw_take nameB (l.drop k)).1])
    have HR := Lib.hid (show l.drop m = (l.drop k).dropWhile nameB by rw [hm, ← List.drop_drop, (tw_take nameB (l.drop k)).2])
    have HNM := Lib.hid (show ∀ W : World, Calls Try.prog 58 #[.string s, .int .i64 k] W fun e w' => e = .returned (.int .i64 m) ∧ W = w' by
      intro W; rw [hm]; exact name_ s l HS.out k (by omega) hl W)
    clear hm hb e hp
    go_enter Try.func45, Try.ntmps45
    go_wp2_with (first | (go_at_call 57; refine (letter_ c true HP.out _).mono ?_; rintro e w' ⟨rfl, rfl⟩) | (go_at_call 58; refine (HNM.out _).mono ?_; rintro e w' ⟨rfl, rfl⟩))
    refine bodyPost_ret (v := .tuple #[.agg #[.int .i64 1, .int .i64 0, .string (s.extract k m)], .int .i64 m, .int .i64 0]) (by simp [results, Try.results45, go_sem]) rfl ?_
    exact ⟨(Below.refl _ _).alloc (Nat.le_refl _) _, m, by rw [HX.out], HR.out, by have := HZ.out; omega⟩
  | false =>
    have HP := Lib.hid hp
    cases hq : digB c with
    | true =>
      have e : stepL (l.drop k) = numSt (numL ((l.drop k).takeWhile digB) 0) ((l.drop k).dropWhile digB) := by rw [HN.out, HC.out, if_neg (by rw [hp]; decide), if_pos hq]
      rw [e]
      have HQ := Lib.hid hq
      have hb := tw_bound digB (l.drop k)
      rw [List.length_drop] at hb
      have HR := Lib.hid (show l.drop (k + ((l.drop k).takeWhile digB).length) = (l.drop k).dropWhile digB by rw [← List.drop_drop, (tw_take digB (l.drop k)).2])
      have HB := Lib.hid hb
      clear e hp hq hb
      go_enter Try.func45, Try.ntmps45
      go_wp2_with (first | (go_at_call 57; refine (letter_ c false HP.out _).mono ?_; rintro e w' ⟨rfl, rfl⟩) | (go_at_call 59; refine (digit_ c true HQ.out _).mono ?_; rintro e w' ⟨rfl, rfl⟩))
      refine (num_ s l HS.out k (by omega) hl _).mono ?_
      rintro e w2 ⟨rfl, he⟩
      cases hx : numL ((l.drop k).takeWhile digB) 0 with
      | none =>
        rw [hx] at he
        subst he
        have HXX := Lib.hid (show numSt (numL ((l.drop k).takeWhile digB) 0) ((l.drop k).dropWhile digB) = .err 11 by rw [hx]; rfl)
        clear hx
        go_wp2
        refine bodyPost_ret (v := .tuple #[.agg #[.int .i64 2, .int .i64 0, .string ⟨#[]⟩], .int .i64 0, .int .i64 11]) (by simp [results, Try.results45, go_sem]) rfl ?_
        unfold NextQ
        rw [HXX.out]
        exact ⟨(Below.refl _ _).alloc (Nat.le_refl _) _, 2, 0, 0, _, rfl⟩
      | some x =>
        rw [hx] at he
        obtain ⟨m, hm⟩ : ∃ m, m = k + ((l.drop k).takeWhile digB).length := ⟨_, rfl⟩
        replace he : e = .returned (.tuple #[.int .i64 x, .int .i64 m, .int .i64 0]) := by rw [hm]; exact he
        subst he
        have HM := Lib.hid hm
        have HXX := Lib.hid (show numSt (numL ((l.drop k).takeWhile digB) 0) ((l.drop k).dropWhile digB) = .put ⟨2, x, []⟩ ((l.drop k).dropWhile digB) by rw [hx]; rfl)
        clear hx hm
        go_wp2
        refine bodyPost_ret (v := .tuple #[.agg #[.int .i64 2, .int .i64 x, .string ⟨#[]⟩], .int .i64 m, .int .i64 0]) (by simp [results, Try.results45, go_sem]) rfl ?_
        unfold NextQ
        rw [HXX.out]
        exact ⟨(Below.refl _ _).alloc (Nat.le_refl _) _, m, rfl, by rw [HM.out]; exact HR.out, by rw [HM.out]; have := HB.out; omega⟩
    | false =>
      have HQ := Lib.hid hq
      by_cases h39 : c = 39
      · have he : ((c.toNat : Int) == 39) = true := by rw [h39]; decide
        have e : stepL (l.drop k) = textSt (textL (l.drop (k + 1)) []) := by rw [HN.out, HC.out, if_neg (by rw [hp]; decide), if_neg (by rw [hq]; decide), if_pos h39]
        rw [e]
        clear e hp hq h39
        go_enter Try.func45, Try.ntmps45
        go_wp2_with (first | (go_at_call 57; refine (letter_ c false HP.out _).mono ?_; rintro e w' ⟨rfl, rfl⟩) | (go_at_call 59; refine (digit_ c false HQ.out _).mono ?_; rintro e w' ⟨rfl, rfl⟩))
        refine (rtext_ s l HS.out (k + 1) (by omega) hl _).mono ?_
        rintro e w2 ⟨rfl, ⟨h0, m, rfl, hr, hm⟩ | ⟨h0, rfl⟩⟩
        · have H0 := Lib.hid h0
          have HR := Lib.hid hr
          clear h0 hr
          go_wp2
          refine bodyPost_ret (v := .tuple #[.agg #[.int .i64 3, .int .i64 0, .string ⟨(textL (l.drop (k + 1)) []).2.1.toArray⟩], .int .i64 m, .int .i64 0]) (by simp [results, Try.results45, go_sem]) rfl ?_
          have e : textSt (textL (l.drop (k + 1)) []) = .put ⟨3, 0, (textL (l.drop (k + 1)) []).2.1⟩ (textL (l.drop (k + 1)) []).2.2 := by unfold textSt; rw [if_pos H0.out]
          rw [e]
          exact ⟨(Below.refl _ _).alloc (Nat.le_refl _) _, m, rfl, HR.out, hm⟩
        · have H0 := Lib.hid h0
          clear h0
          go_wp2
          refine bodyPost_ret (v := .tuple #[.agg #[.int .i64 3, .int .i64 0, .string ⟨#[]⟩], .int .i64 0, .int .i64 (textL (l.drop (k + 1)) []).1]) (by simp [results, Try.results45, go_sem]) rfl ?_
          have e : textSt (textL (l.drop (k + 1)) []) = .err (textL (l.drop (k + 1)) []).1 := by unfold textSt; rw [if_neg H0.out]
          rw [e]
          exact ⟨(Below.refl _ _).alloc (Nat.le_refl _) _, 3, 0, 0, _, rfl⟩
      · have he : ((c.toNat : Int) == 39) = false := by
          rw [Bool.eq_false_iff]
          intro e
          rw [beq_iff_eq] at e
          exact h39 (UInt8.toNat_inj.1 (by show c.toNat = 39; omega))
        have hsg : stepL (l.drop k) = if sgnL (l.drop k) = [] then .err 6 else .put ⟨4, 0, sgnL (l.drop k)⟩ (l.drop (k + (sgnL (l.drop k)).length)) := by
          rw [HN.out, HC.out, if_neg (by rw [hp]; decide), if_neg (by rw [hq]; decide), if_neg h39]
          unfold sgnL
          have hh : (l.drop k).headD 0 = c := by rw [HD.out, ← HC.out]; rfl
          by_cases ht : twoB (l.drop k) = true
          · rw [if_pos ht, if_pos ht]
            have hlen : 2 ≤ (l.drop k).length := by
              cases h : l.drop k with
              | nil => rw [h] at ht; cases ht
              | cons a r => cases r with
                | nil => rw [h] at ht; cases ht
                | cons b r => simp
            rw [if_neg (by intro e; have := congrArg List.length e; rw [List.length_take] at this; simp at this; omega), List.length_take, show min 2 (l.drop k).length = 2 by omega, ← List.drop_drop]
          · rw [if_neg ht, if_neg ht, hh]
            by_cases hsn : signB c = true
            · rw [if_pos hsn, if_pos hsn]
              have e1 : (l.drop k).take 1 = [c] := by rw [HD.out, ← HC.out]; rfl
              rw [e1, if_neg (by simp)]
              rfl
            · rw [if_neg hsn, if_neg hsn, if_pos rfl]
        have hlen : (sgnL (l.drop k)).length ≤ l.length - k := by
          unfold sgnL
          have e1 := List.length_take_le 2 (l.drop k)
          have e2 := List.length_take_le 1 (l.drop k)
          have e3 := List.length_take (i := 2) (l := l.drop k)
          have e4 := List.length_take (i := 1) (l := l.drop k)
          have e5 := List.length_drop (i := k) (l := l)
          split
          · omega
          · split
            · omega
            · simp
        rw [hsg]
        obtain ⟨X, hX⟩ : ∃ X, X = sgnL (l.drop k) := ⟨_, rfl⟩
        rw [← hX] at hlen ⊢
        have HX := Lib.hid hX
        have hzX : (ByteArray.mk X.toArray).size = X.length := size_mk X
        clear hsg hp hq hX h39
        by_cases hnil : X = []
        · rw [if_pos hnil]
          subst hnil
          clear hzX hlen
          go_enter Try.func45, Try.ntmps45
          go_wp2_with (first | (go_at_call 57; refine (letter_ c false HP.out _).mono ?_; rintro e w' ⟨rfl, rfl⟩) | (go_at_call 59; refine (digit_ c false HQ.out _).mono ?_; rintro e w' ⟨rfl, rfl⟩) | (go_at_call 62; refine (rsign_ s l HS.out k hk hl _).mono ?_; rw [← HX.out]; rintro e w' ⟨rfl, rfl⟩))
          refine bodyPost_ret (v := .tuple #[.agg #[.int .i64 0, .int .i64 0, .string ⟨#[]⟩], .int .i64 0, .int .i64 6]) (by simp [results, Try.results45, go_sem]) rfl ?_
          exact ⟨(Below.refl _ _).alloc (Nat.le_refl _) _, 0, 0, 0, _, rfl⟩
        · rw [if_neg hnil]
          have hem : ((ByteArray.mk X.toArray).toList == []) = false := by
            rw [ByteArray.toList_eq]
            cases X with
            | nil => exact absurd rfl hnil
            | cons a r => rfl
          obtain ⟨S, hS⟩ : ∃ S : ByteArray, S = ⟨X.toArray⟩ := ⟨_, rfl⟩
          rw [← hS] at hem hzX
          have HSS := Lib.hid hS
          have hSz : S.size ≤ l.length - k := by omega
          have HSZ := Lib.hid hzX
          have hem2 : S.toList.isEmpty = false := by
            cases h : S.toList with
            | nil => rw [h] at hem; cases hem
            | cons a r => rfl
          clear hS hnil hzX
          go_enter Try.func45, Try.ntmps45
          go_wp2_with (first | (go_at_call 57; refine (letter_ c false HP.out _).mono ?_; rintro e w' ⟨rfl, rfl⟩) | (go_at_call 59; refine (digit_ c false HQ.out _).mono ?_; rintro e w' ⟨rfl, rfl⟩))
          refine (rsign_ s l HS.out k hk hl _).mono ?_
          rw [← HX.out]
          rintro e w' ⟨rfl, rfl⟩
          rw [← HSS.out]
          go_wp2
          refine bodyPost_ret (v := .tuple #[.agg #[.int .i64 4, .int .i64 0, .string S], (.int .i64 ((k : Int) + (S.size : Int))), .int .i64 0]) (by simp [results, Try.results45, go_sem]) rfl ?_
          exact ⟨(Below.refl _ _).alloc (Nat.le_refl _) _, k + S.size, by rw [HSS.out]; rfl, by rw [HSZ.out], by omega⟩
end Go.Proofs.Ytfgmlgflfagdjaa.lx
