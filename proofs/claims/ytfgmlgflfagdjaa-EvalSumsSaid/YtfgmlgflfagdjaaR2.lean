/- Contracts of the document's lex: text, sign. -/
import Derived.Test.YtfgmlgflfagdjaaR1
import Derived.Test.YtfgmlgflfagdjaaTextsWalk
namespace Go.Proofs.Ytfgmlgflfagdjaa.lx
open Go.ChangeShapes Go.WideShapes Go.ChangeAt Go.RowKit Go.Proofs.Ytfgmlgflfagdjaa.lib
set_option linter.unusedVariables false

def TextP (l : List UInt8) (p : Int × List UInt8 × List UInt8) (w : World) (e : Ending) (w' : World) : Prop :=
  w = w' ∧ ((p.1 = 0 ∧ ∃ m : Nat, e = .returned (.tuple #[.string ⟨p.2.1.toArray⟩, .int .i64 m, .int .i64 0]) ∧ l.drop m = p.2.2 ∧ m ≤ l.length) ∨ (p.1 ≠ 0 ∧ e = .returned (.tuple #[.string ⟨#[]⟩, .int .i64 0, .int .i64 p.1])))

set_option maxRecDepth 100000 in
set_option maxHeartbeats 4000000 in
theorem rtext_ (s : ByteArray) (l : List UInt8) (hs : Str s l) (k : Nat) (hk : k ≤ l.length) (hl : l.length ≤ 100000) (w : World) :
    Calls Try.prog 61 #[.string s, .int .i64 k] w (TextP l (textL (l.drop k) []) w) := by
  have HS := Lib.hid hs
  have hz := hs.size
  have HZ := Lib.hid hz
  have hsb : s.size ≤ 100000 := by omega
  have hks : k ≤ s.size := by omega
  obtain ⟨p, hp⟩ : ∃ p, textL (l.drop k) [] = p := ⟨_, rfl⟩
  rw [hp]
  have HP := Lib.hid hp
  clear hs hz hp
  go_enter Try.func61, Try.ntmps61
  go_wp2_with fail
  go_loopw [1, 7] (fun i t w' => ∃ (m : Nat) (u : ByteArray) (acc : List UInt8), w' = w ∧ m ≤ s.size ∧ i = .int .i64 m ∧ t = .string u ∧ u.size ≤ m ∧ Hid (u = ⟨acc.toArray⟩ ∧ textL (l.drop m) acc = p)) (fun i _ _ => s.size - (intOf i).toNat)
  case atStart => exact ⟨k, ⟨#[]⟩, [], rfl, hks, rfl, rfl, Nat.zero_le _, Lib.hid ⟨rfl, HP.out⟩⟩
  case round =>
    obtain ⟨m, u, acc, rfl, hms, rfl, rfl, hus, HJ⟩ := hrel
    have HUL : Hid (u.size = acc.length) := Lib.hid (by rw [HJ.out.1]; exact size_mk acc)
    rcases Nat.lt_or_ge m s.size with hlt | hge
    · have hd : decide (m < s.size) = true := by simp; omega
      have hd2 : decide ((m : Int) < (s.size : Int)) = true := by simp; omega
      have hl2 : m < l.length := by rw [← HZ.out]; exact hlt
      have hg := HS.out.get m hlt hl2
      have HX := Lib.hid (ext_one s l HS.out.eq m hl2)
      have hxs : (s.extract m (m + 1)).size ≤ 1 := by rw [HX.out]; exact Nat.le_refl _
      have hus2 : (u ++ s.extract m (m + 1)).size ≤ m + 1 := by rw [ByteArray.size_append]; omega
      by_cases hc : l[m] = 39
      · have hne : (((s[m]'hlt).toNat : Int) != 39) = false := by rw [hg, hc]; decide
        have HDR := Lib.hid (show l.drop m = 39 :: l.drop (m + 1) by rw [List.drop_eq_getElem_cons hl2, hc])
        clear hg hc
        by_cases h2 : ∃ hlt2 : m + 1 < s.size, (s[m + 1]'hlt2) = 39
        · obtain ⟨hlt2, hc2⟩ := h2
          have hd3 : decide ((m : Int) + 1 < (s.size : Int)) = true := by simp; omega
          have hne2 : (((s[m + 1]'hlt2).toNat : Int) == 39) = true := by rw [hc2]; decide
          have hl3 : m + 1 < l.length := by rw [← HZ.out]; exact hlt2
          have HT2 := Lib.hid (show textL (l.drop (m + 2)) (acc ++ [39]) = p by
            rw [← HJ.out.2, HDR.out, List.drop_eq_getElem_cons hl3, ← HS.out.get (m + 1) hlt2 hl3, hc2, textL_twice])
          clear hc2
          go_wp2_with fail
          go_roundw
          case rel =>
            refine ⟨m + 2, _, acc ++ [39], by trivial, by omega, by go_num, rfl, by rw [ByteArray.size_append]; show _ + 1 ≤ _; omega, Lib.hid ⟨?_, HT2.out⟩⟩
            rw [HJ.out.1]
            show (ByteArray.mk _) ++ (ByteArray.mk [39].toArray) = _
            rw [app_mk]
          case measure => simp [intOf]; omega
        · have hn39 : ∀ d q, l.drop (m + 1) = d :: q → d ≠ 39 := fun d q e ed => by
            have hl3 : m + 1 < l.length := by
              rcases Nat.lt_or_ge (m + 1) l.length with h | h
              · exact h
              · rw [List.drop_of_length_le h] at e; cases e
            refine h2 ⟨by rw [HZ.out]; exact hl3, ?_⟩
            rw [HS.out.get (m + 1) (by rw [HZ.out]; exact hl3) hl3]
            rw [List.drop_eq_getElem_cons hl3] at e
            injection e with e _
            rw [e, ed]
          have hfin := textL_end (l.drop (m + 1)) acc hn39
          rw [← HDR.out, HJ.out.2] at hfin
          have HF := Lib.hid hfin
          clear hfin hn39
          have hgd : (decide ((m : Int) + 1 < (s.size : Int)) = false) ∨ ∃ hlt2 : m + 1 < s.size, decide ((m : Int) + 1 < (s.size : Int)) = true ∧ (((s[m + 1]'hlt2).toNat : Int) == 39) = false := by
            rcases Nat.lt_or_ge (m + 1) s.size with h | h
            · refine .inr ⟨h, by simp; omega, ?_⟩
              rw [Bool.eq_false_iff]
              intro e
              rw [beq_iff_eq] at e
              exact h2 ⟨h, UInt8.toNat_inj.1 (by show (s[m + 1]'h).toNat = 39; omega)⟩
            · exact .inl (by simp; omega)
          clear h2
          by_cases h60 : 60 < u.size
          · have hd60 : decide (60 < (u.size : Int)) = true := by simp; omega
            rcases hgd with hg1 | ⟨hlt2, hg1, hg2⟩
            all_goals
              go_wp2_with fail
              go_ret3
              rw [HF.out, if_pos (by rw [← HUL.out]; exact h60)]
              exact ⟨rfl, .inr ⟨by decide, rfl⟩⟩
          · have hd60 : decide (60 < (u.size : Int)) = false := by simp; omega
            rcases hgd with hg1 | ⟨hlt2, hg1, hg2⟩
            all_goals
              go_wp2_with fail
              go_ret3
              rw [HF.out, if_neg (by rw [← HUL.out]; exact h60)]
              exact ⟨rfl, .inl ⟨rfl, m + 1, by rw [HJ.out.1]; rfl, rfl, by omega⟩⟩
      · have hne : (((s[m]'hlt).toNat : Int) != 39) = true := by
          rw [hg, bne_iff_ne]
          intro e
          exact hc (UInt8.toNat_inj.1 (by show l[m].toNat = 39; omega))
        have HT2 := Lib.hid (show textL (l.drop (m + 1)) (acc ++ [l[m]]) = p by
          rw [← HJ.out.2, List.drop_eq_getElem_cons hl2, textL_other _ _ _ hc])
        clear hg hc
        go_wp2_with fail
        go_roundw
        case rel =>
          refine ⟨m + 1, _, acc ++ [l[m]], by trivial, by omega, by go_num, rfl, hus2, Lib.hid ⟨?_, HT2.out⟩⟩
          rw [HJ.out.1, HX.out, app_mk]
        case measure => simp [intOf]; omega
    · have hd : decide (m < s.size) = false := by simp; omega
      have hd2 : decide ((m : Int) < (s.size : Int)) = false := by simp; omega
      go_wp2_with fail
      go_ret3
      have e : p = (6, [], []) := by rw [← HJ.out.2, List.drop_of_length_le (by have := HZ.out; omega), textL_nil]
      rw [e]
      exact ⟨rfl, .inr ⟨by decide, rfl⟩⟩

/-- the sign that a text begins with; none: nothing -/
def sgnL (l : List UInt8) : List UInt8 := if twoB l = true then l.take 2 else if signB (l.headD 0) = true then l.take 1 else []

theorem sg_of (X : ByteArray) (c : UInt8) (h : X.toList = [c]) : signB c = (X.toList == [40] || X.toList == [41] || X.toList == [44] || X.toList == [46] || X.toList == [42] || X.toList == [61] || X.toList == [60] || X.toList == [62] || X.toList == [43] || X.toList == [45]) := by
  have e : ∀ d : UInt8, ([c] == [d]) = (c == d) := by
    intro d
    show (c == d && true) = _
    rw [Bool.and_true]
  rw [h]
  unfold signB
  simp only [List.contains_cons, List.contains_nil, Bool.or_false, e, Bool.or_assoc]
theorem ext_range {s : ByteArray} {l : List UInt8} (hs : Str s l) (k m : Nat) (hk : k ≤ m) (hm : m ≤ l.length) : s.extract k m = ⟨((l.drop k).take (m - k)).toArray⟩ := by
  obtain ⟨rfl⟩ := hs
  apply ByteArray.ext
  apply Array.ext'
  rw [ByteArray.data_extract, Array.toList_extract]
  try simp only [List.extract_eq_drop_take', List.toList_toArray]
  try rfl
structure SgF (r : List UInt8) (sg two : Bool) : Prop where
  f1 : sg = true → two = false → sgnL r = r.take 1
  f0 : sg = false → two = false → sgnL r = []
  f2 : two = true → sgnL r = r.take 2
def SgP (r : List UInt8) (w : World) (e : Ending) (w' : World) : Prop := w = w' ∧ e = .returned (.string ⟨r.toArray⟩)

set_option maxRecDepth 100000 in
set_option maxHeartbeats 4000000 in
theorem rsign_ (s : ByteArray) (l : List UInt8) (hs : Str s l) (k : Nat) (hk : k < l.length) (hl : l.length ≤ 100000) (w : World) :
    Calls Try.prog 62 #[.string s, .int .i64 k] w (SgP (sgnL (l.drop k)) w) := by
  have HS := Lib.hid hs
  have hz := hs.size
  have HZ := Lib.hid hz
  have hsb : s.size ≤ 100000 := by omega
  have hks : k < s.size := by omega
  have hd : l.drop k = l[k] :: l.drop (k + 1) := List.drop_eq_getElem_cons hk
  have hX1 : (s.extract k (k + 1)).toList = [l[k]] := by rw [ByteArray.toList_eq, ext_one s l hs.eq k hk]
  have E1 : Hid (s.extract k (k + 1) = ⟨((l.drop k).take 1).toArray⟩) := Lib.hid (by rw [ext_one s l hs.eq k hk, hd]; rfl)
  have SG := Lib.hid (sg_of (s.extract k (k + 1)) l[k] hX1)
  have HC : Hid ((l.drop k).headD 0 = l[k]) := Lib.hid (by rw [hd]; rfl)
  obtain ⟨two, htwo⟩ : ∃ two, twoB (l.drop k) = two := ⟨_, rfl⟩
  have HT := Lib.hid htwo
  have hd1 : decide ((k : Int) < (s.size : Int)) = true := by simp; omega
  have hcs : (two = false ∧ ¬ k + 1 < s.size) ∨ (k + 1 < s.size ∧ (k + 2 ≤ s.size) ∧ Hid (((s.extract k (k + 2)).toList == [60, 62] || (s.extract k (k + 2)).toList == [60, 61] || (s.extract k (k + 2)).toList == [62, 61]) = two ∧ s.extract k (k + 2) = ⟨((l.drop k).take 2).toArray⟩)) := by
    rcases Nat.lt_or_ge (k + 1) s.size with h | h
    · refine .inr ⟨h, by omega, Lib.hid ?_⟩
      have e := ext_range hs k (k + 2) (by omega) (by omega)
      have e2 : k + 2 - k = 2 := by omega
      rw [e2] at e
      refine ⟨?_, e⟩
      have hl3 : k + 1 < l.length := by omega
      rw [e, ByteArray.toList_eq, ← htwo, hd, List.drop_eq_getElem_cons hl3]
      show (([l[k], l[k + 1]] == [60, 62]) || ([l[k], l[k + 1]] == [60, 61]) || ([l[k], l[k + 1]] == [62, 61])) = _
      unfold twoB
      simp
    · refine .inl ⟨?_, by omega⟩
      rw [← htwo, hd, List.drop_of_length_le (by omega)]
      rfl
  clear hs hz hd hX1 htwo
  have fin1 : signB l[k] = true → two = false → sgnL (l.drop k) = (l.drop k).take 1 := fun h1 h2 => by
    unfold sgnL
    rw [HT.out, h2, if_neg (by decide), HC.out, if_pos h1]
  have fin0 : signB l[k] = false → two = false → sgnL (l.drop k) = [] := fun h1 h2 => by
    unfold sgnL
    rw [HT.out, h2, if_neg (by decide), HC.out, if_neg (by rw [h1]; decide)]
  have fin2 : two = true → sgnL (l.drop k) = (l.drop k).take 2 := fun h2 => by
    unfold sgnL
    rw [HT.out, h2, if_pos rfl]
  obtain ⟨sg, hsg⟩ : ∃ sg, signB l[k] = sg := ⟨_, rfl⟩
  have FF : SgF (l.drop k) sg two := ⟨fun h1 h2 => fin1 (hsg.trans h1) h2, fun h1 h2 => fin0 (hsg.trans h1) h2, fin2⟩
  clear fin1 fin0 fin2 HT HC
  have G := Lib.hid hsg
  clear hsg
  have HSG : Hid (sg = ((s.extract k (k + 1)).toList == [40] || (s.extract k (k + 1)).toList == [41] || (s.extract k (k + 1)).toList == [44] || (s.extract k (k + 1)).toList == [46] || (s.extract k (k + 1)).toList == [42] || (s.extract k (k + 1)).toList == [61] || (s.extract k (k + 1)).toList == [60] || (s.extract k (k + 1)).toList == [62] || (s.extract k (k + 1)).toList == [43] || (s.extract k (k + 1)).toList == [45])) := Lib.hid (by rw [← G.out]; exact SG.out)
  clear SG G
  rcases hcs with ⟨rfl, h2⟩ | ⟨h2, h3, H4⟩
  · have hd2 : decide ((k : Int) + 1 < (s.size : Int)) = false := by simp; omega
    go_enter Try.func62, Try.ntmps62
    go_wp2
    all_goals
      go_ret
      have hS := HSG.out
      simp only [*, Bool.true_or, Bool.or_true, Bool.or_false] at hS
      subst hS
      refine ⟨rfl, congrArg (fun b => Ending.returned (.string b)) ?_⟩
      first
        | exact absurd (‹((s.extract k (k + 1)).toList == [40]) = true›.symm.trans ‹((s.extract k (k + 1)).toList == [40]) = false›) (by decide)
        | exact absurd (‹((s.extract k (k + 1)).toList == [41]) = true›.symm.trans ‹((s.extract k (k + 1)).toList == [41]) = false›) (by decide)
        | exact absurd (‹((s.extract k (k + 1)).toList == [44]) = true›.symm.trans ‹((s.extract k (k + 1)).toList == [44]) = false›) (by decide)
        | exact absurd (‹((s.extract k (k + 1)).toList == [46]) = true›.symm.trans ‹((s.extract k (k + 1)).toList == [46]) = false›) (by decide)
        | exact absurd (‹((s.extract k (k + 1)).toList == [42]) = true›.symm.trans ‹((s.extract k (k + 1)).toList == [42]) = false›) (by decide)
        | exact absurd (‹((s.extract k (k + 1)).toList == [61]) = true›.symm.trans ‹((s.extract k (k + 1)).toList == [61]) = false›) (by decide)
        | exact absurd (‹((s.extract k (k + 1)).toList == [60]) = true›.symm.trans ‹((s.extract k (k + 1)).toList == [60]) = false›) (by decide)
        | exact absurd (‹((s.extract k (k + 1)).toList == [62]) = true›.symm.trans ‹((s.extract k (k + 1)).toList == [62]) = false›) (by decide)
        | exact absurd (‹((s.extract k (k + 1)).toList == [43]) = true›.symm.trans ‹((s.extract k (k + 1)).toList == [43]) = false›) (by decide)
        | exact absurd (‹((s.extract k (k + 1)).toList == [45]) = true›.symm.trans ‹((s.extract k (k + 1)).toList == [45]) = false›) (by decide)
        | (rw [FF.f1 rfl rfl, ← E1.out]; done)
        | (rw [FF.f0 rfl rfl]; done)
  · have hd2 : decide ((k : Int) + 1 < (s.size : Int)) = true := by simp; omega
    obtain ⟨b1, hb1'⟩ : ∃ b1, ((s.extract k (k + 2)).toList == [60, 62]) = b1 := ⟨_, rfl⟩
    obtain ⟨b2, hb2'⟩ : ∃ b2, ((s.extract k (k + 2)).toList == [60, 61]) = b2 := ⟨_, rfl⟩
    obtain ⟨b3, hb3'⟩ : ∃ b3, ((s.extract k (k + 2)).toList == [62, 61]) = b3 := ⟨_, rfl⟩
    have hB := H4.out.1
    replace H4 := Lib.hid H4.out.2
    rw [hb1', hb2', hb3'] at hB
    cases two with
    | true =>
      have hcs : b1 = true ∨ (b1 = false ∧ b2 = true) ∨ (b1 = false ∧ b2 = false ∧ b3 = true) := by
        clear hb1' hb2' hb3'
        cases b1 <;> cases b2 <;> cases b3 <;> simp at hB ⊢
      clear hB
      rcases hcs with rfl | ⟨rfl, rfl⟩ | ⟨rfl, rfl, rfl⟩
      all_goals
        go_enter Try.func62, Try.ntmps62
        go_wp2
        go_ret
        exact ⟨rfl, congrArg (fun b => Ending.returned (.string b)) (by rw [FF.f2 rfl, ← H4.out])⟩
    | false =>
      obtain ⟨⟨rfl, rfl⟩, rfl⟩ : (b1 = false ∧ b2 = false) ∧ b3 = false := by simpa using hB
      clear hB
      go_enter Try.func62, Try.ntmps62
      go_wp2
      all_goals
        go_ret
        have hS := HSG.out
        simp only [*, Bool.true_or, Bool.or_true, Bool.or_false] at hS
        subst hS
        refine ⟨rfl, congrArg (fun b => Ending.returned (.string b)) ?_⟩
        first
          | exact absurd (‹((s.extract k (k + 1)).toList == [40]) = true›.symm.trans ‹((s.extract k (k + 1)).toList == [40]) = false›) (by decide)
          | exact absurd (‹((s.extract k (k + 1)).toList == [41]) = true›.symm.trans ‹((s.extract k (k + 1)).toList == [41]) = false›) (by decide)
          | exact absurd (‹((s.extract k (k + 1)).toList == [44]) = true›.symm.trans ‹((s.extract k (k + 1)).toList == [44]) = false›) (by decide)
          | exact absurd (‹((s.extract k (k + 1)).toList == [46]) = true›.symm.trans ‹((s.extract k (k + 1)).toList == [46]) = false›) (by decide)
          | exact absurd (‹((s.extract k (k + 1)).toList == [42]) = true›.symm.trans ‹((s.extract k (k + 1)).toList == [42]) = false›) (by decide)
          | exact absurd (‹((s.extract k (k + 1)).toList == [61]) = true›.symm.trans ‹((s.extract k (k + 1)).toList == [61]) = false›) (by decide)
          | exact absurd (‹((s.extract k (k + 1)).toList == [60]) = true›.symm.trans ‹((s.extract k (k + 1)).toList == [60]) = false›) (by decide)
          | exact absurd (‹((s.extract k (k + 1)).toList == [62]) = true›.symm.trans ‹((s.extract k (k + 1)).toList == [62]) = false›) (by decide)
          | exact absurd (‹((s.extract k (k + 1)).toList == [43]) = true›.symm.trans ‹((s.extract k (k + 1)).toList == [43]) = false›) (by decide)
          | exact absurd (‹((s.extract k (k + 1)).toList == [45]) = true›.symm.trans ‹((s.extract k (k + 1)).toList == [45]) = false›) (by decide)
          | (rw [FF.f1 rfl rfl, ← E1.out]; done)
          | (rw [FF.f0 rfl rfl]; done)
end Go.Proofs.Ytfgmlgflfagdjaa.lx
