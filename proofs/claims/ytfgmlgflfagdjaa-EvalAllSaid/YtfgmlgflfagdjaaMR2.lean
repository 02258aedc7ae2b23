/- Contracts of the document's lex: text, sign. -/
import Derived.Test.YtfgmlgflfagdjaaR1
import Derived.Test.YtfgmlgflfagdjaaTextsWalk
namespace Go.Proofs.Ytfgmlgflfagdjaa.lx
open Go.ChangeShapes Go.WideShapes Go.ChangeAt Go.RowKit Go.Proofs.Ytfgmlgflfagdjaa.lib
set_option linter.unusedVariables false

def TextP (l : List UInt8) (p : Int × List UInt8 × List UInt8) (w : World) (e : Ending) (w' : World) : Prop :=
  w = w' ∧ ((p.1 = 0 ∧ ∃ m : Nat, e = .returned (.tuple #[.string ⟨p.2.1.toArray⟩, .int .i64 m, .int .i64 0]) ∧ l.drop m = p.2.2 ∧ m ≤ l.length) ∨ (p.1 ≠ 0 ∧ e = .returned (.tuple #[.string ⟨#[]⟩, .int .i64 0, .int .i64 p.1])))

set_option maxRecDepth 100000 in
set_option maxHeartbeats 4000000 in
theorem rtext_ (s : ByteArray) (l : List UInt8) (hs : Str s l) (k : Nat) (hk : k ≤ l.length) (hl : l.length ≤ 100000) (w : World) :
    Calls Try.prog 61 #[.string s, .int .i64 k] w (TextP l (textL (l.drop k) []) w) := by
  have HS := Lib.hid hs
  have hz := hs.size
  have HZ := Lib.hid hz
  have hsb : s.size ≤ 100000 := by omega
  have hks : k ≤ s.size := by omega
  obtain ⟨p, hp⟩ : ∃ p, textL (l.drop k) [] = p := ⟨_, rfl⟩
  rw [hp]
  have HP := Lib.hid hp
  clear hs hz hp
  go_enter Try.func61, Try.ntmps61
  go_wp2_with fail
  go_loopw [1, 7] (fun i t w' => ∃ (m : Nat) (u : ByteArray) (acc : List UInt8), w' = w ∧ m ≤ s.size ∧ i = .int .i64 m ∧ t = .string u ∧ u.size ≤ m ∧ Hid (u = ⟨acc.toArray⟩ ∧ textL (l.drop m) acc = p)) (fun i _ _ => s.size - (intOf i).toNat)
  case atStart => exact ⟨k, ⟨#[]⟩, [], rfl, hks, rfl, rfl, Nat.zero_le _, Lib.hid ⟨rfl, HP.out⟩⟩
  case round =>
    obtain ⟨m, u, acc, rfl, hms, rfl, rfl, hus, HJ⟩ := hrel
    have HUL : Hid (u.size = acc.length) := Lib.hid (by rw [HJ.out.1]; exact size_mk acc)
    rcases Nat.lt_or_ge m s.size with hlt | hge
    · have hd : decide (m < s.size) = true := by simp; omega
      have hd2 : decide ((m : Int) < (s.size : Int)) = true := by simp; omega
      have hl2 : m < l.length := by rw [← HZ.out]; exact hlt
      have hg := HS.out.get m hlt hl2
      have HX := Lib.hid (ext_one s l HS.out.eq m hl2)
      have hxs : (s.extract m (m + 1)).size ≤ 1 := by rw [HX.out]; exact Nat.le_refl _
      have hus2 : (u ++ s.extract m (m + 1)).size ≤ m + 1 := by rw [ByteArray.size_append]; omega
      by_cases hc : l[m] = 39
      · have hne : (((s[m]'hlt).toNat : Int) != 39) = false := by rw [hg, hc]; decide
        have HDR := Lib.hid (show l.drop m = 39 :: l.drop (m + 1) by rw [List.drop_eq_getElem_cons hl2, hc])
        clear hg hc
        by_cases h2 : ∃ hlt2 : m + 1 < s.size, (s[m + 1]'hlt2) = 39
        · obtain ⟨hlt2, hc2⟩ := h2
          have hd3 : decide ((m : Int) + 1 < (s.size : Int)) = true := by simp; omega
          have hne2 : (((s[m + 1]'hlt2).toNat : Int) == 39) = true := by rw [hc2]; decide
          have hl3 : m + 1 < l.length := by rw [← HZ.out]; exact hlt2
          have HT2 := Lib.hid (show textL (l.drop (m + 2)) (acc ++ [39]) = p by
            rw [← HJ.out.2, HDR.out, List.drop_eq_getElem_cons hl3, ← HS.out.get (m + 1) hlt2 hl3, hc2, textL_twice])
          clear hc2
          go_wp2_with fail
          go_roundw
          case rel =>
            refine ⟨m + 2, _, acc ++ [39], by trivial, by omega, by go_num, rfl, by rw [ByteArray.size_append]; show _ + 1 ≤ _; omega, Lib.hid ⟨?_, HT2.out⟩⟩
            rw [HJ.out.1]
            show (ByteArray.mk _) ++ (ByteArray.mk [39].toArray) = _
            rw [app_mk]
          case measure => simp [intOf]; omega
        · have hn39 : ∀ d q, l.drop (m + 1) = d :: q → d ≠ 39 := fun d q e ed => by
            have hl3 : m + 1 < l.length := by
              rcases Nat.lt_or_ge (m + 1) l.length with h | h
              · exact h
              · rw [List.drop_of_length_le h] at e; cases e
            refine h2 ⟨by rw [HZ.out]; exact hl3, ?_⟩
            rw [HS.out.get (m + 1) (by rw [HZ.out]; exact hl3) hl3]
            rw [List.drop_eq_getElem_cons hl3] at e
            injection e with e _
            rw [e, ed]
          have hfin := textL_end (l.drop (m + 1)) acc hn39
          rw [← HDR.out, HJ.out.2] at hfin
          have HF := Lib.hid hfin
          clear hfin hn39
          have hgd : (decide ((m : Int) + 1 < (s.size : Int)) = false) ∨ ∃ hlt2 : m + 1 < s.size, decide ((m : Int) + 1 < (s.size : Int)) = true ∧ (((s[m + 1]'hlt2).toNat : Int) == 39) = false := by
            rcases Nat.lt_or_ge (m + 1) s.size with h | h
            · refine .inr ⟨h, by simp; omega, ?_⟩
              rw [Bool.eq_false_iff]
              intro e
              rw [beq_iff_eq] at e
              exact h2 ⟨h, UInt8.toNat_inj.1 (by show (s[m + 1]'h).toNat = 39; omega)⟩
            · exact .inl (by simp; omega)
          clear h2
          by_cases h60 : 60 < u.size
          · have hd60 : decide (60 < (u.size : Int)) = true := by simp; omega
            rcases hgd with hg1 | ⟨hlt2, hg1, hg2⟩
            all_goals
              go_wp2_with fail
              go_ret3
              rw [HF.out, if_pos (by rw [← HUL.out]; exact h60)]
              exact ⟨rfl, .inr ⟨by decide, rfl⟩⟩
          · have hd60 : decide (60 < (u.size : Int)) = false := by simp; omega
            rcases hgd with hg1 | ⟨hlt2, hg1, hg2⟩
            all_goals
              go_wp2_with fail
              go_ret3
              rw [HF.out, if_neg (by rw [← HUL.out]; exact h60)]
              exact ⟨rfl, .inl ⟨rfl, m + 1, by rw [HJ.out.1]; rfl, rfl, by omega⟩⟩
      · have hne : (((s[m]'hlt).toNat : Int) != 39) = true := by
          rw [hg, bne_iff_ne]
          intro e
          exact hc (UInt8.toNat_inj.1 (by show l[m].toNat = 39; omega))
        have HT2 := Lib.hid (show textL (l.drop (m + 1)) (acc ++ [l[m]]) = p by
          rw [← HJ.out.2, List.drop_eq_getElem_cons hl2, textL_other _ _ _ hc])
        clear hg hc
        go_wp2_with fail
        go_roundw
        case rel =>
          refine ⟨m + 1, _, acc ++ [l[m]], by trivial, by omega, by go_num, rfl, hus2, Lib.hid ⟨?_, HT2.out⟩⟩
          rw [HJ.out.1, HX.out, app_mk]
        case measure => simp [intOf]; omega
    · have hd : decide (m < s.size) = false := by simp; omega
      have hd2 : decide ((m : Int) < (s.size : Int)) = false := by simp; omega
      go_wp2_with fail
      go_ret3
      have e : p = (6, [], []) := by rw [← HJ.out.2, List.drop_of_length_le (by have := HZ.out; omega), textL_nil]
      rw [e]
      exact ⟨rfl, .inr ⟨by decide, rfl⟩⟩

/-- the sign that a text begins with; none: nothing -/
def sgnL (l : List UInt8) : List UInt8 := if twoB l = true then l.take 2 else if signB (l.headD 0) = true then l.take 1 else []

theorem sg_of (X : ByteArray) (c : UInt8) (h : X.toList = [c]) : signB c = (X.toList == [40] || X.toList == [41] || X.toList == [44] || X.toList == [46] || X.toList == [42] || X.toList == [61] || X.toList == [60] || X.toList == [62] || X.toList == [43] || X.toList == [45]) := by
  have e : ∀ d : UInt8, ([c] == [d]) = (c == d) := by
    intro d
    show (c == d && true) = _
    rw [Bool.and_true]
  rw [h]
  unfold signB
  simp only [List.contains_cons, List.contains_nil, Bool.or_false, e, Bool.or_assoc]
theorem ext_range {s : ByteArray} {l : List UInt8} (hs : Str s l) (k m : Nat) (hk : k ≤ m) (hm : m ≤ l.length) : s.extract k m = ⟨((l.drop k).take (m - k)).toArray⟩ := by
  obtain ⟨rfl⟩ := hs
  apply ByteArray.ext
  apply Array.ext'
  rw [ByteArray.data_extract, Array.toList_extract]
  try simp only [List.extract_eq_drop_take', List.toList_toArray]
  try rfl
structure SgF (r : List UInt8) (sg two : Bool) : Prop where
  f1 : sg = true → two = false → sgnL r = r.take 1
  f0 : sg = false → two = false → sgnL r = []
  f2 : two = true → sgnL r = r.take 2
def SgP (r : List UInt8) (w : World) (e : Ending) (w' : World) : Prop := w = w' ∧ e = .returned (.string ⟨r.toArray⟩)

set_option maxRecDepth 100000 in
set_option maxHeartbeats 4000000 in
theorem rsign_ (s : ByteArray) (l : List UInt8) (hs : Str s l) (k : Nat) (hk : k < l.length) (hl : l.length ≤ 100000) (w : World) :
    Calls Try.prog 62 #[.string s, .int .i64 k] w (SgP (sgnL (l.drop k)) w) := by
  have HS := Lib.hid hs
  have hz := hs.size
  have HZ := Lib.hid hz
  have hsb : s.size ≤ 100000 := by omega
  have hks : k < s.size := by omega
  have hd : l.drop k = l[k] :: l.drop (k + 1) := List.drop_eq_getElem_cons hk
  have hX1 : (s.extract k (k + 1)).toList = [l[k]] := by rw [ByteArray.toList_eq, ext_one s l hs.eq k hk]
  have E1 : Hid (s.extract k (k + 1) = ⟨((l.drop k).take 1).toArray⟩) := Lib.hid (by rw [ext_one s l hs.eq k hk, hd]; rfl)
  have SG := Lib.hid (sg_of (s.extract k (k + 1)) l[k] hX1)
  have HC : Hid ((l.drop k).headD 0 = l[k]) := Lib.hid (by rw [hd]; rfl)
  obtain ⟨two, htwo⟩ : ∃ two, twoB (l.drop k) = two := ⟨_, rfl⟩
  have HT := Lib.hid htwo
  have hd1 : decide ((k : Int) < (s.size : Int)) = true := by simp; omega
  have hcs : (two = false ∧ ¬ k + 1 < s.size) ∨ (k + 1 < s.size ∧ (k + 2 ≤ s.size) ∧ Hid (((s.extract k (k + 2)).toList == [60, 62] || (s.extract k (k + 2)).toList == [60, 61] || (s.extract k (k + 2)).toList == [62, 61]) = two ∧ s.extract k (k + 2) = ⟨((l.drop k).take 2).toArray⟩)) := by
    rcases Nat.lt_or_ge (k + 1) s.size with h | h
    · refine .inr ⟨h, by omega, Lib.hid ?_⟩
      have e := ext_range hs k (k + 2) (by omega) (by omega)
      have e2 : k + 2 - k = 2 := by omega
      rw [e2] at e
      refine ⟨?_, e⟩
      have hl3 : k + 1 < l.length := by omega
      rw [e, ByteArray.toList_eq, ← htwo, hd, List.drop_eq_getElem_cons hl3]
      show (([l[k], l[k + 1]] == [60, 62]) || ([l[k], l[k + 1]] == [60, 61]) || ([l[k], l[k + 1]] == [62, 61])) = _
      unfold twoB
      simp
    · refine .inl ⟨?_, by omega⟩
      rw [← htwo, hd, List.drop_of_length_le (by omega)]
      rfl
  clear hs hz hd hX1 htwo
  have fin1 : signB l[k] = true → two = false → sgnL (l.drop k) = (l.drop k).take 1 := fun h1 h2 => by
    unfold sgnL
    rw [HT.out, h2, if_neg (by decide), HC.out, if_pos h1]
  have fin0 : signB l[k] = false → two = false → sgnL (l.drop k) = [] := fun h1 h2 => by
    unfold sgnL
    rw [HT.out, h2, if_neg (by decide), HC.out, if_neg (by rw [h1]; decide)]
  have fin2 : two = true → sgnL (l.drop k) = (l.drop k).take 2 := fun h2 => by
    unfold sgnL
    rw [HT.out, h2, if_pos rfl]
  obtain ⟨sg, hsg⟩ : ∃ sg, signB l[k] = sg := ⟨_, rfl⟩
  have FF : SgF (l.drop k) sg two := ⟨fun h1 h2 => fin1 (hsg.trans h1) h2, fun h1 h2 => fin0 (hsg.trans h1) h2, fin2⟩
  clear fin1 fin0 fin2 HT HC
  have G := Lib.hid hsg
  clear hsg
  have HSG : Hid (sg = ((s.extract k (k + 1)).toList == [40] || (s.extract k (k + 1)).toList == [41] || (s.extract k (k + 1)).toList == [44] || (s.extract k (k + 1)).toList == [46] || (s.extract k (k + 1)).toList == [42] || (s.extract k (k + 1)).toList == [61] || (s.extract k (k + 1)).toList == [60] || (s.extract k (k + 1)).toList == [62] || (s.extract k (k + 1)).toList == [43] || (s.extract k (k + 1)).toList == [45])) := Lib.hid (by rw [← G.out]; exact SG.out)
  clear SG G
  rcases hcs with ⟨rfl, h2⟩ | ⟨h2, h3, H4⟩
  · have hd2 : decide ((k : Int) + 1 < (s.size : Int)) = false := by simp; omega
    go_enter Try.func62, Try.ntmps62
    go_wp2
    all_goals
      go_ret
      have hS := HSG.out
      simp only [*, Bool.true_or, Bool.or_true, Bool.or_false] at hS
      subst hS
      refine ⟨rfl, congrArg (fun b => Ending.returned (.string b)) ?_⟩
      first
        | exact absurd (‹((s.extract k (k + 1)).toList == [40]) = true›.symm.trans ‹((s.extract k (k + 1)).toList == [40]) = false›) (by decide)
        | exact absurd (‹((s.extract k (k + 1)).toList == [41]) = true›.symm.trans ‹((s.extract k (k + 1)).toList == [41]) = false›) (by decide)
        | exact absurd (‹((s.extract k (k + 1)).toList == [44]) = true›.symm.trans ‹((s.extract k (k + 1)).toList == [44]) = false›) (by decide)
        | exact absurd (‹((s.extract k (k + 1)).toList == [46]) = true›.symm.trans ‹((s.extract k (k + 1)).toList == [46]) = false›) (by decide)
        | exact absurd (‹((s.extract k (k + 1)).toList == [42]) = true›.symm.trans ‹((s.extract k (k + 1)).toList == [42]) = false›) (by decide)
        | exact absurd (‹((s.extract k (k + 1)).toList == [61]) = true›.symm.trans ‹((s.extract k (k + 1)).toList == [61]) = false›) (by decide)
        | exact absurd (‹((s.extract k (k + 1)).toList == [60]) = true›.symm.trans ‹((s.extract k (k + 1)).toList == [60]) = false›) (by decide)
        | exact absurd (‹((s.extract k (k + 1)).toList == [62]) = true›.symm.trans ‹((s.extract k (k + 1)).toList == [62]) = false›) (by decide)
        | exact absurd (‹((s.extract k (k + 1)).toList == [43]) = true›.symm.trans ‹((s.extract k (k + 1)).toList == [43]) = false›) (by decide)
        | exact absurd (‹((s.extract k (k + 1)).toList == [45]) = true›.symm.trans ‹((s.extract k (k + 1)).toList == [45]) = false›) (by decide)
        | (rw [FF.f1 rfl rfl, ← E1.out]; done)
        | (rw [FF.f0 rfl rfl]; done)
  · have hd2 : decide ((k : Int) + 1 < (s.size : Int)) = true := by simp; omega
    obtain ⟨b1, hb1'⟩ : ∃ b1, ((s.extract k (k + 2)).toList == [60, 62]) = b1 := ⟨_, rfl⟩
    obtain ⟨b2, hb2'⟩ : ∃ b2, ((s.extract k (k + 2)).toList == [60, 61]) = b2 := ⟨_, rfl⟩
    obtain ⟨b3, hb3'⟩ : ∃ b3, ((s.extract k (k + 2)).toList == [62, 61]) = b3 := ⟨_, rfl⟩
    have hB := H4.out.1
    replace H4 := Lib.hid H4.out.2
    rw [hb1', hb2', hb3'] at hB
    cases two with
    | true =>
      have hcs : b1 = true ∨ (b1 = false ∧ b2 = true) ∨ (b1 = false ∧ b2 = false ∧ b3 = true) := by
        clear hb1' hb2' hb3'
        cases b1 <;> cases b2 <;> cases b3 <;> simp at hB ⊢
      clear hB
      rcases hcs with rfl | ⟨rfl, rfl⟩ | ⟨rfl, rfl, rfl⟩
      all_goals
        go_enter Try.func62, Try.ntmps62
        go_wp2
        go_ret
        exact ⟨rfl, congrArg (fun b => Ending.returned (.string b)) (by rw [FF.f2 rfl, ← H4.out])⟩
    | false =>
      obtain ⟨⟨rfl, rfl⟩, rfl⟩ : (b1 = false ∧ b2 = false) ∧ b3 = false := by simpa using hB
      clear hB
      go_enter Try.func62, Try.ntmps62
      go_wp2
      all_goals
        go_ret
        have hS := HSG.out
        simp only [*, Bool.true_or, Bool.or_true, Bool.or_false] at hS
        subst hS
        refine ⟨rfl, congrArg (fun b => Ending.returned (.string b)) ?_⟩
        first
          | exact absurd (‹((s.extract k (k + 1)).toList == [40]) = true›.symm.trans ‹((s.extract k (k + 1)).toList == [40]) = false›) (by decide)
          | exact absurd (‹((s.extract k (k + 1)).toList == [41]) = true›.symm.trans ‹((s.extract k (k + 1)).toList == [41]) = false›) (by decide)
          | exact absurd (‹((s.extract k (k + 1)).toList == [44]) = true›.symm.trans ‹((s.extract k (k + 1)).toList == [44]) = false›) (by decide)
          | exact absurd (‹((s.extract k (k + 1)).toList == [46]) = true›.symm.trans ‹((s.extract k (k + 1)).toList == [46]) = false›) (by decide)
          | exact absurd (‹((s.extract k (k + 1)).toList == [42]) = true›.symm.trans ‹((s.extract k (k + 1)).toList == [42]) = false›) (by decide)
          | exact absurd (‹((s.extract k (k + 1)).toList == [61]) = true›.symm.trans ‹((s.extract k (k + 1)).toList == [61]) = false›) (by decide)
          | exact absurd (‹((s.extract k (k + 1)).toList == [60]) = true›.symm.trans ‹((s.extract k (k + 1)).toList == [60]) = false›) (by decide)
          | exact absurd (‹((s.extract k (k + 1)).toList == [62]) = true›.symm.trans ‹((s.extract k (k + 1)).toList == [62]) = false›) (by decide)
          | exact absurd (‹((s.extract k (k + 1)).toList == [43]) = true›.symm.trans ‹((s.extract k (k + 1)).toList == [43]) = false›) (by decide)
          | exact absurd (‹((s.extract k (k + 1)).toList == [45]) = true›.symm.trans ‹((s.extract k (k + 1)).toList == [45]) = false›) (by decide)
          | (rw [FF.f1 rfl rfl, ← E1.out]; done)
          | (rw [FF.f0 rfl rfl]; done)
end Go.Proofs.Ytfgmlgflfagdjaa.lx

/- Contract of the document's lex: next. -/
namespace Go.Proofs.Ytfgmlgflfagdjaa.lx
open Go.ChangeShapes Go.WideShapes Go.ChangeAt Go.RowKit Go.Proofs.Ytfgmlgflfagdjaa.lib
set_option linter.unusedVariables false

def NextP (l : List UInt8) (w : World) (e : Ending) (w' : World) : St → Prop
  | .put x r => Below w.heap.size w w' ∧ ∃ m : Nat, e = .returned (.tuple #[.agg #[.int .i64 x.k, .int .i64 x.n, .string ⟨x.s.toArray⟩], .int .i64 m, .int .i64 0]) ∧ l.drop m = r ∧ m ≤ l.length
  | .err er => Below w.heap.size w w' ∧ ∃ (a b c : Int) (t : ByteArray), e = .returned (.tuple #[.agg #[.int .i64 a, .int .i64 b, .string t], .int .i64 c, .int .i64 er])
  | .skip _ => False
def NextQ (l : List UInt8) (st : St) (w : World) (e : Ending) (w' : World) : Prop := NextP l w e w' st

set_option maxRecDepth 100000 in
set_option maxHeartbeats 8000000 in
theorem next_ (s : ByteArray) (l : List UInt8) (hs : Str s l) (k : Nat) (hk : k < l.length) (hl : l.length ≤ 100000) (hnb : blankB l[k] = false) (w : World) :
    Calls Try.prog 45 #[.string s, .int .i64 k] w (NextQ l (stepL (l.drop k)) w) := by
  have hz := hs.size
  have hsb : s.size ≤ 100000 := by omega
  have hks : k < s.size := by omega
  have hg := hs.get k hks hk
  have hd : l.drop k = l[k] :: l.drop (k + 1) := List.drop_eq_getElem_cons hk
  have HS := Lib.hid hs
  have HZ := Lib.hid hz
  have HD := Lib.hid hd
  have HN : Hid (stepL (l.drop k) = if letB l[k] = true then .put ⟨1, 0, (l.drop k).takeWhile nameB⟩ ((l.drop k).dropWhile nameB) else
      if digB l[k] = true then numSt (numL ((l.drop k).takeWhile digB) 0) ((l.drop k).dropWhile digB) else if l[k] = 39 then textSt (textL (l.drop (k + 1)) []) else
      if twoB (l.drop k) = true then .put ⟨4, 0, (l.drop k).take 2⟩ ((l.drop k).drop 2) else if signB l[k] = true then .put ⟨4, 0, [l[k]]⟩ (l.drop (k + 1)) else .err 6) := Lib.hid (by
    rw [hd, stepL, if_neg (by rw [hnb]; decide)])
  have hd1 : decide ((k : Int) < (s.size : Int)) = true := by simp; omega
  have hd0 : decide (k < s.size) = true := by simp; omega
  clear hs hz hd
  obtain ⟨c, hc⟩ : ∃ c, s[k]'hks = c := ⟨_, rfl⟩
  have HC : Hid (l[k] = c) := Lib.hid (by rw [← hg, hc])
  clear hg
  cases hp : letB c with
  | true =>
    have e : stepL (l.drop k) = .put ⟨1, 0, (l.drop k).takeWhile nameB⟩ ((l.drop k).dropWhile nameB) := by rw [HN.out, HC.out, if_pos hp]
    rw [e]
    have HP := Lib.hid hp
    have hb := tw_bound nameB (l.drop k)
    rw [List.length_drop] at hb
    obtain ⟨m, hm⟩ : ∃ m, m = k + ((l.drop k).takeWhile nameB).length := ⟨_, rfl⟩
    have hmk : k ≤ m := by omega
    have hml : m ≤ s.size := by have := HZ.out; omega
    have HX := Lib.hid (show s.extract k m = ⟨((l.drop k).takeWhile nameB).toArray⟩ by
      rw [ext_range HS.out k m hmk (by have := HZ.out; omega), show m - k = ((l.drop k).takeWhile nameB).length by omega, (tw_take nameB (l.drop k)).1])
    have HR := Lib.hid (show l.drop m = (l.drop k).dropWhile nameB by rw [hm, ← List.drop_drop, (tw_take nameB (l.drop k)).2])
    have HNM := Lib.hid (show ∀ W : World, Calls Try.prog 58 #[.string s, .int .i64 k] W fun e w' => e = .returned (.int .i64 m) ∧ W = w' by
      intro W; rw [hm]; exact name_ s l HS.out k (by omega) hl W)
    clear hm hb e hp
    go_enter Try.func45, Try.ntmps45
    go_wp2_with (first | (go_at_call 57; refine (letter_ c true HP.out _).mono ?_; rintro e w' ⟨rfl, rfl⟩) | (go_at_call 58; refine (HNM.out _).mono ?_; rintro e w' ⟨rfl, rfl⟩))
    refine bodyPost_ret (v := .tuple #[.agg #[.int .i64 1, .int .i64 0, .string (s.extract k m)], .int .i64 m, .int .i64 0]) (by simp [results, Try.results45, go_sem]) rfl ?_
    exact ⟨(Below.refl _ _).alloc (Nat.le_refl _) _, m, by rw [HX.out], HR.out, by have := HZ.out; omega⟩
  | false =>
    have HP := Lib.hid hp
    cases hq : digB c with
    | true =>
      have e : stepL (l.drop k) = numSt (numL ((l.drop k).takeWhile digB) 0) ((l.drop k).dropWhile digB) := by rw [HN.out, HC.out, if_neg (by rw [hp]; decide), if_pos hq]
      rw [e]
      have HQ := Lib.hid hq
      have hb := tw_bound digB (l.drop k)
      rw [List.length_drop] at hb
      have HR := Lib.hid (show l.drop (k + ((l.drop k).takeWhile digB).length) = (l.drop k).dropWhile digB by rw [← List.drop_drop, (tw_take digB (l.drop k)).2])
      have HB := Lib.hid hb
      clear e hp hq hb
      go_enter Try.func45, Try.ntmps45
      go_wp2_with (first | (go_at_call 57; refine (letter_ c false HP.out _).mono ?_; rintro e w' ⟨rfl, rfl⟩) | (go_at_call 59; refine (digit_ c true HQ.out _).mono ?_; rintro e w' ⟨rfl, rfl⟩))
      refine (num_ s l HS.out k (by omega) hl _).mono ?_
      rintro e w2 ⟨rfl, he⟩
      cases hx : numL ((l.drop k).takeWhile digB) 0 with
      | none =>
        rw [hx] at he
        subst he
        have HXX := Lib.hid (show numSt (numL ((l.drop k).takeWhile digB) 0) ((l.drop k).dropWhile digB) = .err 11 by rw [hx]; rfl)
        clear hx
        go_wp2
        refine bodyPost_ret (v := .tuple #[.agg #[.int .i64 2, .int .i64 0, .string ⟨#[]⟩], .int .i64 0, .int .i64 11]) (by simp [results, Try.results45, go_sem]) rfl ?_
        unfold NextQ
        rw [HXX.out]
        exact ⟨(Below.refl _ _).alloc (Nat.le_refl _) _, 2, 0, 0, _, rfl⟩
      | some x =>
        rw [hx] at he
        obtain ⟨m, hm⟩ : ∃ m, m = k + ((l.drop k).takeWhile digB).length := ⟨_, rfl⟩
        replace he : e = .returned (.tuple #[.int .i64 x, .int .i64 m, .int .i64 0]) := by rw [hm]; exact he
        subst he
        have HM := Lib.hid hm
        have HXX := Lib.hid (show numSt (numL ((l.drop k).takeWhile digB) 0) ((l.drop k).dropWhile digB) = .put ⟨2, x, []⟩ ((l.drop k).dropWhile digB) by rw [hx]; rfl)
        clear hx hm
        go_wp2
        refine bodyPost_ret (v := .tuple #[.agg #[.int .i64 2, .int .i64 x, .string ⟨#[]⟩], .int .i64 m, .int .i64 0]) (by simp [results, Try.results45, go_sem]) rfl ?_
        unfold NextQ
        rw [HXX.out]
        exact ⟨(Below.refl _ _).alloc (Nat.le_refl _) _, m, rfl, by rw [HM.out]; exact HR.out, by rw [HM.out]; have := HB.out; omega⟩
    | false =>
      have HQ := Lib.hid hq
      by_cases h39 : c = 39
      · have he : ((c.toNat : Int) == 39) = true := by rw [h39]; decide
        have e : stepL (l.drop k) = textSt (textL (l.drop (k + 1)) []) := by rw [HN.out, HC.out, if_neg (by rw [hp]; decide), if_neg (by rw [hq]; decide), if_pos h39]
        rw [e]
        clear e hp hq h39
        go_enter Try.func45, Try.ntmps45
        go_wp2_with (first | (go_at_call 57; refine (letter_ c false HP.out _).mono ?_; rintro e w' ⟨rfl, rfl⟩) | (go_at_call 59; refine (digit_ c false HQ.out _).mono ?_; rintro e w' ⟨rfl, rfl⟩))
        refine (rtext_ s l HS.out (k + 1) (by omega) hl _).mono ?_
        rintro e w2 ⟨rfl, ⟨h0, m, rfl, hr, hm⟩ | ⟨h0, rfl⟩⟩
        · have H0 := Lib.hid h0
          have HR := Lib.hid hr
          clear h0 hr
          go_wp2
          refine bodyPost_ret (v := .tuple #[.agg #[.int .i64 3, .int .i64 0, .string ⟨(textL (l.drop (k + 1)) []).2.1.toArray⟩], .int .i64 m, .int .i64 0]) (by simp [results, Try.results45, go_sem]) rfl ?_
          have e : textSt (textL (l.drop (k + 1)) []) = .put ⟨3, 0, (textL (l.drop (k + 1)) []).2.1⟩ (textL (l.drop (k + 1)) []).2.2 := by unfold textSt; rw [if_pos H0.out]
          rw [e]
          exact ⟨(Below.refl _ _).alloc (Nat.le_refl _) _, m, rfl, HR.out, hm⟩
        · have H0 := Lib.hid h0
          clear h0
          go_wp2
          refine bodyPost_ret (v := .tuple #[.agg #[.int .i64 3, .int .i64 0, .string ⟨#[]⟩], .int .i64 0, .int .i64 (textL (l.drop (k + 1)) []).1]) (by simp [results, Try.results45, go_sem]) rfl ?_
          have e : textSt (textL (l.drop (k + 1)) []) = .err (textL (l.drop (k + 1)) []).1 := by unfold textSt; rw [if_neg H0.out]
          rw [e]
          exact ⟨(Below.refl _ _).alloc (Nat.le_refl _) _, 3, 0, 0, _, rfl⟩
      · have he : ((c.toNat : Int) == 39) = false := by
          rw [Bool.eq_false_iff]
          intro e
          rw [beq_iff_eq] at e
          exact h39 (UInt8.toNat_inj.1 (by show c.toNat = 39; omega))
        have hsg : stepL (l.drop k) = if sgnL (l.drop k) = [] then .err 6 else .put ⟨4, 0, sgnL (l.drop k)⟩ (l.drop (k + (sgnL (l.drop k)).length)) := by
          rw [HN.out, HC.out, if_neg (by rw [hp]; decide), if_neg (by rw [hq]; decide), if_neg h39]
          unfold sgnL
          have hh : (l.drop k).headD 0 = c := by rw [HD.out, ← HC.out]; rfl
          by_cases ht : twoB (l.drop k) = true
          · rw [if_pos ht, if_pos ht]
            have hlen : 2 ≤ (l.drop k).length := by
              cases h : l.drop k with
              | nil => rw [h] at ht; cases ht
              | cons a r => cases r with
                | nil => rw [h] at ht; cases ht
                | cons b r => simp
            rw [if_neg (by intro e; have := congrArg List.length e; rw [List.length_take] at this; simp at this; omega), List.length_take, show min 2 (l.drop k).length = 2 by omega, ← List.drop_drop]
          · rw [if_neg ht, if_neg ht, hh]
            by_cases hsn : signB c = true
            · rw [if_pos hsn, if_pos hsn]
              have e1 : (l.drop k).take 1 = [c] := by rw [HD.out, ← HC.out]; rfl
              rw [e1, if_neg (by simp)]
              rfl
            · rw [if_neg hsn, if_neg hsn, if_pos rfl]
        have hlen : (sgnL (l.drop k)).length ≤ l.length - k := by
          unfold sgnL
          have e1 := List.length_take_le 2 (l.drop k)
          have e2 := List.length_take_le 1 (l.drop k)
          have e3 := List.length_take (i := 2) (l := l.drop k)
          have e4 := List.length_take (i := 1) (l := l.drop k)
          have e5 := List.length_drop (i := k) (l := l)
          split
          · omega
          · split
            · omega
            · simp
        rw [hsg]
        obtain ⟨X, hX⟩ : ∃ X, X = sgnL (l.drop k) := ⟨_, rfl⟩
        rw [← hX] at hlen ⊢
        have HX := Lib.hid hX
        have hzX : (ByteArray.mk X.toArray).size = X.length := size_mk X
        clear hsg hp hq hX h39
        by_cases hnil : X = []
        · rw [if_pos hnil]
          subst hnil
          clear hzX hlen
          go_enter Try.func45, Try.ntmps45
          go_wp2_with (first | (go_at_call 57; refine (letter_ c false HP.out _).mono ?_; rintro e w' ⟨rfl, rfl⟩) | (go_at_call 59; refine (digit_ c false HQ.out _).mono ?_; rintro e w' ⟨rfl, rfl⟩) | (go_at_call 62; refine (rsign_ s l HS.out k hk hl _).mono ?_; rw [← HX.out]; rintro e w' ⟨rfl, rfl⟩))
          refine bodyPost_ret (v := .tuple #[.agg #[.int .i64 0, .int .i64 0, .string ⟨#[]⟩], .int .i64 0, .int .i64 6]) (by simp [results, Try.results45, go_sem]) rfl ?_
          exact ⟨(Below.refl _ _).alloc (Nat.le_refl _) _, 0, 0, 0, _, rfl⟩
        · rw [if_neg hnil]
          have hem : ((ByteArray.mk X.toArray).toList == []) = false := by
            rw [ByteArray.toList_eq]
            cases X with
            | nil => exact absurd rfl hnil
            | cons a r => rfl
          obtain ⟨S, hS⟩ : ∃ S : ByteArray, S = ⟨X.toArray⟩ := ⟨_, rfl⟩
          rw [← hS] at hem hzX
          have HSS := Lib.hid hS
          have hSz : S.size ≤ l.length - k := by omega
          have HSZ := Lib.hid hzX
          have hem2 : S.toList.isEmpty = false := by
            cases h : S.toList with
            | nil => rw [h] at hem; cases hem
            | cons a r => rfl
          clear hS hnil hzX
          go_enter Try.func45, Try.ntmps45
          go_wp2_with (first | (go_at_call 57; refine (letter_ c false HP.out _).mono ?_; rintro e w' ⟨rfl, rfl⟩) | (go_at_call 59; refine (digit_ c false HQ.out _).mono ?_; rintro e w' ⟨rfl, rfl⟩))
          refine (rsign_ s l HS.out k hk hl _).mono ?_
          rw [← HX.out]
          rintro e w' ⟨rfl, rfl⟩
          rw [← HSS.out]
          go_wp2
          refine bodyPost_ret (v := .tuple #[.agg #[.int .i64 4, .int .i64 0, .string S], (.int .i64 ((k : Int) + (S.size : Int))), .int .i64 0]) (by simp [results, Try.results45, go_sem]) rfl ?_
          exact ⟨(Below.refl _ _).alloc (Nat.le_refl _) _, k + S.size, by rw [HSS.out]; rfl, by rw [HSZ.out], by omega⟩
end Go.Proofs.Ytfgmlgflfagdjaa.lx

/- Contract of the document's lex: Words. -/
namespace Go.Proofs.Ytfgmlgflfagdjaa.lx
open Go.ChangeShapes Go.WideShapes Go.ChangeAt Go.RowKit Go.Proofs.Ytfgmlgflfagdjaa.lib
set_option linter.unusedVariables false

def WordsR (p : Int × List Wd) (w : World) (r : Ending) (w' : World) : Prop := ∃ v, r = .returned (.tuple #[v, .int .i64 p.1]) ∧ w'.ownsRow w.heap.size 74 3 v p.2.length (cellsW p.2) ∧ Below w.heap.size w w'
theorem blank_three (c : UInt8) : blankB c = ((c == 32) || (c == 9) || (c == 10)) := rfl
theorem byte_eq (c d : UInt8) (p : Bool) (h : (c == d) = p) : ((c.toNat : Int) == (d.toNat : Int)) = p := by
  rw [← h, Bool.eq_iff_iff, beq_iff_eq, beq_iff_eq]
  exact ⟨fun e => UInt8.toNat_inj.1 (by omega), fun e => by rw [e]⟩

set_option maxRecDepth 100000 in
set_option maxHeartbeats 8000000 in
theorem rwords_ok (s : ByteArray) (l : List UInt8) (hs : Str s l) (hl : l.length ≤ 600) (w : World) :
    Calls Try.prog 31 #[.string s] w (WordsR (fin (lexL l [])) w) := by
  obtain ⟨p, hp⟩ : ∃ p, fin (lexL l []) = p := ⟨_, rfl⟩
  rw [hp]
  have HP := Lib.hid hp
  have hz := hs.size
  have HS := Lib.hid hs
  have HZ := Lib.hid hz
  have hsb : s.size ≤ 600 := by omega
  have hd6 : decide (600 < (s.size : Int)) = false := by simp; omega
  clear hp hs hz
  obtain ⟨i0, hi, hz0, hz1, hz2⟩ := info_parts (P := Try.prog) (e := 74) (z := .agg #[.int .i64 0, .int .i64 0, .string ⟨#[]⟩]) (size := 3) (bytes := 32) (by kernel_rfl)
  go_enter Try.func31, Try.ntmps31
  go_wp2_with fail
  go_loopw [4, 5, 6, 7, 8] (fun v i _ _ _ wr => ∃ (m : Nat) (ws : List Wd), i = .int .i64 m ∧ m ≤ s.size ∧ ws.length ≤ m ∧ wr.ownsRow w.heap.size 74 3 v ws.length (cellsW ws) ∧ Below w.heap.size w wr ∧ Hid (fin (lexL (l.drop m) ws) = p)) (fun _ i _ _ _ _ => s.size - (intOf i).toNat)
  case atStart => exact ⟨0, [], rfl, Nat.zero_le _, Nat.le_refl _, World.ownsRow_nil _ _ _ _, Below.refl _ _, Lib.hid HP.out⟩
  case round =>
    obtain ⟨m, ws, rfl, hm, hwm, hown, hb, HF⟩ := hrel
    obtain ⟨N, hN⟩ : ∃ N, ws.length = N := ⟨_, rfl⟩
    rw [hN] at hown hwm
    have HN := Lib.hid hN
    clear hN
    obtain ⟨A, c0, rfl⟩ := own_slice hown
    have HO := Lib.hid hown
    clear hown
    rcases Nat.lt_or_ge m s.size with hlt | hge
    · have hd : decide (m < s.size) = true := by simp; omega
      have hl2 : m < l.length := by rw [← HZ.out]; exact hlt
      obtain ⟨c, hc⟩ : ∃ c, s[m]'hlt = c := ⟨_, rfl⟩
      have HC : Hid (l[m] = c) := Lib.hid (by rw [← HS.out.get m hlt hl2, hc])
      obtain ⟨b1, h1⟩ : ∃ b, (c == 32) = b := ⟨_, rfl⟩
      obtain ⟨b2, h2⟩ : ∃ b, (c == 9) = b := ⟨_, rfl⟩
      obtain ⟨b3, h3⟩ : ∃ b, (c == 10) = b := ⟨_, rfl⟩
      have hbl : blankB c = (b1 || b2 || b3) := by rw [blank_three, h1, h2, h3]
      have e1 : ((c.toNat : Int) == 32) = b1 := byte_eq c 32 b1 h1
      have e2 : ((c.toNat : Int) == 9) = b2 := byte_eq c 9 b2 h2
      have e3 : ((c.toNat : Int) == 10) = b3 := byte_eq c 10 b3 h3
      clear h1 h2 h3
      by_cases hblank : (b1 || b2 || b3) = true
      · have hst : stepL (l.drop m) = .skip (l.drop (m + 1)) := by
          rw [List.drop_eq_getElem_cons hl2, HC.out]
          exact step_blank c _ (by rw [hbl]; exact hblank)
        have HF2 := Lib.hid (show fin (lexL (l.drop (m + 1)) ws) = p by rw [← HF.out, lexL_skip ws hst])
        have hcs : b1 = true ∨ (b1 = false ∧ b2 = true) ∨ (b1 = false ∧ b2 = false ∧ b3 = true) := by
          clear e1 e2 e3 hbl
          cases b1 <;> cases b2 <;> cases b3 <;> simp at hblank ⊢
        clear hblank hst hbl
        rcases hcs with rfl | ⟨rfl, rfl⟩ | ⟨rfl, rfl, rfl⟩
        all_goals
          go_wp2_with fail
          go_roundw
          case rel => exact ⟨m + 1, ws, by go_num, by omega, by rw [HN.out]; omega, by rw [HN.out]; exact HO.out, hb, HF2⟩
          case measure => simp [intOf]; omega
      · obtain ⟨⟨rfl, rfl⟩, rfl⟩ : (b1 = false ∧ b2 = false) ∧ b3 = false := by simpa using hblank
        have HNB : Hid (blankB l[m] = false) := Lib.hid (by rw [HC.out, hbl]; rfl)
        clear hblank hbl
        go_wp2_with fail
        refine (next_ s l HS.out m hl2 (by omega) HNB.out _).mono ?_
        rintro e w2 hn
        have hdne : l.drop m ≠ [] := by
          intro e
          have := congrArg List.length e
          rw [List.length_drop] at this
          simp at this
          omega
        have hsh := St.shorter hdne
        cases hst : stepL (l.drop m) with
        | skip q =>
          rw [hst] at hn
          exact absurd hn (fun h => h)
        | err er =>
          rw [hst] at hn
          obtain ⟨hb2, a, b, k, t, rfl⟩ := hn
          have hne := stepL_ne hst
          have hpe : p = (er, []) := by
            rw [← HF.out, lexL_err ws hdne hst]
            unfold fin
            rw [if_neg hne]
          have HPE := Lib.hid hpe
          have he : (er != 0) = true := by simpa using hne
          clear hst hsh hdne hpe hne
          go_wp2
          go_ret2
          rw [HPE.out]
          exact ⟨.slice none 0 0, rfl, World.ownsRow_nil _ _ _ _, (Below.trans hb (Below.mono hb2 hb.size)).alloc (Nat.le_trans hb.size hb2.size) _⟩
        | put x r =>
          rw [hst] at hn hsh
          obtain ⟨hb2, k, rfl, hkr, hkl⟩ := hn
          have hsh : r.length < (l.drop m).length := hsh
          rw [← hkr, List.length_drop, List.length_drop] at hsh
          have hks : k ≤ s.size := by rw [HZ.out]; exact hkl
          have hmk : m < k := by omega
          have HF2 := Lib.hid (show fin (lexL (l.drop k) (ws ++ [x])) = p by rw [← HF.out, lexL_put ws hst, hkr])
          have hb3 : Below w.heap.size w w2 := Below.trans hb (Below.mono hb2 hb.size)
          have HO2 := Lib.hid (own_ext HO.out hb2)
          have hz2' := hb3.size
          clear hst hsh hdne hkr
          obtain ⟨xk, xn, xs⟩ := x
          go_wp2_with (at_builtin; refine wpList_append_own _ rfl (.tmp 44) (.tmp 46) 67 rfl w.heap.size 74 i0 _ 3 32 Try.underlying67 hi hz0 hz1 hz2 rfl (by decide) _ _ _ rfl ((HO2.out.alloc _).alloc _) ⟨w2.heap.size + 1, 0, none⟩ 1 1 [.int .i64 xk, .int .i64 xn, .string ⟨xs.toArray⟩] rfl rfl ?c1 ?c2 ?c3 ?c4 ?c5 ?_)
          case c1 => exact three_at (blk_new_at _ _ _ _ (by simp))
          case c2 => intro u hu; simp at hu; rcases hu with rfl | rfl | rfl <;> rfl
          case c3 => unfold maxLen; omega
          case c4 => omega
          case c5 => simp; omega
          intro v' w3 hown3 hgrow3 _
          have HO3 := Lib.hid hown3
          have hb4 : Below w.heap.size w w3 := ((hb3.alloc hb3.size _).alloc (by simp; omega) _).grown hgrow3 (by simp; omega) (fun k hk => (HO2.out.lt k hk).1)
          clear hown3 hgrow3
          go_wp2
          go_roundw
          case rel =>
            exact ⟨k, ws ++ [⟨xk, xn, xs⟩], rfl, hks, by rw [List.length_append, HN.out]; simp; omega, by rw [List.length_append, HN.out, cellsW_snoc]; exact HO3.out, hb4, HF2⟩
          case measure => simp [intOf]; omega
    · have hd : decide (m < s.size) = false := by simp; omega
      have hb' := hb.size
      go_wp2_with (at_builtin; refine wpList_append_own _ rfl (.tmp 49) (.tmp 51) 67 rfl w.heap.size 74 i0 _ 3 32 Try.underlying67 hi hz0 hz1 hz2 rfl (by decide) _ _ _ rfl (HO.out.alloc _) ⟨wr.heap.size, 0, none⟩ 1 1 [.int .i64 0, .int .i64 0, .string ⟨#[]⟩] rfl rfl ?c1 ?c2 ?c3 ?c4 ?c5 ?_)
      case c1 => exact three_at (Blk.new _ _ _)
      case c2 => intro u hu; simp at hu; rcases hu with rfl | rfl | rfl <;> rfl
      case c3 => unfold maxLen; omega
      case c4 => omega
      case c5 => simp; omega
      intro v' w3 hown3 hgrow3 _
      have HO3 := Lib.hid hown3
      have hb4 : Below w.heap.size w w3 := (hb.alloc hb.size _).grown hgrow3 (by simp; omega) (fun k hk => (HO.out.lt k hk).1)
      clear hown3 hgrow3
      go_wp2
      go_ret2
      have e : p = (0, ws ++ [endW]) := by
        rw [← HF.out, List.drop_of_length_le (by have := HZ.out; omega), lexL_nil]
        rfl
      subst e
      refine ⟨v', rfl, ?_, hb4⟩
      show World.ownsRow w3 w.heap.size _ 3 v' (ws ++ [endW]).length (cellsW (ws ++ [endW]))
      rw [cellsW_snoc, List.length_append, HN.out]
      exact HO3.out
theorem rwords_ (s : ByteArray) (l : List UInt8) (hs : Str s l) (hl : l.length ≤ 100000) (w : World) :
    Calls Try.prog 31 #[.string s] w (WordsR (wordsL l) w) := by
  unfold wordsL
  by_cases h : 600 < l.length
  · rw [if_pos h]
    have hz := hs.size
    have hsb : s.size ≤ 100000 := by omega
    have hd6 : decide (600 < (s.size : Int)) = true := by simp; omega
    clear hz hs
    go_enter Try.func31, Try.ntmps31
    go_wp2
    go_ret2
    exact ⟨.slice none 0 0, rfl, World.ownsRow_nil _ _ _ _, Below.refl _ _⟩
  · rw [if_neg h]
    exact rwords_ok s l hs (by omega) w
end Go.Proofs.Ytfgmlgflfagdjaa.lx
