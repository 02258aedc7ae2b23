/- Contract: word. -/
import Derived.Test.YtfmpnanfjomcbaaK6
namespace Go.Proofs.Ytfmpnanfjomcbaa.lx
open Go.ChangeShapes Go.WideShapes Go.ChangeAt Go.RowKit Go.Proofs.Ytfmpnanfjomcbaa.lib
set_option linter.unusedVariables false

theorem blank_has (c : UInt8) : (⟨#[32, 9, 10]⟩ : ByteArray).data.toList.contains c = blankB c := by
  have h := all_bytes (fun c => (⟨#[32, 9, 10]⟩ : ByteArray).data.toList.contains c == blankB c) (by decide +kernel) c
  simpa using h
theorem letters_has (c : UInt8) : (⟨#[97, 98, 99, 100, 101, 102, 103, 104, 105, 106, 107, 108, 109, 110, 111, 112, 113, 114, 115, 116, 117, 118, 119, 120, 121, 122]⟩ : ByteArray).data.toList.contains c = letB c := by
  have h := all_bytes (fun c => (⟨#[97, 98, 99, 100, 101, 102, 103, 104, 105, 106, 107, 108, 109, 110, 111, 112, 113, 114, 115, 116, 117, 118, 119, 120, 121, 122]⟩ : ByteArray).data.toList.contains c == letB c) (by decide +kernel) c
  simpa using h
theorem names_has (c : UInt8) : (⟨#[97, 98, 99, 100, 101, 102, 103, 104, 105, 106, 107, 108, 109, 110, 111, 112, 113, 114, 115, 116, 117, 118, 119, 120, 121, 122, 48, 49, 50, 51, 52, 53, 54, 55, 56, 57, 95]⟩ : ByteArray).data.toList.contains c = nameB c := by
  have h := all_bytes (fun c => (⟨#[97, 98, 99, 100, 101, 102, 103, 104, 105, 106, 107, 108, 109, 110, 111, 112, 113, 114, 115, 116, 117, 118, 119, 120, 121, 122, 48, 49, 50, 51, 52, 53, 54, 55, 56, 57, 95]⟩ : ByteArray).data.toList.contains c == nameB c) (by decide +kernel) c
  simpa using h
theorem name_low (c : UInt8) (h : nameB c = true) : c.toNat < 128 := by
  have h2 := all_bytes (fun c => !nameB c || decide (c.toNat < 128)) (by decide +kernel) c
  rw [h] at h2
  simpa using h2
theorem signs_has (c : UInt8) : (⟨#[40, 41, 44, 46, 42, 61, 60, 62, 43, 45]⟩ : ByteArray).data.toList.contains c = signB c := rfl
theorem two_only (c : UInt8) (r : List UInt8) (h : twoB (c :: r) = true) : signB c = true := by
  cases r with
  | nil => cases h
  | cons d r => exact two_sign (a := c) (b := d) h

set_option maxRecDepth 100000 in
set_option maxHeartbeats 4000000 in
theorem word_ (g base : Nat) (c : UInt8) (r : List UInt8) (ws : List Wd) (w : World) (h : At w g base (c :: r) ws) (hl : (c :: r).length ≤ 100000) (hw : ws.length ≤ 100000) (hbg : base ≤ g) :
    Calls Try.prog 19 #[.pointer (some ⟨g, 0, none⟩)] w (StP g base ws (stepL (c :: r)) w) := by
  rw [stepL]
  have hgw := h.six.2.2
  obtain ⟨L, hL⟩ : ∃ L, L = c :: r := ⟨_, rfl⟩
  rw [← hL] at h hl ⊢
  obtain ⟨s, hs⟩ : ∃ s : ByteArray, s = ⟨L.toArray⟩ := ⟨_, rfl⟩
  have hz : s.size = L.length := by rw [hs]; exact size_mk L
  have hl1 : 1 ≤ L.length := by rw [hL]; simp
  have h0 : 0 < s.size := by omega
  have hc0 : s[0]'h0 = c := by subst hs; rw [get_mk L 0 _ (by omega)]; subst hL; rfl
  have hq : w.cell? ⟨g, 0, none⟩ = some (.string s) := by rw [hs]; exact h.six.1
  have HR := Lib.hid (show L.drop 1 = r by rw [hL]; rfl)
  have HS := Lib.hid hs
  have HZ := Lib.hid hz
  have HL := Lib.hid hL
  have HTW := Lib.hid (show twoB L = true → signB c = true by rw [hL]; exact two_only c r)
  clear hs hz hL
  by_cases h1 : blankB c = true
  · rw [if_pos h1]
    have H1 := Lib.hid h1
    clear h1
    obtain ⟨out, ha, hb⟩ := h
    have f0 := ha.frozen 0
    have hd1 : decide (1 ≤ (s.size : Int)) = true := by simp; omega
    go_enter Try.func19, Try.ntmps19
    go_wp2_with fail
    refine (is_ _ _ true (by rw [blank_has]; exact H1.out) _).mono ?_
    rintro e w1 ⟨rfl, rfl⟩
    go_wp2
    clear hq f0
    go_end0
    have e : ByteArray.extract s 1 s.size = ⟨r.toArray⟩ := by rw [HS.out, size_mk, drop_mk _ _ hl1, HR.out]
    rw [e]
    refine ⟨rfl, (Below.refl _ _).setCell (by exact hbg) _, out, ?_, own_far hb ha (by decide) 0 _⟩
    have := ha.set_ 0 (.string ⟨r.toArray⟩)
    simpa [wk] using this
  rw [if_neg h1]
  have H1 : Hid (blankB c = false) := Lib.hid (by simpa using h1)
  by_cases h2 : letB c = true
  · rw [if_pos h2]
    have H2 := Lib.hid h2
    clear h1 h2
    obtain ⟨n, hn⟩ : ∃ n, n = (L.takeWhile nameB).length := ⟨_, rfl⟩
    have hnl : n ≤ L.length := by rw [hn]; exact tw_bound _ _
    have HF : ∀ W : World, Calls Try.prog 25 #[.string s, .string ⟨#[97, 98, 99, 100, 101, 102, 103, 104, 105, 106, 107, 108, 109, 110, 111, 112, 113, 114, 115, 116, 117, 118, 119, 120, 121, 122, 48, 49, 50, 51, 52, 53, 54, 55, 56, 57, 95]⟩] W fun e w' => e = .returned (.int .i64 n) ∧ Below W.heap.size W w' := by
      rw [hn, HS.out]
      exact fun W => front_ L _ nameB names_has name_low hl W
    have HFF := Lib.hid HF
    have HX := Lib.hid (show ByteArray.extract s 0 n = ⟨(L.takeWhile nameB).toArray⟩ by rw [HS.out, take_mk, hn, (tw_take nameB L).1])
    have HD := Lib.hid (show L.drop n = L.dropWhile nameB by rw [hn]; exact (tw_take nameB L).2)
    have hn2 : n ≤ s.size := by have := HZ.out; omega
    have hd1 : decide ((n : Int) ≤ (s.size : Int)) = true := by simp; omega
    clear hn HF
    go_enter Try.func19, Try.ntmps19
    go_wp2_with fail
    refine (is_ _ _ false (by rw [blank_has]; exact H1.out) _).mono ?_
    rintro e w1 ⟨rfl, rfl⟩
    go_wp2_with fail
    refine (is_ _ _ true (by rw [letters_has]; exact H2.out) _).mono ?_
    rintro e w1 ⟨rfl, rfl⟩
    go_wp2_with fail
    refine (HFF.out _).mono ?_
    rintro e w1 ⟨rfl, hb1⟩
    have hA1 := h.ext hb1
    have hq1 : w1.cell? ⟨g, 0, none⟩ = some (.string s) := (hb1.cell (by exact hgw)).trans hq
    clear hq
    go_wp2_with fail
    refine (putA g base n L (L.dropWhile nameB) ws 1 0 (L.takeWhile nameB) _ _ hA1 HX.out HD.out hnl hl hw hbg).mono ?_
    rintro e w2 ⟨rfl, hb2, hst⟩
    go_wp2
    go_end0
    exact ⟨rfl, Below.trans (Below.mono hb1 (by omega)) hb2, hst⟩
  rw [if_neg h2]
  have H2 : Hid (letB c = false) := Lib.hid (by simpa using h2)
  by_cases h3 : digB c = true
  · rw [if_pos h3]
    have H3 := Lib.hid h3
    clear h1 h2 h3
    go_enter Try.func19, Try.ntmps19
    go_wp2_with fail
    refine (is_ _ _ false (by rw [blank_has]; exact H1.out) _).mono ?_
    rintro e w1 ⟨rfl, rfl⟩
    go_wp2_with fail
    refine (is_ _ _ false (by rw [letters_has]; exact H2.out) _).mono ?_
    rintro e w1 ⟨rfl, rfl⟩
    go_wp2_with fail
    refine (is_ _ _ true (by rw [digits_has]; exact H3.out) _).mono ?_
    rintro e w1 ⟨rfl, rfl⟩
    go_wp2_with fail
    refine (number_ g base L ws _ h hl hw hbg).mono ?_
    rintro e w2 ⟨rfl, hb2, hst⟩
    go_wp2
    go_end0
    exact ⟨rfl, hb2, hst⟩
  rw [if_neg h3]
  have H3 : Hid (digB c = false) := Lib.hid (by simpa using h3)
  by_cases h4 : c = 39
  · rw [if_pos h4]
    have he : ((c.toNat : Int) == 39) = true := by rw [h4]; decide
    clear h1 h2 h3 h4
    go_enter Try.func19, Try.ntmps19
    go_wp2_with fail
    refine (is_ _ _ false (by rw [blank_has]; exact H1.out) _).mono ?_
    rintro e w1 ⟨rfl, rfl⟩
    go_wp2_with fail
    refine (is_ _ _ false (by rw [letters_has]; exact H2.out) _).mono ?_
    rintro e w1 ⟨rfl, rfl⟩
    go_wp2_with fail
    refine (is_ _ _ false (by rw [digits_has]; exact H3.out) _).mono ?_
    rintro e w1 ⟨rfl, rfl⟩
    go_wp2_with fail
    refine (text_ g base L ws _ h hl hl1 hw hbg).mono ?_
    rw [HR.out]
    rintro e w2 ⟨rfl, hb2, hst⟩
    go_wp2
    go_end0
    exact ⟨rfl, hb2, hst⟩
  rw [if_neg h4]
  have he : ((c.toNat : Int) == 39) = false := by
    rw [Bool.eq_false_iff]
    intro e
    rw [beq_iff_eq] at e
    exact h4 (UInt8.toNat_inj.1 (by show c.toNat = 39; omega))
  by_cases h6 : signB c = true
  · have e : (if twoB L = true then St.put ⟨4, 0, L.take 2⟩ (L.drop 2) else if signB c = true then St.put ⟨4, 0, [c]⟩ r else St.err 6) = signSt L := by
      unfold signSt
      cases ht : twoB L with
      | true => rfl
      | false =>
        rw [if_neg (by decide), if_pos h6]
        show St.put _ _ = St.put _ _
        have e1 : L.take (two1 false) = [c] := by rw [HL.out]; rfl
        have e2 : L.drop (two1 false) = r := HR.out
        rw [e1, e2]
    rw [e]
    have H6 := Lib.hid h6
    clear h1 h2 h3 h6 e h4
    go_enter Try.func19, Try.ntmps19
    go_wp2_with fail
    refine (is_ _ _ false (by rw [blank_has]; exact H1.out) _).mono ?_
    rintro e w1 ⟨rfl, rfl⟩
    go_wp2_with fail
    refine (is_ _ _ false (by rw [letters_has]; exact H2.out) _).mono ?_
    rintro e w1 ⟨rfl, rfl⟩
    go_wp2_with fail
    refine (is_ _ _ false (by rw [digits_has]; exact H3.out) _).mono ?_
    rintro e w1 ⟨rfl, rfl⟩
    go_wp2_with fail
    refine (is_ _ _ true (by rw [signs_has]; exact H6.out) _).mono ?_
    rintro e w1 ⟨rfl, rfl⟩
    go_wp2_with fail
    refine (sign_ g base L ws _ h hl hl1 hw hbg).mono ?_
    rintro e w2 ⟨rfl, hb2, hst⟩
    go_wp2
    go_end0
    exact ⟨rfl, hb2, hst⟩
  · rw [if_neg (fun ht => h6 (HTW.out ht)), if_neg h6]
    have H6 : Hid (signB c = false) := Lib.hid (by simpa using h6)
    clear h1 h2 h3 h6 h4
    go_enter Try.func19, Try.ntmps19
    go_wp2_with fail
    refine (is_ _ _ false (by rw [blank_has]; exact H1.out) _).mono ?_
    rintro e w1 ⟨rfl, rfl⟩
    go_wp2_with fail
    refine (is_ _ _ false (by rw [letters_has]; exact H2.out) _).mono ?_
    rintro e w1 ⟨rfl, rfl⟩
    go_wp2_with fail
    refine (is_ _ _ false (by rw [digits_has]; exact H3.out) _).mono ?_
    rintro e w1 ⟨rfl, rfl⟩
    go_wp2_with fail
    refine (is_ _ _ false (by rw [signs_has]; exact H6.out) _).mono ?_
    rintro e w1 ⟨rfl, rfl⟩
    go_wp2_with fail
    refine (failA g base L ws 6 _ h hbg).mono ?_
    rintro e w2 ⟨rfl, hb2, hst⟩
    go_wp2
    go_end0
    exact ⟨rfl, hb2, hst⟩
end Go.Proofs.Ytfmpnanfjomcbaa.lx
