/- Contract: number. -/
import Derived.Test.YtfmpnanfjomcbaaK4
namespace Go.Proofs.Ytfmpnanfjomcbaa.lx
open Go.ChangeShapes Go.WideShapes Go.ChangeAt Go.RowKit Go.Proofs.Ytfmpnanfjomcbaa.lib
set_option linter.unusedVariables false

theorem tw_take (p : UInt8 → Bool) : ∀ l : List UInt8, l.take (l.takeWhile p).length = l.takeWhile p ∧ l.drop (l.takeWhile p).length = l.dropWhile p
  | [] => ⟨rfl, rfl⟩
  | c :: l => by
    have ih := tw_take p l
    cases hp : p c with
    | true => simp only [List.takeWhile, List.dropWhile, hp, List.length_cons, List.take_succ_cons, List.drop_succ_cons]; exact ⟨by rw [ih.1], ih.2⟩
    | false => simp [List.takeWhile, List.dropWhile, hp]
theorem digits_has (c : UInt8) : (⟨#[48, 49, 50, 51, 52, 53, 54, 55, 56, 57]⟩ : ByteArray).data.toList.contains c = digB c := by
  have h := all_bytes (fun c => (⟨#[48, 49, 50, 51, 52, 53, 54, 55, 56, 57]⟩ : ByteArray).data.toList.contains c == digB c) (by decide +kernel) c
  simpa using h
theorem numL_step (T : List UInt8) (pos : Nat) (y : Int) (h : pos < T.length) : numL (T.drop pos) y = if (9223372036854775807 - ((T[pos].toNat : Int) - 48)) / 10 < y then none else numL (T.drop (pos + 1)) (10 * y + ((T[pos].toNat : Int) - 48)) := by
  rw [List.drop_eq_getElem_cons h, numL]

set_option maxRecDepth 100000 in
set_option maxHeartbeats 2000000 in
theorem number_ (g base : Nat) (l : List UInt8) (ws : List Wd) (w : World) (h : At w g base l ws) (hl : l.length ≤ 100000) (hw : ws.length ≤ 100000) (hbg : base ≤ g) :
    Calls Try.prog 27 #[.pointer (some ⟨g, 0, none⟩)] w (StP g base ws (numSt (numL (l.takeWhile digB) 0) (l.dropWhile digB)) w) := by
  have hq := h.six
  have hgw := hq.2.2
  obtain ⟨T, hT⟩ : ∃ T, T = l.takeWhile digB := ⟨_, rfl⟩
  obtain ⟨n, hn⟩ : ∃ n, n = T.length := ⟨_, rfl⟩
  have hnl : n ≤ l.length := by rw [hn, hT]; exact tw_bound _ _
  obtain ⟨s, hs⟩ : ∃ s : ByteArray, s = ⟨T.toArray⟩ := ⟨_, rfl⟩
  have hz : s.size = n := by rw [hs, hn]; exact size_mk T
  have hg : ∀ (i : Nat) (h : i < s.size) (h2 : i < T.length), s[i]'h = T[i] := by subst hs; exact get_mk T
  have hx : (ByteArray.mk l.toArray).extract 0 n = s := by rw [take_mk, hs, hn, hT, (tw_take digB l).1]
  have HX := Lib.hid hx
  have HZ := Lib.hid hz
  have HG := Lib.hid hg
  have HN := Lib.hid hn
  have HD := Lib.hid (show l.drop n = l.dropWhile digB by rw [hn, hT]; exact (tw_take digB l).2)
  have HDG := Lib.hid (show ∀ c ∈ T, digB c = true by rw [hT]; exact tw_all digB l)
  have HF : ∀ W : World, Calls Try.prog 25 #[.string ⟨l.toArray⟩, .string ⟨#[48, 49, 50, 51, 52, 53, 54, 55, 56, 57]⟩] W fun e w' => e = .returned (.int .i64 n) ∧ Below W.heap.size W w' := by
    rw [hn, hT]
    exact fun W => front_ l _ digB digits_has (fun c hc => by have := digB_bd hc; omega) hl W
  have HFF := Lib.hid HF
  rw [← hT]
  have HT := Lib.hid hT
  have hsz : (ByteArray.mk l.toArray).size = l.length := size_mk _
  have hd1 : decide ((n : Int) ≤ (l.length : Int)) = true := by simp; omega
  clear hz hg hn hT HF hx hs
  go_enter Try.func27, Try.ntmps27
  go_wp2_with fail
  refine (HFF.out _).mono ?_
  rintro e w1 ⟨rfl, hb1⟩
  have hA1 := h.ext hb1
  clear hq
  have hq := hA1.six
  go_wp2_with fail
  rw [HX.out]
  go_wp2_with fail
  clear hq
  have hb0 : Below base w w1 := Below.mono hb1 (by omega)
  go_loopw [3, 5, 6] (fun x _ _ w' => ∃ (pos : Nat) (y : Int), w' = w1.iter s pos ∧ pos ≤ s.size ∧ x = .int .i64 y ∧ 0 ≤ y ∧ y ≤ 9223372036854775807 ∧ Hid (numL (T.drop pos) y = numL T 0)) (fun _ _ _ w' => s.size - w'.iterPos w1.heap.size)
  case atStart => exact ⟨0, 0, rfl, Nat.zero_le _, rfl, by omega, by omega, Lib.hid rfl⟩
  case round =>
    obtain ⟨pos, y, rfl, hpos, rfl, hy0, hy1, HY⟩ := hrel
    by_cases hlt : pos < s.size
    · have hl2 : pos < T.length := by rw [← HN.out, ← HZ.out]; exact hlt
      have hc := digB_bd (HDG.out _ (List.getElem_mem hl2))
      have hst := numL_step T pos y hl2
      have ha : (s[pos]'hlt).toNat < 128 := by rw [HG.out pos hlt hl2]; omega
      have hnx : ∀ ty, (Instr.next (.pointer (some ⟨w1.heap.size, 0, none⟩)) true ty).run Try.prog (w1.iter s pos) = _ := fun ty => run_next_ascii w1 s pos ty hlt ha
      rw [HG.out pos hlt hl2] at hnx
      generalize hcc : T[pos].toNat = c at *
      clear hcc ha
      have HS := Lib.hid hst
      clear hst
      obtain ⟨hc1, hc2⟩ := hc
      by_cases hov : (9223372036854775807 - ((c : Int) - 48)) / 10 < y
      · have hd : decide ((9223372036854775807 - ((c : Int) - 48)) / 10 < y) = true := by simpa using hov
        go_wp2_with fail
        have hA2 := hA1.ext (w' := w1.iter s (pos + 1)) ((Below.refl _ _).alloc (Nat.le_refl _) _)
        refine (failA g base l ws 11 _ hA2 hbg).mono ?_
        rintro e w2 ⟨rfl, hb2, hst⟩
        go_wp2
        go_end0
        have e : numL T 0 = none := by rw [← HY.out, HS.out, if_pos hov]
        rw [e]
        exact ⟨rfl, Below.trans hb0 (Below.trans ((Below.refl _ _).alloc (by have := hb1.size; omega) _) hb2), hst⟩
      · have hd : decide ((9223372036854775807 - ((c : Int) - 48)) / 10 < y) = false := by simpa using hov
        go_wp2_with fail
        go_roundw
        case rel =>
          exact ⟨pos + 1, 10 * y + ((c : Int) - 48), rfl, by omega, by go_num, by omega, by omega, Lib.hid (by rw [← HY.out, HS.out, if_neg hov])⟩
        case measure => simp; omega
    · have hnx : ∀ ty, (Instr.next (.pointer (some ⟨w1.heap.size, 0, none⟩)) true ty).run Try.prog (w1.iter s pos) = _ := fun ty => run_next_end w1 s pos ty hlt
      go_wp2_with fail
      have hA2 := hA1.ext (w' := w1.iter s pos) ((Below.refl _ _).alloc (Nat.le_refl _) _)
      refine (putA g base n l (l.dropWhile digB) ws 2 y [] _ _ hA2 rfl HD.out hnl hl hw hbg).mono ?_
      rintro e w2 ⟨rfl, hb2, hst⟩
      go_wp2
      go_end0
      have e : numL T 0 = some y := by
        rw [← HY.out, List.drop_of_length_le (by have := HZ.out; have := HN.out; omega)]
        rfl
      rw [e]
      exact ⟨rfl, Below.trans hb0 (Below.trans ((Below.refl _ _).alloc (by have := hb1.size; omega) _) hb2), hst⟩
end Go.Proofs.Ytfmpnanfjomcbaa.lx
