/- Contract: number. -/
import Derived.Test.YtfnceamkephpjaaGreatK4
import Derived.Laws.BytesString
import Derived.Laws.Cells
namespace Go.Proofs.YtfnceamkephpjaaGreat.lx
open Go.ChangeShapes Go.WideShapes Go.ChangeAt Go.RowKit Go.Proofs.YtfnceamkephpjaaGreat.lib
set_option linter.unusedVariables false

set_option maxRecDepth 100000 in
theorem tw_take (p : UInt8 → Bool) : ∀ l : List UInt8, l.take (l.takeWhile p).length = l.takeWhile p ∧ l.drop (l.takeWhile p).length = l.dropWhile p
  | [] => ⟨rfl, rfl⟩
  | c :: l => by
    have ih := tw_take p l
    cases hp : p c with
    | true => simp only [List.takeWhile, List.dropWhile, hp, List.length_cons, List.take_succ_cons, List.drop_succ_cons]; exact ⟨by rw [ih.1], ih.2⟩
    | false => simp [List.takeWhile, List.dropWhile, hp]
set_option maxRecDepth 100000 in
theorem digits_has (c : UInt8) : (⟨#[48, 49, 50, 51, 52, 53, 54, 55, 56, 57]⟩ : ByteArray).data.toList.contains c = digB c := by
  have h := all_bytes (fun c => (⟨#[48, 49, 50, 51, 52, 53, 54, 55, 56, 57]⟩ : ByteArray).data.toList.contains c == digB c) (by decide +kernel) c
  simpa using h
set_option maxRecDepth 100000 in
theorem numL_step (T : List UInt8) (pos : Nat) (y : Int) (h : pos < T.length) : numL (T.drop pos) y = if (9223372036854775807 - ((T[pos].toNat : Int) - 48)) / 10 < y then none else numL (T.drop (pos + 1)) (10 * y + ((T[pos].toNat : Int) - 48)) := by
  rw [List.drop_eq_getElem_cons h, numL]

set_option maxRecDepth 100000 in
set_option maxHeartbeats 2000000 in
theorem number_ (g base : Nat) (l : List UInt8) (ws : List Wd) (w : World) (h : At w g base l ws) (hl : l.length ≤ 100000) (hw : ws.length ≤ 100000) (hbg : base ≤ g) :
    Calls Tryz.prog 41 #[.pointer (some ⟨g, 0, none⟩)] w (StP g base ws (numSt (numL (l.takeWhile digB) 0) (l.dropWhile digB)) w) := by
  have hq := h.six
  have hgw := hq.2.2
  obtain ⟨T, hT⟩ : ∃ T, T = l.takeWhile digB := ⟨_, rfl⟩
  obtain ⟨n, hn⟩ : ∃ n, n = T.length := ⟨_, rfl⟩
  have hnl : n ≤ l.length := by rw [hn, hT]; exact tw_bound _ _
  obtain ⟨s, hs⟩ : ∃ s : ByteArray, s = ⟨T.toArray⟩ := ⟨_, rfl⟩
  have hz : s.size = n := by rw [hs, hn]; exact size_mk T
  have hg : ∀ (i : Nat) (h : i < s.size) (h2 : i < T.length), s[i]'h = T[i] := by subst hs; exact get_mk T
  have hx : (ByteArray.mk l.toArray).extract 0 n = s := by rw [take_mk, hs, hn, hT, (tw_take digB l).1]
  have HX := Lib.hid hx
  have HZ := Lib.hid hz
  have HG := Lib.hid hg
  have HN := Lib.hid hn
  have HD := Lib.hid (show l.drop n = l.dropWhile digB by rw [hn, hT]; exact (tw_take digB l).2)
  have HDG := Lib.hid (show ∀ c ∈ T, digB c = true by rw [hT]; exact tw_all digB l)
  have HF : ∀ W : World, Calls Tryz.prog 39 #[.string ⟨l.toArray⟩, .string ⟨#[48, 49, 50, 51, 52, 53, 54, 55, 56, 57]⟩] W fun e w' => e = .returned (.int .i64 n) ∧ Below W.heap.size W w' := by
    rw [hn, hT]
    exact fun W => front_ l _ digB digits_has (fun c hc => by have := digB_bd hc; omega) hl W
  have HFF := Lib.hid HF
  rw [← hT]
  have HT := Lib.hid hT
  have hsz : (ByteArray.mk l.toArray).size = l.length := size_mk _
  have hd1 : decide ((n : Int) ≤ (l.length : Int)) = true := by simp; omega
  clear hz hg hn hT HF hx hs
  go_enter Tryz.func41, Tryz.ntmps41
  go_wp2_with fail
  refine (HFF.out _).mono ?_
  rintro e w1 ⟨rfl, hb1⟩
  have hA1 := h.ext hb1
  clear hq
  have hq := hA1.six
  go_wp2_with fail
  rw [HX.out]
  go_wp2_with fail
  clear hq
  have hb0 : Below base w w1 := Below.mono hb1 (by omega)
  go_loopw [3, 5, 6] (fun x _ _ w' => ∃ (pos : Nat) (y : Int), w' = w1.iter s pos ∧ pos ≤ s.size ∧ x = .int .i64 y ∧ 0 ≤ y ∧ y ≤ 9223372036854775807 ∧ Hid (numL (T.drop pos) y = numL T 0)) (fun _ _ _ w' => s.size - w'.iterPos w1.heap.size)
  case atStart => exact ⟨0, 0, rfl, Nat.zero_le _, rfl, by omega, by omega, Lib.hid rfl⟩
  case round =>
    obtain ⟨pos, y, rfl, hpos, rfl, hy0, hy1, HY⟩ := hrel
    by_cases hlt : pos < s.size
    · have hl2 : pos < T.length := by rw [← HN.out, ← HZ.out]; exact hlt
      have hc := digB_bd (HDG.out _ (List.getElem_mem hl2))
      have hst := numL_step T pos y hl2
      have ha : (s[pos]'hlt).toNat < 128 := by rw [HG.out pos hlt hl2]; omega
      have hnx : ∀ ty, (Instr.next (.pointer (some ⟨w1.heap.size, 0, none⟩)) true ty).run Tryz.prog (w1.iter s pos) = _ := fun ty => run_next_ascii w1 s pos ty hlt ha
      rw [HG.out pos hlt hl2] at hnx
      generalize hcc : T[pos].toNat = c at *
      clear hcc ha
      have HS := Lib.hid hst
      clear hst
      obtain ⟨hc1, hc2⟩ := hc
      by_cases hov : (9223372036854775807 - ((c : Int) - 48)) / 10 < y
      · have hd : decide ((9223372036854775807 - ((c : Int) - 48)) / 10 < y) = true := by simpa using hov
        go_wp2_with fail
        have hA2 := hA1.ext (w' := w1.iter s (pos + 1)) ((Below.refl _ _).alloc (Nat.le_refl _) _)
        refine (failA g base l ws 11 _ hA2 hbg).mono ?_
        rintro e w2 ⟨rfl, hb2, hst⟩
        go_wp2
        go_end0
        have e : numL T 0 = none := by rw [← HY.out, HS.out, if_pos hov]
        rw [e]
        exact ⟨rfl, Below.trans hb0 (Below.trans ((Below.refl _ _).alloc (by have := hb1.size; omega) _) hb2), hst⟩
      · have hd : decide ((9223372036854775807 - ((c : Int) - 48)) / 10 < y) = false := by simpa using hov
        go_wp2_with fail
        go_roundw
        case rel =>
          exact ⟨pos + 1, 10 * y + ((c : Int) - 48), rfl, by omega, by go_num, by omega, by omega, Lib.hid (by rw [← HY.out, HS.out, if_neg hov])⟩
        case measure => simp; omega
    · have hnx : ∀ ty, (Instr.next (.pointer (some ⟨w1.heap.size, 0, none⟩)) true ty).run Tryz.prog (w1.iter s pos) = _ := fun ty => run_next_end w1 s pos ty hlt
      go_wp2_with fail
      have hA2 := hA1.ext (w' := w1.iter s pos) ((Below.refl _ _).alloc (Nat.le_refl _) _)
      refine (putA g base n l (l.dropWhile digB) ws 2 y [] _ _ hA2 rfl HD.out hnl hl hw hbg).mono ?_
      rintro e w2 ⟨rfl, hb2, hst⟩
      go_wp2
      go_end0
      have e : numL T 0 = some y := by
        rw [← HY.out, List.drop_of_length_le (by have := HZ.out; have := HN.out; omega)]
        rfl
      rw [e]
      exact ⟨rfl, Below.trans hb0 (Below.trans ((Below.refl _ _).alloc (by have := hb1.size; omega) _) hb2), hst⟩
end Go.Proofs.YtfnceamkephpjaaGreat.lx

/- Contract: text. -/
namespace Go.Proofs.YtfnceamkephpjaaGreat.lx
open Go.ChangeShapes Go.WideShapes Go.ChangeAt Go.RowKit Go.Proofs.YtfnceamkephpjaaGreat.lib
set_option linter.unusedVariables false

def u8s (l : List UInt8) : List Value := (l.map fun c => (c.toNat : Int)).map (Value.int .u8)
set_option maxRecDepth 100000 in
theorem u8s_len (l : List UInt8) : (u8s l).length = l.length := by simp [u8s]
set_option maxRecDepth 100000 in
theorem u8s_snoc (l : List UInt8) (c : UInt8) : u8s (l ++ [c]) = u8s l ++ [.int .u8 c.toNat] := by simp [u8s]
set_option maxRecDepth 100000 in
theorem fold_push : ∀ (l : List UInt8) (s : ByteArray), (l.map fun c => (c.toNat : Int)).foldl (fun r n => r.push (UInt8.ofNat n.toNat)) s = ⟨(s.data.toList ++ l).toArray⟩
  | [], s => by simp
  | c :: l, s => by
    simp only [List.map_cons, List.foldl_cons]
    rw [fold_push l]
    apply ByteArray.ext
    simp
set_option maxRecDepth 100000 in
theorem own_slice {w : World} {base size n : Nat} {e : TypeId} {v : Value} {xs : List Value} (h : w.ownsRow base e size v n xs) : ∃ A c, v = .slice A n c := by
  rcases h.2 with ⟨rfl, rfl⟩ | ⟨g, cap, cur, rfl, _⟩
  · exact ⟨_, _, rfl⟩
  · exact ⟨_, _, rfl⟩
set_option maxRecDepth 100000 in
theorem conv_ {w : World} {base n c : Nat} {A : Option Addr} {l : List UInt8} (h : w.ownsRow base 5 1 (.slice A n c) n (u8s l)) :
    (convert 91 9 (.slice A n c)).run Tryz.prog w = .ok (.string ⟨l.toArray⟩) w := by
  rw [run_convert_bytes_string w 91 9 5 A n c Tryz.underlying91 Tryz.underlying5 Tryz.underlying9]
  have hl : l.length = n := by have := h.1; rw [u8s_len] at this; omega
  rcases h.2 with ⟨e, rfl⟩ | ⟨g, cap, cur, e, _⟩
  · injection e with e1
    subst e1
    have : l = [] := List.eq_nil_of_length_eq_zero hl
    subst this
    rfl
  · injection e with e1 _ e3
    subst e1 e3
    have hc := h.cells (g := g) rfl
    have := run_loadCells_list (P := Tryz.prog) (w := w) ⟨g, 0, none⟩ (u8s l) hc
    rw [u8s_len, hl] at this
    rw [run_bytesToString w _ n _ (l.map fun c => (c.toNat : Int)) this, fold_push]
    rfl
set_option maxRecDepth 100000 in
theorem one_at (w : World) (x : Value) (t : TypeId) : ∀ (j : Nat) (u : Value), [x][j]? = some u → (w.alloc (.cells #[x] t)).cell? ((⟨w.heap.size, 0, none⟩ : Addr).add j) = some u := by
  intro j u hj
  match j, hj with
  | 0, hj => simp at hj; subst hj; simp [Addr.add]
set_option maxRecDepth 100000 in
theorem textL_nil (acc : List UInt8) : textL [] acc = (6, [], []) := by unfold textL; rfl
set_option maxRecDepth 100000 in
theorem textL_other (c : UInt8) (r acc : List UInt8) (h : c ≠ 39) : textL (c :: r) acc = textL r (acc ++ [c]) := by
  cases r with
  | nil => unfold textL; rw [if_neg h]
  | cons d r => conv => lhs; unfold textL
                rw [if_neg h]
set_option maxRecDepth 100000 in
theorem textL_twice (r acc : List UInt8) : textL (39 :: 39 :: r) acc = textL r (acc ++ [39]) := by
  conv => lhs; unfold textL
  rw [if_pos rfl, if_pos rfl]
set_option maxRecDepth 100000 in
theorem textL_end (r acc : List UInt8) (h : ∀ d q, r = d :: q → d ≠ 39) : textL (39 :: r) acc = if 60 < acc.length then (5, [], []) else (0, acc, r) := by
  cases r with
  | nil => unfold textL; rw [if_pos rfl]
  | cons d r => conv => lhs; unfold textL
                rw [if_pos rfl, if_neg (h d r rfl)]

set_option maxRecDepth 100000 in
set_option maxHeartbeats 4000000 in
theorem text_ (g base : Nat) (l : List UInt8) (ws : List Wd) (w : World) (h : At w g base l ws) (hl : l.length ≤ 100000) (hl1 : 1 ≤ l.length) (hw : ws.length ≤ 100000) (hbg : base ≤ g) :
    Calls Tryz.prog 42 #[.pointer (some ⟨g, 0, none⟩)] w (StP g base ws (textSt (textL (l.drop 1) [])) w) := by
  have hgw := h.six.2.2
  obtain ⟨s, hs⟩ : ∃ s : ByteArray, s = ⟨l.toArray⟩ := ⟨_, rfl⟩
  have hz : s.size = l.length := by rw [hs]; exact size_mk l
  have hg : ∀ (i : Nat) (h : i < s.size) (h2 : i < l.length), s[i]'h = l[i] := by subst hs; exact get_mk l
  have HC : ∀ w', At w' g base l ws → w'.cell? ⟨g, 0, none⟩ = some (.string s) := fun w' h => by rw [hs]; exact h.six.1
  have HZ := Lib.hid hz
  have HG := Lib.hid hg
  have HCC := Lib.hid HC
  have hsb : s.size ≤ 100000 := by omega
  have hsb1 : 1 ≤ s.size := by omega
  clear hz hg HC hs
  obtain ⟨i0, hi, hz0, hz1, hz2⟩ := info_parts (P := Tryz.prog) (e := 5) (z := .int .u8 0) (size := 1) (bytes := 1) (by kernel_rfl)
  go_enter Tryz.func42, Tryz.ntmps42
  go_wp2
  go_loopw [2, 3] (fun out k wr => ∃ (j : Nat) (acc : List UInt8), k = .int .i64 j ∧ 1 ≤ j ∧ j ≤ s.size ∧ acc.length ≤ j ∧ wr.ownsRow w.heap.size 5 1 out acc.length (u8s acc) ∧ Below w.heap.size w wr ∧ Hid (textL (l.drop j) acc = textL (l.drop 1) [])) (fun _ k _ => s.size - (intOf k).toNat)
  case atStart => exact ⟨1, [], rfl, by omega, by omega, by simp, World.ownsRow_nil _ _ _ _, Below.refl _ _, Lib.hid rfl⟩
  case round =>
    obtain ⟨j, acc, rfl, hj1, hj2, haj, hown, hb, HT⟩ := hrel
    obtain ⟨N, hN⟩ : ∃ N, acc.length = N := ⟨_, rfl⟩
    rw [hN] at hown haj
    have HN := Lib.hid hN
    clear hN
    have hA := h.ext hb
    have q := HCC.out wr hA
    obtain ⟨A, c, rfl⟩ := own_slice hown
    have HO := Lib.hid hown
    clear hown
    rcases Nat.lt_or_ge j s.size with hlt | hge
    · have hd : decide ((j : Int) < (s.size : Int)) = true := by simp; omega
      have hl2 : j < l.length := by rw [← HZ.out]; exact hlt
      by_cases hc : l[j] = 39
      · have hne : (((s[j]'hlt).toNat : Int) != 39) = false := by rw [HG.out j hlt hl2, hc]; decide
        have hdrop : l.drop j = 39 :: l.drop (j + 1) := by rw [List.drop_eq_getElem_cons hl2, hc]
        have HDR := Lib.hid hdrop
        clear hdrop hc
        by_cases h2 : ∃ hlt2 : j + 1 < s.size, (s[j + 1]'hlt2) = 39
        · obtain ⟨hlt2, hc2⟩ := h2
          have hd2 : decide ((j : Int) + 1 < (s.size : Int)) = true := by simp; omega
          have hne2 : (((s[j + 1]'hlt2).toNat : Int) == 39) = true := by rw [hc2]; decide
          have hl3 : j + 1 < l.length := by rw [← HZ.out]; exact hlt2
          have hT2 : textL (l.drop (j + 2)) (acc ++ [39]) = textL (l.drop 1) [] := by
            rw [← HT.out, HDR.out, List.drop_eq_getElem_cons hl3, ← HG.out (j + 1) hlt2 hl3, hc2, textL_twice]
          have HT2 := Lib.hid hT2
          clear hT2 hc2
          go_wp2_with (at_builtin; refine wpList_append_own _ rfl (.tmp 56) (.tmp 57) 91 rfl w.heap.size 5 i0 (.int .u8 0) 1 1 Tryz.underlying91 hi hz0 hz1 hz2 rfl (by decide) _ _ _ rfl (HO.out.alloc _) ⟨wr.heap.size, 0, none⟩ 1 1 [.int .u8 39] rfl rfl ?c1 ?c2 ?c3 ?c4 ?c5 ?_)
          case c1 => exact one_at _ _ _
          case c2 => intro u hu; simp at hu; subst hu; rfl
          case c3 => unfold maxLen; omega
          case c4 => omega
          case c5 => have := hb.size; simp; omega
          intro v' w3 hown3 hgrow3 _
          go_wp2
          go_roundw
          case rel =>
            exact ⟨j + 2, acc ++ [39], by go_num, by omega, by omega, by rw [List.length_append, HN.out]; simp; omega, by rw [List.length_append, HN.out, u8s_snoc]; exact hown3, (hb.alloc hb.size _).grown hgrow3 (by have := hb.size; simp; omega) (fun k hk => (HO.out.lt k hk).1), HT2⟩
          case measure => simp [intOf]; omega
        · have hn39 : ∀ d q, l.drop (j + 1) = d :: q → d ≠ 39 := fun d q e ed => by
            have hl3 : j + 1 < l.length := by
              rcases Nat.lt_or_ge (j + 1) l.length with h | h
              · exact h
              · rw [List.drop_of_length_le h] at e; cases e
            refine h2 ⟨by rw [HZ.out]; exact hl3, ?_⟩
            rw [HG.out (j + 1) (by rw [HZ.out]; exact hl3) hl3]
            rw [List.drop_eq_getElem_cons hl3] at e
            injection e with e _
            rw [e, ed]
          have hfin := textL_end (l.drop (j + 1)) acc hn39
          rw [← HDR.out, HT.out, HN.out] at hfin
          have HF := Lib.hid hfin
          clear hfin hn39
          have hcv := conv_ HO.out
          have hgd : (decide ((j : Int) + 1 < (s.size : Int)) = false) ∨ ∃ hlt2 : j + 1 < s.size, decide ((j : Int) + 1 < (s.size : Int)) = true ∧ (((s[j + 1]'hlt2).toNat : Int) == 39) = false := by
            rcases Nat.lt_or_ge (j + 1) s.size with h | h
            · refine .inr ⟨h, by simp; omega, ?_⟩
              rw [Bool.eq_false_iff]
              intro e
              rw [beq_iff_eq] at e
              exact h2 ⟨h, UInt8.toNat_inj.1 (by show (s[j + 1]'h).toNat = 39; omega)⟩
            · exact .inl (by simp; omega)
          clear h2
          by_cases h60 : 60 < N
          · have hd60 : decide (60 < (N : Int)) = true := by simp; omega
            rcases hgd with hg1 | ⟨hlt2, hg1, hg2⟩
            all_goals
              go_wp2_with fail
              refine (failA g base l ws 5 _ hA hbg).mono ?_
              rintro e w2 ⟨rfl, hb2, hst⟩
              go_wp2
              go_end0
              rw [HF.out, if_pos h60]
              exact ⟨rfl, Below.trans (Below.mono hb (by omega)) hb2, hst⟩
          · have hd60 : decide (60 < (N : Int)) = false := by simp; omega
            rcases hgd with hg1 | ⟨hlt2, hg1, hg2⟩
            all_goals
              go_wp2_with fail
              refine (putA g base (j + 1) l (l.drop (j + 1)) ws 3 0 acc _ _ hA rfl rfl (by have := HZ.out; omega) hl hw hbg).mono ?_
              rintro e w2 ⟨rfl, hb2, hst⟩
              go_wp2
              go_end0
              rw [HF.out, if_neg h60]
              exact ⟨rfl, Below.trans (Below.mono hb (by omega)) hb2, hst⟩
      · have hne : (((s[j]'hlt).toNat : Int) != 39) = true := by
          rw [HG.out j hlt hl2, bne_iff_ne]
          intro e
          exact hc (UInt8.toNat_inj.1 (by show l[j].toNat = 39; omega))
        have hT2 : textL (l.drop (j + 1)) (acc ++ [l[j]]) = textL (l.drop 1) [] := by
          rw [← HT.out, List.drop_eq_getElem_cons hl2, textL_other _ _ _ hc]
        have HT2 := Lib.hid hT2
        have HCJ := Lib.hid (HG.out j hlt hl2)
        clear hT2 hc
        go_wp2_with (at_builtin; refine wpList_append_own _ rfl (.tmp 28) (.tmp 35) 91 rfl w.heap.size 5 i0 (.int .u8 0) 1 1 Tryz.underlying91 hi hz0 hz1 hz2 rfl (by decide) _ _ _ rfl (HO.out.alloc _) ⟨wr.heap.size, 0, none⟩ 1 1 [.int .u8 (s[j]'hlt).toNat] rfl rfl ?c1 ?c2 ?c3 ?c4 ?c5 ?_)
        case c1 => exact one_at _ _ _
        case c2 => intro u hu; simp at hu; subst hu; rfl
        case c3 => unfold maxLen; omega
        case c4 => omega
        case c5 => have := hb.size; simp; omega
        intro v' w3 hown3 hgrow3 _
        go_wp2
        go_roundw
        case rel =>
          exact ⟨j + 1, acc ++ [l[j]], by go_num, by omega, by omega, by rw [List.length_append, HN.out]; simp; omega, by rw [List.length_append, HN.out, u8s_snoc, ← HCJ.out]; exact hown3, (hb.alloc hb.size _).grown hgrow3 (by have := hb.size; simp; omega) (fun k hk => (HO.out.lt k hk).1), HT2⟩
        case measure => simp [intOf]; omega
    · have hd : decide ((j : Int) < (s.size : Int)) = false := by simp; omega
      go_wp2_with fail
      refine (failA g base l ws 6 _ hA hbg).mono ?_
      rintro e w2 ⟨rfl, hb2, hst⟩
      go_wp2
      go_end0
      have e : textL (l.drop 1) [] = (6, [], []) := by
        rw [← HT.out, List.drop_of_length_le (by have := HZ.out; omega), textL_nil]
      rw [e]
      exact ⟨rfl, Below.trans (Below.mono hb (by omega)) hb2, hst⟩
end Go.Proofs.YtfnceamkephpjaaGreat.lx

/- Contract: word. -/
namespace Go.Proofs.YtfnceamkephpjaaGreat.lx
open Go.ChangeShapes Go.WideShapes Go.ChangeAt Go.RowKit Go.Proofs.YtfnceamkephpjaaGreat.lib
set_option linter.unusedVariables false

set_option maxRecDepth 100000 in
theorem blank_has (c : UInt8) : (⟨#[32, 9, 10]⟩ : ByteArray).data.toList.contains c = blankB c := by
  have h := all_bytes (fun c => (⟨#[32, 9, 10]⟩ : ByteArray).data.toList.contains c == blankB c) (by decide +kernel) c
  simpa using h
set_option maxRecDepth 100000 in
theorem letters_has (c : UInt8) : (⟨#[97, 98, 99, 100, 101, 102, 103, 104, 105, 106, 107, 108, 109, 110, 111, 112, 113, 114, 115, 116, 117, 118, 119, 120, 121, 122]⟩ : ByteArray).data.toList.contains c = letB c := by
  have h := all_bytes (fun c => (⟨#[97, 98, 99, 100, 101, 102, 103, 104, 105, 106, 107, 108, 109, 110, 111, 112, 113, 114, 115, 116, 117, 118, 119, 120, 121, 122]⟩ : ByteArray).data.toList.contains c == letB c) (by decide +kernel) c
  simpa using h
set_option maxRecDepth 100000 in
theorem names_has (c : UInt8) : (⟨#[97, 98, 99, 100, 101, 102, 103, 104, 105, 106, 107, 108, 109, 110, 111, 112, 113, 114, 115, 116, 117, 118, 119, 120, 121, 122, 48, 49, 50, 51, 52, 53, 54, 55, 56, 57, 95]⟩ : ByteArray).data.toList.contains c = nameB c := by
  have h := all_bytes (fun c => (⟨#[97, 98, 99, 100, 101, 102, 103, 104, 105, 106, 107, 108, 109, 110, 111, 112, 113, 114, 115, 116, 117, 118, 119, 120, 121, 122, 48, 49, 50, 51, 52, 53, 54, 55, 56, 57, 95]⟩ : ByteArray).data.toList.contains c == nameB c) (by decide +kernel) c
  simpa using h
set_option maxRecDepth 100000 in
theorem name_low (c : UInt8) (h : nameB c = true) : c.toNat < 128 := by
  have h2 := all_bytes (fun c => !nameB c || decide (c.toNat < 128)) (by decide +kernel) c
  rw [h] at h2
  simpa using h2
set_option maxRecDepth 100000 in
theorem signs_has (c : UInt8) : (⟨#[40, 41, 44, 46, 42, 61, 60, 62, 43, 45]⟩ : ByteArray).data.toList.contains c = signB c := rfl
set_option maxRecDepth 100000 in
theorem two_only (c : UInt8) (r : List UInt8) (h : twoB (c :: r) = true) : signB c = true := by
  cases r with
  | nil => cases h
  | cons d r => exact two_sign (a := c) (b := d) h

set_option maxRecDepth 100000 in
set_option maxHeartbeats 4000000 in
theorem word_ (g base : Nat) (c : UInt8) (r : List UInt8) (ws : List Wd) (w : World) (h : At w g base (c :: r) ws) (hl : (c :: r).length ≤ 100000) (hw : ws.length ≤ 100000) (hbg : base ≤ g) :
    Calls Tryz.prog 21 #[.pointer (some ⟨g, 0, none⟩)] w (StP g base ws (stepL (c :: r)) w) := by
  rw [stepL]
  have hgw := h.six.2.2
  obtain ⟨L, hL⟩ : ∃ L, L = c :: r := ⟨_, rfl⟩
  rw [← hL] at h hl ⊢
  obtain ⟨s, hs⟩ : ∃ s : ByteArray, s = ⟨L.toArray⟩ := ⟨_, rfl⟩
  have hz : s.size = L.length := by rw [hs]; exact size_mk L
  have hl1 : 1 ≤ L.length := by rw [hL]; simp
  have h0 : 0 < s.size := by omega
  have hc0 : s[0]'h0 = c := by subst hs; rw [get_mk L 0 _ (by omega)]; subst hL; rfl
  have hq : w.cell? ⟨g, 0, none⟩ = some (.string s) := by rw [hs]; exact h.six.1
  have HR := Lib.hid (show L.drop 1 = r by rw [hL]; rfl)
  have HS := Lib.hid hs
  have HZ := Lib.hid hz
  have HL := Lib.hid hL
  have HTW := Lib.hid (show twoB L = true → signB c = true by rw [hL]; exact two_only c r)
  clear hs hz hL
  by_cases h1 : blankB c = true
  · rw [if_pos h1]
    have H1 := Lib.hid h1
    clear h1
    obtain ⟨out, ha, hb⟩ := h
    have f0 := ha.frozen 0
    have hd1 : decide (1 ≤ (s.size : Int)) = true := by simp; omega
    go_enter Tryz.func21, Tryz.ntmps21
    go_wp2_with fail
    refine (is_ _ _ true (by rw [blank_has]; exact H1.out) _).mono ?_
    rintro e w1 ⟨rfl, rfl⟩
    go_wp2
    clear hq f0
    go_end0
    have e : ByteArray.extract s 1 s.size = ⟨r.toArray⟩ := by rw [HS.out, size_mk, drop_mk _ _ hl1, HR.out]
    rw [e]
    refine ⟨rfl, (Below.refl _ _).setCell (by exact hbg) _, out, ?_, own_far hb ha (by decide) 0 _⟩
    have := ha.set_ 0 (.string ⟨r.toArray⟩)
    simpa [wk] using this
  rw [if_neg h1]
  have H1 : Hid (blankB c = false) := Lib.hid (by simpa using h1)
  by_cases h2 : letB c = true
  · rw [if_pos h2]
    have H2 := Lib.hid h2
    clear h1 h2
    obtain ⟨n, hn⟩ : ∃ n, n = (L.takeWhile nameB).length := ⟨_, rfl⟩
    have hnl : n ≤ L.length := by rw [hn]; exact tw_bound _ _
    have HF : ∀ W : World, Calls Tryz.prog 39 #[.string s, .string ⟨#[97, 98, 99, 100, 101, 102, 103, 104, 105, 106, 107, 108, 109, 110, 111, 112, 113, 114, 115, 116, 117, 118, 119, 120, 121, 122, 48, 49, 50, 51, 52, 53, 54, 55, 56, 57, 95]⟩] W fun e w' => e = .returned (.int .i64 n) ∧ Below W.heap.size W w' := by
      rw [hn, HS.out]
      exact fun W => front_ L _ nameB names_has name_low hl W
    have HFF := Lib.hid HF
    have HX := Lib.hid (show ByteArray.extract s 0 n = ⟨(L.takeWhile nameB).toArray⟩ by rw [HS.out, take_mk, hn, (tw_take nameB L).1])
    have HD := Lib.hid (show L.drop n = L.dropWhile nameB by rw [hn]; exact (tw_take nameB L).2)
    have hn2 : n ≤ s.size := by have := HZ.out; omega
    have hd1 : decide ((n : Int) ≤ (s.size : Int)) = true := by simp; omega
    clear hn HF
    go_enter Tryz.func21, Tryz.ntmps21
    go_wp2_with fail
    refine (is_ _ _ false (by rw [blank_has]; exact H1.out) _).mono ?_
    rintro e w1 ⟨rfl, rfl⟩
    go_wp2_with fail
    refine (is_ _ _ true (by rw [letters_has]; exact H2.out) _).mono ?_
    rintro e w1 ⟨rfl, rfl⟩
    go_wp2_with fail
    refine (HFF.out _).mono ?_
    rintro e w1 ⟨rfl, hb1⟩
    have hA1 := h.ext hb1
    have hq1 : w1.cell? ⟨g, 0, none⟩ = some (.string s) := (hb1.cell (by exact hgw)).trans hq
    clear hq
    go_wp2_with fail
    refine (putA g base n L (L.dropWhile nameB) ws 1 0 (L.takeWhile nameB) _ _ hA1 HX.out HD.out hnl hl hw hbg).mono ?_
    rintro e w2 ⟨rfl, hb2, hst⟩
    go_wp2
    go_end0
    exact ⟨rfl, Below.trans (Below.mono hb1 (by omega)) hb2, hst⟩
  rw [if_neg h2]
  have H2 : Hid (letB c = false) := Lib.hid (by simpa using h2)
  by_cases h3 : digB c = true
  · rw [if_pos h3]
    have H3 := Lib.hid h3
    clear h1 h2 h3
    go_enter Tryz.func21, Tryz.ntmps21
    go_wp2_with fail
    refine (is_ _ _ false (by rw [blank_has]; exact H1.out) _).mono ?_
    rintro e w1 ⟨rfl, rfl⟩
    go_wp2_with fail
    refine (is_ _ _ false (by rw [letters_has]; exact H2.out) _).mono ?_
    rintro e w1 ⟨rfl, rfl⟩
    go_wp2_with fail
    refine (is_ _ _ true (by rw [digits_has]; exact H3.out) _).mono ?_
    rintro e w1 ⟨rfl, rfl⟩
    go_wp2_with fail
    refine (number_ g base L ws _ h hl hw hbg).mono ?_
    rintro e w2 ⟨rfl, hb2, hst⟩
    go_wp2
    go_end0
    exact ⟨rfl, hb2, hst⟩
  rw [if_neg h3]
  have H3 : Hid (digB c = false) := Lib.hid (by simpa using h3)
  by_cases h4 : c = 39
  · rw [if_pos h4]
    have he : ((c.toNat : Int) == 39) = true := by rw [h4]; decide
    clear h1 h2 h3 h4
    go_enter Tryz.func21, Tryz.ntmps21
    go_wp2_with fail
    refine (is_ _ _ false (by rw [blank_has]; exact H1.out) _).mono ?_
    rintro e w1 ⟨rfl, rfl⟩
    go_wp2_with fail
    refine (is_ _ _ false (by rw [letters_has]; exact H2.out) _).mono ?_
    rintro e w1 ⟨rfl, rfl⟩
    go_wp2_with fail
    refine (is_ _ _ false (by rw [digits_has]; exact H3.out) _).mono ?_
    rintro e w1 ⟨rfl, rfl⟩
    go_wp2_with fail
    refine (text_ g base L ws _ h hl hl1 hw hbg).mono ?_
    rw [HR.out]
    rintro e w2 ⟨rfl, hb2, hst⟩
    go_wp2
    go_end0
    exact ⟨rfl, hb2, hst⟩
  rw [if_neg h4]
  have he : ((c.toNat : Int) == 39) = false := by
    rw [Bool.eq_false_iff]
    intro e
    rw [beq_iff_eq] at e
    exact h4 (UInt8.toNat_inj.1 (by show c.toNat = 39; omega))
  by_cases h6 : signB c = true
  · have e : (if twoB L = true then St.put ⟨4, 0, L.take 2⟩ (L.drop 2) else if signB c = true then St.put ⟨4, 0, [c]⟩ r else St.err 6) = signSt L := by
      unfold signSt
      cases ht : twoB L with
      | true => rfl
      | false =>
        rw [if_neg (by decide), if_pos h6]
        show St.put _ _ = St.put _ _
        have e1 : L.take (two1 false) = [c] := by rw [HL.out]; rfl
        have e2 : L.drop (two1 false) = r := HR.out
        rw [e1, e2]
    rw [e]
    have H6 := Lib.hid h6
    clear h1 h2 h3 h6 e h4
    go_enter Tryz.func21, Tryz.ntmps21
    go_wp2_with fail
    refine (is_ _ _ false (by rw [blank_has]; exact H1.out) _).mono ?_
    rintro e w1 ⟨rfl, rfl⟩
    go_wp2_with fail
    refine (is_ _ _ false (by rw [letters_has]; exact H2.out) _).mono ?_
    rintro e w1 ⟨rfl, rfl⟩
    go_wp2_with fail
    refine (is_ _ _ false (by rw [digits_has]; exact H3.out) _).mono ?_
    rintro e w1 ⟨rfl, rfl⟩
    go_wp2_with fail
    refine (is_ _ _ true (by rw [signs_has]; exact H6.out) _).mono ?_
    rintro e w1 ⟨rfl, rfl⟩
    go_wp2_with fail
    refine (sign_ g base L ws _ h hl hl1 hw hbg).mono ?_
    rintro e w2 ⟨rfl, hb2, hst⟩
    go_wp2
    go_end0
    exact ⟨rfl, hb2, hst⟩
  · rw [if_neg (fun ht => h6 (HTW.out ht)), if_neg h6]
    have H6 : Hid (signB c = false) := Lib.hid (by simpa using h6)
    clear h1 h2 h3 h6 h4
    go_enter Tryz.func21, Tryz.ntmps21
    go_wp2_with fail
    refine (is_ _ _ false (by rw [blank_has]; exact H1.out) _).mono ?_
    rintro e w1 ⟨rfl, rfl⟩
    go_wp2_with fail
    refine (is_ _ _ false (by rw [letters_has]; exact H2.out) _).mono ?_
    rintro e w1 ⟨rfl, rfl⟩
    go_wp2_with fail
    refine (is_ _ _ false (by rw [digits_has]; exact H3.out) _).mono ?_
    rintro e w1 ⟨rfl, rfl⟩
    go_wp2_with fail
    refine (is_ _ _ false (by rw [signs_has]; exact H6.out) _).mono ?_
    rintro e w1 ⟨rfl, rfl⟩
    go_wp2_with fail
    refine (failA g base L ws 6 _ h hbg).mono ?_
    rintro e w2 ⟨rfl, hb2, hst⟩
    go_wp2
    go_end0
    exact ⟨rfl, hb2, hst⟩
end Go.Proofs.YtfnceamkephpjaaGreat.lx
