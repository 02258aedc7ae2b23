/- Contract: text. -/
import Derived.Test.YtfmpnanfjomcbaaK5
import Derived.Laws.BytesString
import Derived.Laws.Cells
namespace Go.Proofs.Ytfmpnanfjomcbaa.lx
open Go.ChangeShapes Go.WideShapes Go.ChangeAt Go.RowKit Go.Proofs.Ytfmpnanfjomcbaa.lib
set_option linter.unusedVariables false

def u8s (l : List UInt8) : List Value := (l.map fun c => (c.toNat : Int)).map (Value.int .u8)
theorem u8s_len (l : List UInt8) : (u8s l).length = l.length := by simp [u8s]
theorem u8s_snoc (l : List UInt8) (c : UInt8) : u8s (l ++ [c]) = u8s l ++ [.int .u8 c.toNat] := by simp [u8s]
theorem fold_push : ∀ (l : List UInt8) (s : ByteArray), (l.map fun c => (c.toNat : Int)).foldl (fun r n => r.push (UInt8.ofNat n.toNat)) s = ⟨(s.data.toList ++ l).toArray⟩
  | [], s => by simp
  | c :: l, s => by
    simp only [List.map_cons, List.foldl_cons]
    rw [fold_push l]
    apply ByteArray.ext
    simp
theorem own_slice {w : World} {base size n : Nat} {e : TypeId} {v : Value} {xs : List Value} (h : w.ownsRow base e size v n xs) : ∃ A c, v = .slice A n c := by
  rcases h.2 with ⟨rfl, rfl⟩ | ⟨g, cap, cur, rfl, _⟩
  · exact ⟨_, _, rfl⟩
  · exact ⟨_, _, rfl⟩
theorem conv_ {w : World} {base n c : Nat} {A : Option Addr} {l : List UInt8} (h : w.ownsRow base 5 1 (.slice A n c) n (u8s l)) :
    (convert 42 9 (.slice A n c)).run Try.prog w = .ok (.string ⟨l.toArray⟩) w := by
  rw [run_convert_bytes_string w 42 9 5 A n c Try.underlying42 Try.underlying5 Try.underlying9]
  have hl : l.length = n := by have := h.1; rw [u8s_len] at this; omega
  rcases h.2 with ⟨e, rfl⟩ | ⟨g, cap, cur, e, _⟩
  · injection e with e1
    subst e1
    have : l = [] := List.eq_nil_of_length_eq_zero hl
    subst this
    rfl
  · injection e with e1 _ e3
    subst e1 e3
    have hc := h.cells (g := g) rfl
    have := run_loadCells_list (P := Try.prog) (w := w) ⟨g, 0, none⟩ (u8s l) hc
    rw [u8s_len, hl] at this
    rw [run_bytesToString w _ n _ (l.map fun c => (c.toNat : Int)) this, fold_push]
    rfl
theorem one_at (w : World) (x : Value) (t : TypeId) : ∀ (j : Nat) (u : Value), [x][j]? = some u → (w.alloc (.cells #[x] t)).cell? ((⟨w.heap.size, 0, none⟩ : Addr).add j) = some u := by
  intro j u hj
  match j, hj with
  | 0, hj => simp at hj; subst hj; simp [Addr.add]
theorem textL_nil (acc : List UInt8) : textL [] acc = (6, [], []) := by unfold textL; rfl
theorem textL_other (c : UInt8) (r acc : List UInt8) (h : c ≠ 39) : textL (c :: r) acc = textL r (acc ++ [c]) := by
  cases r with
  | nil => unfold textL; rw [if_neg h]
  | cons d r => conv => lhs; unfold textL
                rw [if_neg h]
theorem textL_twice (r acc : List UInt8) : textL (39 :: 39 :: r) acc = textL r (acc ++ [39]) := by
  conv => lhs; unfold textL
  rw [if_pos rfl, if_pos rfl]
theorem textL_end (r acc : List UInt8) (h : ∀ d q, r = d :: q → d ≠ 39) : textL (39 :: r) acc = if 60 < acc.length then (5, [], []) else (0, acc, r) := by
  cases r with
  | nil => unfold textL; rw [if_pos rfl]
  | cons d r => conv => lhs; unfold textL
                rw [if_pos rfl, if_neg (h d r rfl)]

set_option maxRecDepth 100000 in
set_option maxHeartbeats 4000000 in
theorem text_ (g base : Nat) (l : List UInt8) (ws : List Wd) (w : World) (h : At w g base l ws) (hl : l.length ≤ 100000) (hl1 : 1 ≤ l.length) (hw : ws.length ≤ 100000) (hbg : base ≤ g) :
    Calls Try.prog 28 #[.pointer (some ⟨g, 0, none⟩)] w (StP g base ws (textSt (textL (l.drop 1) [])) w) := by
  have hgw := h.six.2.2
  obtain ⟨s, hs⟩ : ∃ s : ByteArray, s = ⟨l.toArray⟩ := ⟨_, rfl⟩
  have hz : s.size = l.length := by rw [hs]; exact size_mk l
  have hg : ∀ (i : Nat) (h : i < s.size) (h2 : i < l.length), s[i]'h = l[i] := by subst hs; exact get_mk l
  have HC : ∀ w', At w' g base l ws → w'.cell? ⟨g, 0, none⟩ = some (.string s) := fun w' h => by rw [hs]; exact h.six.1
  have HZ := Lib.hid hz
  have HG := Lib.hid hg
  have HCC := Lib.hid HC
  have hsb : s.size ≤ 100000 := by omega
  have hsb1 : 1 ≤ s.size := by omega
  clear hz hg HC hs
  obtain ⟨i0, hi, hz0, hz1, hz2⟩ := info_parts (P := Try.prog) (e := 5) (z := .int .u8 0) (size := 1) (bytes := 1) (by kernel_rfl)
  go_enter Try.func28, Try.ntmps28
  go_wp2
  go_loopw [2, 3] (fun out k wr => ∃ (j : Nat) (acc : List UInt8), k = .int .i64 j ∧ 1 ≤ j ∧ j ≤ s.size ∧ acc.length ≤ j ∧ wr.ownsRow w.heap.size 5 1 out acc.length (u8s acc) ∧ Below w.heap.size w wr ∧ Hid (textL (l.drop j) acc = textL (l.drop 1) [])) (fun _ k _ => s.size - (intOf k).toNat)
  case atStart => exact ⟨1, [], rfl, by omega, by omega, by simp, World.ownsRow_nil _ _ _ _, Below.refl _ _, Lib.hid rfl⟩
  case round =>
    obtain ⟨j, acc, rfl, hj1, hj2, haj, hown, hb, HT⟩ := hrel
    obtain ⟨N, hN⟩ : ∃ N, acc.length = N := ⟨_, rfl⟩
    rw [hN] at hown haj
    have HN := Lib.hid hN
    clear hN
    have hA := h.ext hb
    have q := HCC.out wr hA
    obtain ⟨A, c, rfl⟩ := own_slice hown
    have HO := Lib.hid hown
    clear hown
    rcases Nat.lt_or_ge j s.size with hlt | hge
    · have hd : decide ((j : Int) < (s.size : Int)) = true := by simp; omega
      have hl2 : j < l.length := by rw [← HZ.out]; exact hlt
      by_cases hc : l[j] = 39
      · have hne : (((s[j]'hlt).toNat : Int) != 39) = false := by rw [HG.out j hlt hl2, hc]; decide
        have hdrop : l.drop j = 39 :: l.drop (j + 1) := by rw [List.drop_eq_getElem_cons hl2, hc]
        have HDR := Lib.hid hdrop
        clear hdrop hc
        by_cases h2 : ∃ hlt2 : j + 1 < s.size, (s[j + 1]'hlt2) = 39
        · obtain ⟨hlt2, hc2⟩ := h2
          have hd2 : decide ((j : Int) + 1 < (s.size : Int)) = true := by simp; omega
          have hne2 : (((s[j + 1]'hlt2).toNat : Int) == 39) = true := by rw [hc2]; decide
          have hl3 : j + 1 < l.length := by rw [← HZ.out]; exact hlt2
          have hT2 : textL (l.drop (j + 2)) (acc ++ [39]) = textL (l.drop 1) [] := by
            rw [← HT.out, HDR.out, List.drop_eq_getElem_cons hl3, ← HG.out (j + 1) hlt2 hl3, hc2, textL_twice]
          have HT2 := Lib.hid hT2
          clear hT2 hc2
          go_wp2_with (at_builtin; refine wpList_append_own _ rfl (.tmp 56) (.tmp 57) 42 rfl w.heap.size 5 i0 (.int .u8 0) 1 1 Try.underlying42 hi hz0 hz1 hz2 rfl (by decide) _ _ _ rfl (HO.out.alloc _) ⟨wr.heap.size, 0, none⟩ 1 1 [.int .u8 39] rfl rfl ?c1 ?c2 ?c3 ?c4 ?c5 ?_)
          case c1 => exact one_at _ _ _
          case c2 => intro u hu; simp at hu; subst hu; rfl
          case c3 => unfold maxLen; omega
          case c4 => omega
          case c5 => have := hb.size; simp; omega
          intro v' w3 hown3 hgrow3 _
          go_wp2
          go_roundw
          case rel =>
            exact ⟨j + 2, acc ++ [39], by go_num, by omega, by omega, by rw [List.length_append, HN.out]; simp; omega, by rw [List.length_append, HN.out, u8s_snoc]; exact hown3, (hb.alloc hb.size _).grown hgrow3 (by have := hb.size; simp; omega) (fun k hk => (HO.out.lt k hk).1), HT2⟩
          case measure => simp [intOf]; omega
        · have hn39 : ∀ d q, l.drop (j + 1) = d :: q → d ≠ 39 := fun d q e ed => by
            have hl3 : j + 1 < l.length := by
              rcases Nat.lt_or_ge (j + 1) l.length with h | h
              · exact h
              · rw [List.drop_of_length_le h] at e; cases e
            refine h2 ⟨by rw [HZ.out]; exact hl3, ?_⟩
            rw [HG.out (j + 1) (by rw [HZ.out]; exact hl3) hl3]
            rw [List.drop_eq_getElem_cons hl3] at e
            injection e with e _
            rw [e, ed]
          have hfin := textL_end (l.drop (j + 1)) acc hn39
          rw [← HDR.out, HT.out, HN.out] at hfin
          have HF := Lib.hid hfin
          clear hfin hn39
          have hcv := conv_ HO.out
          have hgd : (decide ((j : Int) + 1 < (s.size : Int)) = false) ∨ ∃ hlt2 : j + 1 < s.size, decide ((j : Int) + 1 < (s.size : Int)) = true ∧ (((s[j + 1]'hlt2).toNat : Int) == 39) = false := by
            rcases Nat.lt_or_ge (j + 1) s.size with h | h
            · refine .inr ⟨h, by simp; omega, ?_⟩
              rw [Bool.eq_false_iff]
              intro e
              rw [beq_iff_eq] at e
              exact h2 ⟨h, UInt8.toNat_inj.1 (by show (s[j + 1]'h).toNat = 39; omega)⟩
            · exact .inl (by simp; omega)
          clear h2
          by_cases h60 : 60 < N
          · have hd60 : decide (60 < (N : Int)) = true := by simp; omega
            rcases hgd with hg1 | ⟨hlt2, hg1, hg2⟩
            all_goals
              go_wp2_with fail
              refine (failA g base l ws 5 _ hA hbg).mono ?_
              rintro e w2 ⟨rfl, hb2, hst⟩
              go_wp2
              go_end0
              rw [HF.out, if_pos h60]
              exact ⟨rfl, Below.trans (Below.mono hb (by omega)) hb2, hst⟩
          · have hd60 : decide (60 < (N : Int)) = false := by simp; omega
            rcases hgd with hg1 | ⟨hlt2, hg1, hg2⟩
            all_goals
              go_wp2_with fail
              refine (putA g base (j + 1) l (l.drop (j + 1)) ws 3 0 acc _ _ hA rfl rfl (by have := HZ.out; omega) hl hw hbg).mono ?_
              rintro e w2 ⟨rfl, hb2, hst⟩
              go_wp2
              go_end0
              rw [HF.out, if_neg h60]
              exact ⟨rfl, Below.trans (Below.mono hb (by omega)) hb2, hst⟩
      · have hne : (((s[j]'hlt).toNat : Int) != 39) = true := by
          rw [HG.out j hlt hl2, bne_iff_ne]
          intro e
          exact hc (UInt8.toNat_inj.1 (by show l[j].toNat = 39; omega))
        have hT2 : textL (l.drop (j + 1)) (acc ++ [l[j]]) = textL (l.drop 1) [] := by
          rw [← HT.out, List.drop_eq_getElem_cons hl2, textL_other _ _ _ hc]
        have HT2 := Lib.hid hT2
        have HCJ := Lib.hid (HG.out j hlt hl2)
        clear hT2 hc
        go_wp2_with (at_builtin; refine wpList_append_own _ rfl (.tmp 28) (.tmp 35) 42 rfl w.heap.size 5 i0 (.int .u8 0) 1 1 Try.underlying42 hi hz0 hz1 hz2 rfl (by decide) _ _ _ rfl (HO.out.alloc _) ⟨wr.heap.size, 0, none⟩ 1 1 [.int .u8 (s[j]'hlt).toNat] rfl rfl ?c1 ?c2 ?c3 ?c4 ?c5 ?_)
        case c1 => exact one_at _ _ _
        case c2 => intro u hu; simp at hu; subst hu; rfl
        case c3 => unfold maxLen; omega
        case c4 => omega
        case c5 => have := hb.size; simp; omega
        intro v' w3 hown3 hgrow3 _
        go_wp2
        go_roundw
        case rel =>
          exact ⟨j + 1, acc ++ [l[j]], by go_num, by omega, by omega, by rw [List.length_append, HN.out]; simp; omega, by rw [List.length_append, HN.out, u8s_snoc, ← HCJ.out]; exact hown3, (hb.alloc hb.size _).grown hgrow3 (by have := hb.size; simp; omega) (fun k hk => (HO.out.lt k hk).1), HT2⟩
        case measure => simp [intOf]; omega
    · have hd : decide ((j : Int) < (s.size : Int)) = false := by simp; omega
      go_wp2_with fail
      refine (failA g base l ws 6 _ hA hbg).mono ?_
      rintro e w2 ⟨rfl, hb2, hst⟩
      go_wp2
      go_end0
      have e : textL (l.drop 1) [] = (6, [], []) := by
        rw [← HT.out, List.drop_of_length_le (by have := HZ.out; omega), textL_nil]
      rw [e]
      exact ⟨rfl, Below.trans (Below.mono hb (by omega)) hb2, hst⟩
end Go.Proofs.Ytfmpnanfjomcbaa.lx
