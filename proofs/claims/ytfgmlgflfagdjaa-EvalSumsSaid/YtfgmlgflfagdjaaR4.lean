/- Contract of the document's lex: Words. -/
import Derived.Test.YtfgmlgflfagdjaaR3
namespace Go.Proofs.Ytfgmlgflfagdjaa.lx
open Go.ChangeShapes Go.WideShapes Go.ChangeAt Go.RowKit Go.Proofs.Ytfgmlgflfagdjaa.lib
set_option linter.unusedVariables false

def WordsR (p : Int × List Wd) (w : World) (r : Ending) (w' : World) : Prop := ∃ v, r = .returned (.tuple #[v, .int .i64 p.1]) ∧ w'.ownsRow w.heap.size 74 3 v p.2.length (cellsW p.2) ∧ Below w.heap.size w w'
theorem blank_three (c : UInt8) : blankB c = ((c == 32) || (c == 9) || (c == 10)) := rfl
theorem byte_eq (c d : UInt8) (p : Bool) (h : (c == d) = p) : ((c.toNat : Int) == (d.toNat : Int)) = p := by
  rw [← h, Bool.eq_iff_iff, beq_iff_eq, beq_iff_eq]
  exact ⟨fun e => UInt8.toNat_inj.1 (by omega), fun e => by rw [e]⟩

set_option maxRecDepth 100000 in
set_option maxHeartbeats 8000000 in
theorem rwords_ok (s : ByteArray) (l : List UInt8) (hs : Str s l) (hl : l.length ≤ 600) (w : World) :
    Calls Try.prog 31 #[.string s] w (WordsR (fin (lexL l [])) w) := by
  obtain ⟨p, hp⟩ : ∃ p, fin (lexL l []) = p := ⟨_, rfl⟩
  rw [hp]
  have HP := Lib.hid hp
  have hz := hs.size
  have HS := Lib.hid hs
  have HZ := Lib.hid hz
  have hsb : s.size ≤ 600 := by omega
  have hd6 : decide (600 < (s.size : Int)) = false := by simp; omega
  clear hp hs hz
  obtain ⟨i0, hi, hz0, hz1, hz2⟩ := info_parts (P := Try.prog) (e := 74) (z := .agg #[.int .i64 0, .int .i64 0, .string ⟨#[]⟩]) (size := 3) (bytes := 32) (by kernel_rfl)
  go_enter Try.func31, Try.ntmps31
  go_wp2_with fail
  go_loopw [4, 5, 6, 7, 8] (fun v i _ _ _ wr => ∃ (m : Nat) (ws : List Wd), i = .int .i64 m ∧ m ≤ s.size ∧ ws.length ≤ m ∧ wr.ownsRow w.heap.size 74 3 v ws.length (cellsW ws) ∧ Below w.heap.size w wr ∧ Hid (fin (lexL (l.drop m) ws) = p)) (fun _ i _ _ _ _ => s.size - (intOf i).toNat)
  case atStart => exact ⟨0, [], rfl, Nat.zero_le _, Nat.le_refl _, World.ownsRow_nil _ _ _ _, Below.refl _ _, Lib.hid HP.out⟩
  case round =>
    obtain ⟨m, ws, rfl, hm, hwm, hown, hb, HF⟩ := hrel
    obtain ⟨N, hN⟩ : ∃ N, ws.length = N := ⟨_, rfl⟩
    rw [hN] at hown hwm
    have HN := Lib.hid hN
    clear hN
    obtain ⟨A, c0, rfl⟩ := own_slice hown
    have HO := Lib.hid hown
    clear hown
    rcases Nat.lt_or_ge m s.size with hlt | hge
    · have hd : decide (m < s.size) = true := by simp; omega
      have hl2 : m < l.length := by rw [← HZ.out]; exact hlt
      obtain ⟨c, hc⟩ : ∃ c, s[m]'hlt = c := ⟨_, rfl⟩
      have HC : Hid (l[m] = c) := Lib.hid (by rw [← HS.out.get m hlt hl2, hc])
      obtain ⟨b1, h1⟩ : ∃ b, (c == 32) = b := ⟨_, rfl⟩
      obtain ⟨b2, h2⟩ : ∃ b, (c == 9) = b := ⟨_, rfl⟩
      obtain ⟨b3, h3⟩ : ∃ b, (c == 10) = b := ⟨_, rfl⟩
      have hbl : blankB c = (b1 || b2 || b3) := by rw [blank_three, h1, h2, h3]
      have e1 : ((c.toNat : Int) == 32) = b1 := byte_eq c 32 b1 h1
      have e2 : ((c.toNat : Int) == 9) = b2 := byte_eq c 9 b2 h2
      have e3 : ((c.toNat : Int) == 10) = b3 := byte_eq c 10 b3 h3
      clear h1 h2 h3
      by_cases hblank : (b1 || b2 || b3) = true
      · have hst : stepL (l.drop m) = .skip (l.drop (m + 1)) := by
          rw [List.drop_eq_getElem_cons hl2, HC.out]
          exact step_blank c _ (by rw [hbl]; exact hblank)
        have HF2 := Lib.hid (show fin (lexL (l.drop (m + 1)) ws) = p by rw [← HF.out, lexL_skip ws hst])
        have hcs : b1 = true ∨ (b1 = false ∧ b2 = true) ∨ (b1 = false ∧ b2 = false ∧ b3 = true) := by
          clear e1 e2 e3 hbl
          cases b1 <;> cases b2 <;> cases b3 <;> simp at hblank ⊢
        clear hblank hst hbl
        rcases hcs with rfl | ⟨rfl, rfl⟩ | ⟨rfl, rfl, rfl⟩
        all_goals
          go_wp2_with fail
          go_roundw
          case rel => exact ⟨m + 1, ws, by go_num, by omega, by rw [HN.out]; omega, by rw [HN.out]; exact HO.out, hb, HF2⟩
          case measure => simp [intOf]; omega
      · obtain ⟨⟨rfl, rfl⟩, rfl⟩ : (b1 = false ∧ b2 = false) ∧ b3 = false := by simpa using hblank
        have HNB : Hid (blankB l[m] = false) := Lib.hid (by rw [HC.out, hbl]; rfl)
        clear hblank hbl
        go_wp2_with fail
        refine (next_ s l HS.out m hl2 (by omega) HNB.out _).mono ?_
        rintro e w2 hn
        have hdne : l.drop m ≠ [] := by
          intro e
          have := congrArg List.length e
          rw [List.length_drop] at this
          simp at this
          omega
        have hsh := St.shorter hdne
        cases hst : stepL (l.drop m) with
        | skip q =>
          rw [hst] at hn
          exact absurd hn (fun h => h)
        | err er =>
          rw [hst] at hn
          obtain ⟨hb2, a, b, k, t, rfl⟩ := hn
          have hne := stepL_ne hst
          have hpe : p = (er, []) := by
            rw [← HF.out, lexL_err ws hdne hst]
            unfold fin
            rw [if_neg hne]
          have HPE := Lib.hid hpe
          have he : (er != 0) = true := by simpa using hne
          clear hst hsh hdne hpe hne
          go_wp2
          go_ret2
          rw [HPE.out]
          exact ⟨.slice none 0 0, rfl, World.ownsRow_nil _ _ _ _, (Below.trans hb (Below.mono hb2 hb.size)).alloc (Nat.le_trans hb.size hb2.size) _⟩
        | put x r =>
          rw [hst] at hn hsh
          obtain ⟨hb2, k, rfl, hkr, hkl⟩ := hn
          have hsh : r.length < (l.drop m).length := hsh
          rw [← hkr, List.length_drop, List.length_drop] at hsh
          have hks : k ≤ s.size := by rw [HZ.out]; exact hkl
          have hmk : m < k := by omega
          have HF2 := Lib.hid (show fin (lexL (l.drop k) (ws ++ [x])) = p by rw [← HF.out, lexL_put ws hst, hkr])
          have hb3 : Below w.heap.size w w2 := Below.trans hb (Below.mono hb2 hb.size)
          have HO2 := Lib.hid (own_ext HO.out hb2)
          have hz2' := hb3.size
          clear hst hsh hdne hkr
          obtain ⟨xk, xn, xs⟩ := x
          go_wp2_with (at_builtin; refine wpList_append_own _ rfl (.tmp 44) (.tmp 46) 67 rfl w.heap.size 74 i0 _ 3 32 Try.underlying67 hi hz0 hz1 hz2 rfl (by decide) _ _ _ rfl ((HO2.out.alloc _).alloc _) ⟨w2.heap.size + 1, 0, none⟩ 1 1 [.int .i64 xk, .int .i64 xn, .string ⟨xs.toArray⟩] rfl rfl ?c1 ?c2 ?c3 ?c4 ?c5 ?_)
          case c1 => exact three_at (blk_new_at _ _ _ _ (by simp))
          case c2 => intro u hu; simp at hu; rcases hu with rfl | rfl | rfl <;> rfl
          case c3 => unfold maxLen; omega
          case c4 => omega
          case c5 => simp; omega
          intro v' w3 hown3 hgrow3 _
          have HO3 := Lib.hid hown3
          have hb4 : Below w.heap.size w w3 := ((hb3.alloc hb3.size _).alloc (by simp; omega) _).grown hgrow3 (by simp; omega) (fun k hk => (HO2.out.lt k hk).1)
          clear hown3 hgrow3
          go_wp2
          go_roundw
          case rel =>
            exact ⟨k, ws ++ [⟨xk, xn, xs⟩], rfl, hks, by rw [List.length_append, HN.out]; simp; omega, by rw [List.length_append, HN.out, cellsW_snoc]; exact HO3.out, hb4, HF2⟩
          case measure => simp [intOf]; omega
    · have hd : decide (m < s.size) = false := by simp; omega
      have hb' := hb.size
      go_wp2_with (at_builtin; refine wpList_append_own _ rfl (.tmp 49) (.tmp 51) 67 rfl w.heap.size 74 i0 _ 3 32 Try.underlying67 hi hz0 hz1 hz2 rfl (by decide) _ _ _ rfl (HO.out.alloc _) ⟨wr.heap.size, 0, none⟩ 1 1 [.int .i64 0, .int .i64 0, .string ⟨#[]⟩] rfl rfl ?c1 ?c2 ?c3 ?c4 ?c5 ?_)
      case c1 => exact three_at (Blk.new _ _ _)
      case c2 => intro u hu; simp at hu; rcases hu with rfl | rfl | rfl <;> rfl
      case c3 => unfold maxLen; omega
      case c4 => omega
      case c5 => simp; omega
      intro v' w3 hown3 hgrow3 _
      have HO3 := Lib.hid hown3
      have hb4 : Below w.heap.size w w3 := (hb.alloc hb.size _).grown hgrow3 (by simp; omega) (fun k hk => (HO.out.lt k hk).1)
      clear hown3 hgrow3
      go_wp2
      go_ret2
      have e : p = (0, ws ++ [endW]) := by
        rw [← HF.out, List.drop_of_length_le (by have := HZ.out; omega), lexL_nil]
        rfl
      subst e
      refine ⟨v', rfl, ?_, hb4⟩
      show World.ownsRow w3 w.heap.size _ 3 v' (ws ++ [endW]).length (cellsW (ws ++ [endW]))
      rw [cellsW_snoc, List.length_append, HN.out]
      exact HO3.out
theorem rwords_ (s : ByteArray) (l : List UInt8) (hs : Str s l) (hl : l.length ≤ 100000) (w : World) :
    Calls Try.prog 31 #[.string s] w (WordsR (wordsL l) w) := by
  unfold wordsL
  by_cases h : 600 < l.length
  · rw [if_pos h]
    have hz := hs.size
    have hsb : s.size ≤ 100000 := by omega
    have hd6 : decide (600 < (s.size : Int)) = true := by simp; omega
    clear hz hs
    go_enter Try.func31, Try.ntmps31
    go_wp2
    go_ret2
    exact ⟨.slice none 0 0, rfl, World.ownsRow_nil _ _ _ _, Below.refl _ _⟩
  · rw [if_neg h]
    exact rwords_ok s l hs (by omega) w
end Go.Proofs.Ytfgmlgflfagdjaa.lx
