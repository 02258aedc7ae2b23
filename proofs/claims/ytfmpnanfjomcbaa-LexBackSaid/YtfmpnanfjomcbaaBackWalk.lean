/- The walk of LexBack. -/
import Derived.Test.YtfmpnanfjomcbaaNumsWalk
import Derived.Test.YtfmpnanfjomcbaaTextsWalk
namespace Go.Proofs.Ytfmpnanfjomcbaa.lx
open Go.ChangeShapes Go.WideShapes Go.ChangeAt Go.RowKit Go.Proofs.Ytfmpnanfjomcbaa.lib
set_option linter.unusedVariables false

theorem spread_append : ∀ (a b : List (List UInt8 × Wd)), spread (a ++ b) = spread a ++ spread b
  | [], b => rfl
  | (g, w) :: a, b => by
    show g ++ (rend w ++ spread (a ++ b)) = g ++ (rend w ++ spread a) ++ spread b
    rw [spread_append a b]
    simp
theorem spread_one (g : List UInt8) (w : Wd) : spread [(g, w)] = g ++ rend w := by
  show g ++ (rend w ++ []) = _
  rw [List.append_nil]
theorem dw_le (p : UInt8 → Bool) (l : List UInt8) : (l.takeWhile p).length ≤ l.length := tw_bound p l
theorem stepL_small {l r : List UInt8} {w : Wd} (h : stepL l = .put w r) : w.s.length ≤ l.length + 60 := by
  cases l with
  | nil => cases h
  | cons c l =>
    rw [stepL] at h
    by_cases h1 : blankB c = true
    · rw [if_pos h1] at h; cases h
    rw [if_neg h1] at h
    by_cases h2 : letB c = true
    · rw [if_pos h2] at h
      injection h with h _
      subst h
      have := tw_bound nameB (c :: l)
      show ((c :: l).takeWhile nameB).length ≤ _
      omega
    rw [if_neg h2] at h
    by_cases h3 : digB c = true
    · rw [if_pos h3] at h
      unfold numSt at h
      split at h
      · injection h with h _; subst h; exact Nat.zero_le _
      · cases h
    rw [if_neg h3] at h
    by_cases h4 : c = 39
    · rw [if_pos h4] at h
      unfold textSt at h
      split at h
      · rename_i h0
        injection h with h _
        subst h
        have := textL_short l [] h0
        show (textL l []).2.1.length ≤ _
        omega
      · cases h
    rw [if_neg h4] at h
    by_cases h5 : twoB (c :: l) = true
    · rw [if_pos h5] at h
      injection h with h _
      subst h
      show ((c :: l).take 2).length ≤ _
      have := List.length_take_le 2 (c :: l)
      omega
    rw [if_neg h5] at h
    by_cases h6 : signB c = true
    · rw [if_pos h6] at h
      injection h with h _
      subst h
      show 1 ≤ _
      omega
    · rw [if_neg h6] at h; cases h
theorem goL_small : ∀ (f : Nat) (l : List UInt8) (out : List Wd) (B : Nat), l.length + 60 ≤ B → (∀ w ∈ out, w.s.length ≤ B) → ∀ w ∈ (goL f l out).2, w.s.length ≤ B
  | 0, [], out, B, _, ho => ho
  | f + 1, [], out, B, _, ho => ho
  | 0, c :: l, out, B, _, _ => fun w hw => by cases hw
  | f + 1, c :: l, out, B, hB, ho => by
    have hl := stepL_lt c l
    unfold goL
    cases hs : stepL (c :: l) with
    | skip r =>
      rw [hs] at hl
      simp only [St.lt] at hl
      exact goL_small f r out B (by omega) ho
    | put w r =>
      rw [hs] at hl
      simp only [St.lt] at hl
      refine goL_small f r _ B (by omega) (fun x hx => ?_)
      rcases List.mem_append.1 hx with hx | hx
      · exact ho x hx
      · rw [List.mem_singleton.1 hx]
        have := stepL_small hs
        omega
    | err e => intro w hw; cases hw
theorem goL_count' : ∀ (f : Nat) (l : List UInt8) (out : List Wd), (goL f l out).2.length ≤ out.length + l.length
  | 0, [], out => by show out.length ≤ _; simp
  | f + 1, [], out => by show out.length ≤ _; simp
  | 0, c :: l, out => by show 0 ≤ _; omega
  | f + 1, c :: l, out => by
    have hl := stepL_lt c l
    unfold goL
    cases hs : stepL (c :: l) with
    | skip r =>
      rw [hs] at hl
      have := goL_count' f r out
      simp only [St.lt, List.length_cons] at *
      omega
    | put w r =>
      rw [hs] at hl
      have := goL_count' f r (out ++ [w])
      simp only [St.lt, List.length_cons, List.length_append, List.length_nil] at *
      omega
    | err e => show 0 ≤ _; omega
/-- what Words says of a text that has words -/
theorem words_good (l : List UInt8) (ws : List Wd) (h : wordsL l = (0, ws)) (hl : l.length ≤ 200) : ∃ ws0, ws = ws0 ++ [endW] ∧ ws.length ≤ 201 ∧ (∀ w ∈ ws0, Good w ∧ w.s.length ≤ 260) := by
  unfold wordsL at h
  rw [if_neg (by omega)] at h
  by_cases h0 : (lexL l []).1 = 0
  · rw [if_pos h0] at h
    injection h with _ h
    refine ⟨(lexL l []).2, h.symm, ?_, fun w hw => ⟨lexL_good l h0 w hw, ?_⟩⟩
    · rw [← h, List.length_append]
      have := goL_count' l.length l []
      simp at this ⊢
      unfold lexL
      omega
    · exact goL_small l.length l [] 260 (by omega) (fun _ h => by cases h) w hw
  · rw [if_neg h0] at h
    injection h with h _
    exact absurd h h0
theorem words_back (gs : List (List UInt8 × Wd)) (z : List UInt8) (ws0 : List Wd) (hg : gs.map (·.2) = ws0) (hgs : ∀ p ∈ gs, p.1 ≠ [] ∧ (∀ c ∈ p.1, blankB c = true) ∧ Good p.2) (hz : ∀ c ∈ z, blankB c = true) :
    wordsL (spread gs ++ z) = if 600 < (spread gs ++ z).length then (5, []) else (0, ws0 ++ [endW]) := by
  have h := lex_spread gs [] z hgs hz
  unfold wordsL
  rw [h, hg]
  rfl
def gapL : List (List UInt8) := [[32], [9], [10], [32, 32]]
theorem gap_ok {m : Nat} {g : List UInt8} (h : gapL[m]? = some g) : g ≠ [] ∧ (∀ c ∈ g, blankB c = true) ∧ g.length ≤ 2 := by
  have : g ∈ gapL := List.mem_of_getElem? h
  simp [gapL] at this
  rcases this with rfl | rfl | rfl | rfl <;> exact ⟨by simp, by decide, by decide⟩
def gapV : Array Value := #[.string ⟨#[32]⟩, .string ⟨#[9]⟩, .string ⟨#[10]⟩, .string ⟨#[32, 32]⟩]
theorem gapV_at {m : Nat} {g : List UInt8} (h : gapL[m]? = some g) : gapV[m]? = some (.string ⟨g.toArray⟩) := by
  have e : gapV = (gapL.map fun c => Value.string ⟨c.toArray⟩).toArray := rfl
  rw [e]
  simp [h]
def Some4 (w : World) (e : Ending) (w' : World) : Prop := ∃ m : Nat, m < 4 ∧ e = .returned (.int .i64 m) ∧ w = w'
theorem within4 (a : Int) (w : World) (ha : -9223372036854775808 ≤ a) (hb : a ≤ 9223372036854775807) :
    Calls Try.prog 14 #[.int .i64 a, .int .i64 4] w (Some4 w) := by
  have h1 := Int.emod_nonneg a (by omega : (4 : Int) ≠ 0)
  have h2 := Int.emod_lt_of_pos a (by omega : (0 : Int) < 4)
  refine (within a 4 (a % 4).toNat (by omega) w (by omega) (by omega) ha hb).mono fun e w' ⟨h3, h4⟩ => ⟨(a % 4).toNat, by omega, h3, h4⟩
theorem wrap64_bd (x : Int) : -9223372036854775808 ≤ wrap64 x ∧ wrap64 x ≤ 9223372036854775807 := by unfold wrap64; omega
theorem kwrap_bd (x : Int) : -9223372036854775808 ≤ IntKind.i64.wrap x ∧ IntKind.i64.wrap x ≤ 9223372036854775807 := by
  have e : IntKind.i64.wrap x = wrap64 x := by unfold IntKind.wrap wrap64; simp [IntKind.bits, IntKind.signed]; omega
  rw [e]; exact wrap64_bd x

/-- the words of the first i, each behind blanks -/
def Laid (ws : List Wd) (i : Nat) (u : ByteArray) : Prop := ∃ gs : List (List UInt8 × Wd), gs.map (·.2) = ws.take i ∧ (∀ p ∈ gs, p.1 ≠ [] ∧ ∀ c ∈ p.1, blankB c = true) ∧ u = ⟨(spread gs).toArray⟩
theorem Laid.next {ws : List Wd} {i : Nat} {u u' : ByteArray} {x : Wd} {g : List UInt8} (h : Laid ws i u) (hx : ws[i]? = some x) (hg : g ≠ [] ∧ ∀ c ∈ g, blankB c = true) (hu : u' = u ++ ⟨g.toArray⟩ ++ ⟨(rend x).toArray⟩) : Laid ws (i + 1) u' := by
  obtain ⟨gs, h1, h2, h3⟩ := h
  obtain ⟨hi, hx⟩ := List.getElem?_eq_some_iff.1 hx
  refine ⟨gs ++ [(g, x)], ?_, fun p hp => ?_, ?_⟩
  · rw [List.map_append, h1, List.take_succ_eq_append_getElem hi, hx]; rfl
  · rcases List.mem_append.1 hp with hp | hp
    · exact h2 p hp
    · rw [List.mem_singleton.1 hp]; exact hg
  · rw [hu, h3, app_mk', app_mk', spread_append, spread_one]
    simp
theorem Laid.none_ {ws : List Wd} {i : Nat} {u u' : ByteArray} {x : Wd} {g : List UInt8} (h : Laid ws i u) (hx : ws[i]? = some x) (hg : g ≠ [] ∧ ∀ c ∈ g, blankB c = true) (hr : rend x = []) (hu : u' = u ++ ⟨g.toArray⟩) : Laid ws (i + 1) u' := by
  refine h.next hx hg ?_
  rw [hr, hu]
  apply ByteArray.ext
  simp
/-- all words laid: what Words makes of them -/
theorem Laid.words {ws ws0 : List Wd} {u : ByteArray} (h : Laid ws ws.length u) (hw : ws = ws0 ++ [endW]) (hg : ∀ w ∈ ws0, Good w) : wordsL u.data.toList = if 600 < u.size then (5, []) else (0, ws) := by
  obtain ⟨gs, h1, h2, h3⟩ := h
  rw [List.take_length] at h1
  have hne : gs ≠ [] := by
    intro e
    rw [e, hw] at h1
    have := congrArg List.length h1
    simp at this
  obtain ⟨gs0, gl, rfl⟩ : ∃ gs0 gl, gs = gs0 ++ [gl] := ⟨gs.dropLast, gs.getLast hne, (List.dropLast_concat_getLast hne).symm⟩
  rw [List.map_append, hw] at h1
  have e1 : gs0.map (·.2) = ws0 ∧ gl.2 = endW := by
    have := List.append_inj' h1 rfl
    exact ⟨this.1, by have := this.2; simpa using this⟩
  obtain ⟨g, x⟩ := gl
  obtain ⟨e1, e2⟩ := e1
  have e2 : x = endW := e2
  subst e2
  have e3 : spread (gs0 ++ [(g, endW)]) = spread gs0 ++ g := by
    rw [spread_append, spread_one]
    show spread gs0 ++ (g ++ []) = _
    rw [List.append_nil]
  have hz : u.size = (spread gs0 ++ g).length := by rw [h3, size_mk, e3]
  have hd : u.data.toList = spread gs0 ++ g := by rw [h3, e3]
  rw [hd, hz, words_back gs0 g ws0 e1 (fun p hp => ⟨(h2 p (List.mem_append_left _ hp)).1, (h2 p (List.mem_append_left _ hp)).2, hg _ (by rw [← e1]; exact List.mem_map.2 ⟨p, hp, rfl⟩)⟩) (h2 (g, endW) (List.mem_append_right _ (List.mem_singleton.2 rfl))).2, hw]

theorem neqW (k n : Int) (s : ByteArray) (w : World) : (binOp .neq 35 (.agg #[.int .i64 k, .int .i64 n, .string s]) (.agg #[.int .i64 k, .int .i64 n, .string s])).run Try.prog w = .ok (.bool false) w := by
  go_simp

set_option maxRecDepth 1000000 in
set_option maxHeartbeats 8000000 in
theorem back_walk (s : ByteArray) (gap : Int) (w : World) (hs : s.size ≤ maxLen) (hg1 : -9223372036854775808 ≤ gap) (hg2 : gap ≤ 9223372036854775807) :
    Calls Try.prog 4 #[.string s, .int .i64 gap] w fun e w' => e = .returned (.bool true) ∧ Below w.heap.size w w' := by
  by_cases h200 : 200 < s.size
  · unfold maxLen at hs
    have hd : decide (200 < (s.size : Int)) = true := by simp; try omega
    go_enter Try.func4, Try.ntmps4
    go_wp2_with fail
    refine (known _).mono ?_
    rintro e w1 ⟨rfl, hb1⟩
    go_wp2
    go_ret
    exact ⟨rfl, hb1⟩
  have hd : decide (200 < (s.size : Int)) = false := by simp; omega
  obtain ⟨l, hl⟩ : ∃ l, l = s.data.toList := ⟨_, rfl⟩
  have hz : l.length = s.size := by rw [hl, Array.length_toList]; rfl
  have HL : Hid (s.data.toList = l) := Lib.hid hl.symm
  have hl2 : l.length ≤ 200 := by omega
  have hsb : s.size ≤ 200 := by omega
  obtain ⟨⟨e0, ws⟩, hp⟩ : ∃ p, wordsL l = p := ⟨_, rfl⟩
  have hmx : (200000 : Nat) ≤ maxLen := by decide
  clear hl hz h200 hs
  by_cases he : e0 = 0
  · subst he
    obtain ⟨ws0, hw0, hN, hgd⟩ := words_good l ws hp hl2
    have hgood : ∀ x ∈ ws, (Good x ∧ x.s.length ≤ 260) ∨ x = endW := by
      intro x hx
      rw [hw0] at hx
      rcases List.mem_append.1 hx with hx | hx
      · exact .inl (hgd x hx)
      · exact .inr (List.mem_singleton.1 hx)
    have hlay : ∀ u, Laid ws ws.length u → wordsL u.data.toList = if 600 < u.size then (5, []) else (0, ws) := fun u hu => hu.words hw0 (fun x hx => (hgd x hx).1)
    have hpos : 1 ≤ ws.length := by rw [hw0]; simp
    obtain ⟨N, hNN⟩ : ∃ N, ws.length = N := ⟨_, rfl⟩
    rw [hNN] at hN hlay hpos
    have HN := Lib.hid hNN
    have HG := Lib.hid hgood
    have HLAY := Lib.hid hlay
    have HP := Lib.hid hp
    clear hp hw0 hgd hgood hlay hNN
    go_enter Try.func4, Try.ntmps4
    go_wp2_with fail
    refine (known _).mono ?_
    rintro e w1 ⟨rfl, hb1⟩
    go_wp2_with fail
    refine (words0 s l ws N _ HL.out HP.out HN.out (by omega) (by omega)).mono ?_
    rintro r w2 ⟨g, c, rfl, hW, hb2⟩
    go_wp2
    go_loopw [7, 8] (fun t i wr => ∃ (k : Nat) (u : ByteArray), i = .int .i64 k ∧ t = .string u ∧ k ≤ N ∧ u.size ≤ k * 600 ∧ Below w2.heap.size w2 wr ∧ Hid (Laid ws k u)) (fun _ i _ => N - (intOf i).toNat)
    case atStart => exact ⟨0, ⟨#[]⟩, rfl, rfl, Nat.zero_le _, Nat.le_refl _, Below.refl _ _, Lib.hid ⟨[], rfl, (fun p h => absurd h (by simp)), rfl⟩⟩
    case round =>
      obtain ⟨k, u, rfl, rfl, hk, hus, hb, HU⟩ := hrel
      rcases Nat.lt_or_ge k N with hlt | hge
      · have hdk : decide (k < N) = true := by simp; omega
        have hkN : (k : Int) < (N : Int) := by omega
        obtain ⟨⟨xk, xn, xs⟩, hx⟩ : ∃ x, ws[k]? = some x := ⟨_, List.getElem?_eq_getElem (by rw [HN.out]; exact hlt)⟩
        have HX := Lib.hid hx
        have hgx := HG.out _ (List.mem_of_getElem? hx)
        have HGX := Lib.hid hgx
        clear hx hgx
        go_wp2_with fail
        obtain ⟨W, hW_, hbW, B1⟩ : ∃ W_, W_ = (wr.alloc (.cells #[.string ⟨#[32]⟩, .string ⟨#[9]⟩, .string ⟨#[10]⟩, .string ⟨#[32, 32]⟩] 9)) ∧ Below wr.heap.size wr W_ ∧ Blk W_ (wr.heap.size) 9 #[.string ⟨#[32]⟩, .string ⟨#[9]⟩, .string ⟨#[10]⟩, .string ⟨#[32, 32]⟩] :=
          ⟨_, rfl, ((Below.refl _ _).alloc (Nat.le_refl _) _), (blk_new_at wr (wr.heap.size) _ _ (by simp))⟩
        rw [← hW_]
        clear hW_
        refine (within4 _ _ ?_ ?_).mono ?_
        · first | exact (wrap64_bd _).1 | exact (kwrap_bd _).1
        · first | exact (wrap64_bd _).2 | exact (kwrap_bd _).2
        rintro e w3 ⟨m, hm4, rfl, rfl⟩
        obtain ⟨gp, hgp⟩ : ∃ gp, gapL[m]? = some gp := ⟨_, List.getElem?_eq_getElem (show m < 4 from hm4)⟩
        obtain ⟨G, hG⟩ : ∃ G : ByteArray, G = ⟨gp.toArray⟩ := ⟨_, rfl⟩
        have qg : W.cell? ⟨wr.heap.size, m, none⟩ = some (.string G) := by
          rw [hG, B1.cell]
          exact gapV_at hgp
        have hGs : G.size ≤ 2 := by rw [hG, size_mk]; exact (gap_ok hgp).2.2
        have HGP := Lib.hid (⟨(gap_ok hgp).1, (gap_ok hgp).2.1⟩ : gp ≠ [] ∧ ∀ c ∈ gp, blankB c = true)
        have HGG := Lib.hid hG
        have hm4' : (m : Int) < 4 := by omega
        have hbr : Below w2.heap.size w2 W := Below.trans hb (Below.mono hbW hb.size)
        have hug : (u ++ G).size ≤ k * 600 + 2 := by rw [ByteArray.size_append]; omega
        have q := (hW.ext hbr).at_ HX.out
        simp only at q
        obtain ⟨S, hS⟩ : ∃ S : ByteArray, S = ⟨xs.toArray⟩ := ⟨_, rfl⟩
        rw [← hS] at q
        have hSz : S.size = xs.length := by rw [hS]; exact size_mk xs
        have HSS := Lib.hid hS
        have HSZ := Lib.hid hSz
        clear hgp hG hS hSz B1
        rcases HGX.out with ⟨hgd, hsz⟩ | hend
        · have hszS : S.size ≤ 260 := by rw [HSZ.out]; exact hsz
          have hugs : (u ++ G ++ S).size ≤ (k + 1) * 600 := by rw [ByteArray.size_append]; omega
          rcases hgd with ⟨hk1, hn1, _, _⟩ | ⟨hk1, hs1, hn0, hn1⟩ | ⟨hk1, hn1, hs60⟩ | ⟨hk1, hn1, _⟩
          · simp only at hk1
            subst hk1
            have HR := Lib.hid (show S = ⟨(rend ⟨1, xn, xs⟩).toArray⟩ by rw [HSS.out]; rfl)
            clear hsz hn1
            go_wp2_with fail
            go_roundw
            case rel => exact ⟨k + 1, _, by go_num, rfl, by omega, hugs, hbr, Lib.hid (HU.out.next HX.out HGP.out (by rw [← HGG.out, ← HR.out]))⟩
            case measure => simp [intOf]; omega
          · simp only at hk1 hs1 hn0 hn1
            subst hk1
            obtain ⟨n, rfl⟩ : ∃ n : Nat, xn = n := ⟨xn.toNat, by omega⟩
            have ln := digs_19 n (by omega)
            have zn : (ByteArray.mk (digs n).toArray).size ≤ 19 := by rw [size_mk]; exact ln
            have hugd : (u ++ G ++ ByteArray.mk (digs n).toArray).size ≤ (k + 1) * 600 := by rw [ByteArray.size_append]; omega
            have HR := Lib.hid (show (⟨(digs n).toArray⟩ : ByteArray) = ⟨(rend ⟨2, (n : Int), xs⟩).toArray⟩ from rfl)
            have hn9 : n ≤ 9223372036854775807 := by omega
            clear hsz hs1 ln
            go_wp2_with fail
            refine (digits_ n _ _ rfl hn9).mono ?_
            rintro e w5 ⟨rfl, hb5⟩
            go_wp2_with fail
            go_roundw
            case rel => exact ⟨k + 1, _, by go_num, rfl, by omega, hugd, Below.trans hbr (Below.mono hb5 hbr.size), Lib.hid (HU.out.next HX.out HGP.out (by rw [← HGG.out, ← HR.out]))⟩
            case measure => simp [intOf]; omega
          · simp only at hk1 hs60
            subst hk1
            have hq := dbl_len xs
            have zq : (ByteArray.mk (quo xs).toArray).size ≤ 122 := by rw [size_mk]; unfold quo; simp; omega
            have hugq : (u ++ G ++ ByteArray.mk (quo xs).toArray).size ≤ (k + 1) * 600 := by rw [ByteArray.size_append]; omega
            have HR := Lib.hid (show (⟨(quo xs).toArray⟩ : ByteArray) = ⟨(rend ⟨3, xn, xs⟩).toArray⟩ from rfl)
            have hx6 : xs.length ≤ 100000 := by omega
            clear hsz hn1 hq
            go_wp2_with fail
            refine (quoted_ S xs HSS.out hx6 _).mono ?_
            rintro e w5 ⟨rfl, rfl⟩
            go_wp2_with fail
            go_roundw
            case rel => exact ⟨k + 1, _, by go_num, rfl, by omega, hugq, hbr, Lib.hid (HU.out.next HX.out HGP.out (by rw [← HGG.out, ← HR.out]))⟩
            case measure => simp [intOf]; omega
          · simp only at hk1
            subst hk1
            have HR := Lib.hid (show S = ⟨(rend ⟨4, xn, xs⟩).toArray⟩ by rw [HSS.out]; rfl)
            clear hsz hn1
            go_wp2_with fail
            go_roundw
            case rel => exact ⟨k + 1, _, by go_num, rfl, by omega, hugs, hbr, Lib.hid (HU.out.next HX.out HGP.out (by rw [← HGG.out, ← HR.out]))⟩
            case measure => simp [intOf]; omega
        · have hk1 : xk = 0 := congrArg Wd.k hend
          have hugz : (u ++ G).size ≤ (k + 1) * 600 := by omega
          have HR := Lib.hid (show rend ⟨xk, xn, xs⟩ = [] by rw [hend]; rfl)
          subst hk1
          clear hend
          go_wp2_with fail
          go_roundw
          case rel => exact ⟨k + 1, _, by go_num, rfl, by omega, hugz, hbr, Lib.hid (HU.out.none_ HX.out HGP.out HR.out (by rw [← HGG.out]))⟩
          case measure => simp [intOf]; omega
      · have hdk : decide (k < N) = false := by simp; omega
        obtain rfl : k = N := by omega
        have HWL := Lib.hid (HLAY.out u HU.out)
        have hum : u.size ≤ 200000 := by omega
        have hbA : Below w.heap.size w wr := bch0 hb1 (bch0 hb2 hb)
        by_cases h600 : 600 < u.size
        · have hd6 : decide (600 < (u.size : Int)) = true := by simp; omega
          go_wp2_with fail
          refine (wordsE u _ 5 _ rfl (by rw [HWL.out, if_pos h600]) (by omega)).mono ?_
          rintro r w5 ⟨A5, c5, rfl, hb5⟩
          go_wp2
          go_ret
          exact ⟨rfl, bch0 hbA hb5⟩
        · go_wp2_with fail
          refine (words0 u _ ws k _ rfl (by rw [HWL.out, if_neg h600]) HN.out (by omega) (by omega)).mono ?_
          rintro r w5 ⟨g5, c5, rfl, hW5, hb5⟩
          have hWa := hW.ext (Below.trans hb (Below.mono hb5 hb.size))
          have hbB := bch0 hbA hb5
          obtain ⟨wo, rfl⟩ : ∃ wo : World, wo = wr := ⟨_, rfl⟩
          go_wp2
          go_loopw [11] (fun i wq => ∃ (q : Nat), i = .int .i64 q ∧ q ≤ k ∧ Below w5.heap.size w5 wq) (fun i _ => k - (intOf i).toNat)
          case atStart => exact ⟨0, rfl, Nat.zero_le _, Below.refl _ _⟩
          case round =>
            obtain ⟨q, rfl, hq, hbq⟩ := hrel
            rcases Nat.lt_or_ge q k with hlt | hge2
            · have hdq : decide (q < k) = true := by simp; omega
              have hqk : (q : Int) < (k : Int) := by omega
              obtain ⟨⟨xk, xn, xs⟩, hx⟩ : ∃ x, ws[q]? = some x := ⟨_, List.getElem?_eq_getElem (by rw [HN.out]; exact hlt)⟩
              have HX := Lib.hid hx
              clear hx
              have hne := neqW xk xn ⟨xs.toArray⟩
              have D := fun w' (h : Below wr.heap.size wr.drew w') => ((hWa.ext hbq).ext (Below.trans (Below.refl _ _).drew h)).at_ HX.out
              have D2 := fun w' (h : Below wr.heap.size wr.drew w') => ((hW5.ext hbq).ext (Below.trans (Below.refl _ _).drew h)).at_ HX.out
              go_wp2
              refine wp_region_one [(0, true), (1, true), (2, true), (3, true), (4, true), (5, true), (6, true), (7, true), (8, true)] (by kernel_rfl) (by kernel_rfl) (by kernel_rfl) (by decide) ?_
              repeat ((with_reducible show wpPerm _ _ _ _ ((_, true) :: _) _ _); (first | (refine wpPerm_on (v := ?_) rfl rfl (wanted_free rfl) (fun w' hS => ?_) ?_; rotate_left; (focus (go_simp; (try with_reducible rfl); done)); try simp only [Act.put, List.setIfInBounds_toArray, List.set_cons_zero, List.set_cons_succ]) | (refine wpPerm_on (v := ?_) rfl rfl (wanted_yes rfl rfl rfl) (fun w' hS => ?_) ?_; rotate_left; (focus (go_simp; (try with_reducible rfl); done)); try simp only [Act.put, List.setIfInBounds_toArray, List.set_cons_zero, List.set_cons_succ]) | (refine wpPerm_off rfl rfl (wanted_no rfl rfl rfl) ?_; try simp only [Act.put, List.setIfInBounds_toArray, List.set_cons_zero, List.set_cons_succ]) | (refine wpPerm_off rfl rfl (wanted_undef rfl rfl rfl) ?_; try simp only [Act.put, List.setIfInBounds_toArray, List.set_cons_zero, List.set_cons_succ])))
              refine wpPerm_done ?_
              clear D D2
              go_wp2
              go_roundw
              case rel => exact ⟨q + 1, by go_num, by omega, hbq.drew⟩
              case measure => simp [intOf]; omega
            · have hdq : decide (q < k) = false := by simp; omega
              go_wp2
              go_ret
              exact ⟨rfl, bch0 hbB hbq⟩
  · have hne : (e0 != 0) = true := by simpa using he
    have HP := Lib.hid hp
    clear he hp
    go_enter Try.func4, Try.ntmps4
    go_wp2_with fail
    refine (known _).mono ?_
    rintro e w1 ⟨rfl, hb1⟩
    go_wp2_with fail
    refine (wordsA s _ (by omega)).mono ?_
    rw [HL.out, HP.out]
    rintro r w2 ⟨A, n, c, rfl, hb2⟩
    go_wp2
    go_ret
    exact ⟨rfl, bch0 hb1 hb2⟩
end Go.Proofs.Ytfmpnanfjomcbaa.lx
