/- The program's parser: all the rules; expr. Printed by gen16.py. -/
import Derived.Test.YtfnceamkephpjaaGreatP15
import Derived.Lib.SliceRun
import Derived.WalkSpells
namespace Go.Proofs.YtfnceamkephpjaaGreat.pg
open Go.ChangeShapes Go.WideShapes Go.ChangeAt Go.RowKit Go.Proofs.YtfnceamkephpjaaGreat.lib Go.Proofs.YtfnceamkephpjaaGreat.lx
set_option linter.unusedVariables false

/-- all the rules, whatever is left to go -/
theorem rules_ (W : List Wd) : ∀ f : Nat, RuleB 34 W 0 f ∧ RuleB 58 W 1 f ∧ RuleB 67 W 2 f ∧ RuleB 75 W 3 f ∧ RuleB 82 W 4 f ∧ RuleB 92 W 5 f ∧ RuleB 101 W 6 f ∧ RuleB 102 W 7 f
  | 0 => ⟨fun _ _ _ _ _ _ hn => absurd hn (by omega), fun _ _ _ _ _ _ hn => absurd hn (by omega), fun _ _ _ _ _ _ hn => absurd hn (by omega), fun _ _ _ _ _ _ hn => absurd hn (by omega), fun _ _ _ _ _ _ hn => absurd hn (by omega), fun _ _ _ _ _ _ hn => absurd hn (by omega), fun _ _ _ _ _ _ hn => absurd hn (by omega), fun _ _ _ _ _ _ hn => absurd hn (by omega)⟩
  | f + 1 => by
    obtain ⟨h0, h1, h2, h3, h4, h5, h6, h7⟩ := rules_ W f
    exact ⟨bor_ W f h1, band_ W f h2, bnot_ W f h2 h3, bcompare_ W f h4, bsum_ W f h5, bproduct_ W f h6, bminus_ W f h6 h7, bone_ W f h0⟩
theorem own_cap {w : World} {base n c size : Nat} {e : TypeId} {A : Option Addr} {xs : List Value} (h : w.ownsRow base e size (.slice A n c) n xs) : c ≤ maxLen := by
  rcases h.2 with ⟨hv, _⟩ | ⟨g, cap, cur, hv, _, _, _, hc, _⟩
  · injection hv with _ _ hc
    subst hc
    exact Nat.zero_le _
  · injection hv with _ _ hc2
    subst hc2
    exact hc
def CloneE (n : Nat) (xs : List Value) (w : World) (r : Ending) (w' : World) : Prop := ∃ v, r = .returned v ∧ w'.ownsRow w.heap.size 45 7 v n xs ∧ Below w.heap.size w w'
set_option maxRecDepth 100000 in
theorem cloneE0 (w : World) : Calls Tryz.prog 35 #[.slice none 0 0] w (CloneE 0 [] w) := by
  have heq := fun W => Lib.run_eql_slice_nil (P := Tryz.prog) W 30 45 none 0 0 0 0 Tryz.underlying30
  go_enter Tryz.func35, Tryz.ntmps35
  go_wp2
  go_ret
  exact ⟨_, rfl, World.ownsRow_nil _ _ _ _, Below.refl _ _⟩
set_option maxRecDepth 100000 in
theorem cloneE1 (g n c base : Nat) (xs : List Value) (w : World) (h : w.ownsRow base 45 7 (.slice (some ⟨g, 0, none⟩) n c) n xs) (hn : n ≤ 200000) (h1 : ∀ u ∈ xs, u.oneCell' = true) :
    Calls Tryz.prog 35 #[.slice (some ⟨g, 0, none⟩) n c] w (CloneE n xs w) := by
  have heq := fun W => Lib.run_eql_slice_nil (P := Tryz.prog) W 30 45 (some ⟨g, 0, none⟩) n c 0 0 Tryz.underlying30
  obtain ⟨i0, hi, hz0, hz1, hz2⟩ := info_parts (P := Tryz.prog) (e := 45) (z := .agg #[.int .i64 0, .int .i64 0, .int .i64 0, .int .i64 0, .int .i64 0, .string ⟨#[]⟩, .string ⟨#[]⟩]) (size := 7) (bytes := 72) (by kernel_rfl)
  have HW := Lib.hid h
  have H1 := Lib.hid h1
  clear h h1
  go_enter Tryz.func35, Tryz.ntmps35
  go_wp2_with (at_builtin; refine wpList_append_own _ rfl (.tmp 5) (.tmp 6) 30 rfl w.heap.size 45 i0 _ 7 72 Tryz.underlying30 hi hz0 hz1 hz2 rfl (by decide) _ _ _ rfl (World.ownsRow_made w #[] 0 (Nat.le_refl _) (Nat.zero_le _) rfl) ⟨g, 0, none⟩ n c xs rfl HW.out.1 ?c1 ?c2 ?c3 ?c4 ?c5 ?_)
  case c1 => exact (HW.out.alloc _).cells (g := g) rfl
  case c2 => exact H1.out
  case c3 => unfold maxLen; omega
  case c4 => omega
  case c5 => simp
  intro v' w3 hown3 hgrow3 _
  go_wp2
  go_ret
  exact ⟨v', rfl, hown3, ((Below.refl _ _).alloc (Nat.le_refl _) _).grown hgrow3 (by simp) (fun k hk => by simp [Value.ownBlock] at hk; omega)⟩
theorem cloneE_ (base n : Nat) (v : Value) (xs : List Value) (w : World) (h : w.ownsRow base 45 7 v n xs) (hn : n ≤ 200000) (h1 : ∀ u ∈ xs, u.oneCell' = true) :
    Calls Tryz.prog 35 #[v] w (CloneE n xs w) := by
  have hl := h.1
  rcases h.2 with ⟨hv, hxs⟩ | ⟨g, cap, cur, hv, hrest⟩
  · subst hv
    subst hxs
    obtain rfl : xs = [] := List.eq_nil_of_length_eq_zero (by omega)
    exact cloneE0 w
  · subst hv
    exact cloneE1 g n cap base xs w h hn h1
set_option maxRecDepth 100000 in
theorem expr_ {w : World} {g : Nat} {W : List Wd} {b : Nat} {p : Pp} (h : Pr w g W b p) :
    Calls Tryz.prog 18 #[.pointer (some ⟨g, 0, none⟩)] w fun e w' => ∃ v, e = .returned v ∧ w'.ownsRow w.heap.size 45 7 v (exprP W p).1.length (flatK encNd (exprP W p).1) ∧ (exprP W p).1.length ≤ 60 ∧ Pr w' g W b (exprP W p).2 ∧ w.grownBy w' (some g) := by
  have hgl := h.gl
  have hbl := h.bl
  have hlt := h.lt
  have hr := (show exprP W p = match pr W (W.length * 9 + 9) 0 ⟨p, []⟩ with | (_, q) => (q.e, q.p) from rfl)
  obtain ⟨R, hR⟩ : ∃ R, exprP W p = R := ⟨_, rfl⟩
  rw [hR] at hr ⊢
  have HRU := Lib.hid (rules_ W (W.length * 9 + 9)).1
  have H := Lib.hid h
  obtain ⟨⟨a, q⟩, hq⟩ : ∃ X, pr W (W.length * 9 + 9) 0 ⟨p, []⟩ = X := ⟨_, rfl⟩
  rw [hq] at hr
  simp only at hr
  subst hr
  have HQ := Lib.hid hq
  clear h hR hq
  go_enter Tryz.func18, Tryz.ntmps18
  go_upto_region 2 with fail
  obtain ⟨W1, hW_, hb1, BB⟩ : ∃ W_, W_ = (w.alloc (.cells #[.pointer (some ⟨g, 0, none⟩), .slice none 0 0] 88)) ∧ Below w.heap.size w W_ ∧ Blk W_ (w.heap.size) 88 #[.pointer (some ⟨g, 0, none⟩), .slice none 0 0] :=
    ⟨_, rfl, ((Below.refl _ _).alloc (Nat.le_refl _) _), (blk_new_at w (w.heap.size) _ _ (by simp))⟩
  rw [← hW_]
  clear hW_
  have hx : Br W1 g w.heap.size W b ⟨p, []⟩ := ⟨none, 0, H.out.ext hb1, BB, World.ownsRow_nil _ _ _ _, Nat.zero_le _, hgl, hbl⟩
  have hc := HRU.out W1 g w.heap.size b ⟨p, []⟩ hx (by show (W.length - p.at_) * 9 + (9 - 0) ≤ _; omega)
  rw [HQ.out] at hc
  have HC := Lib.hid hc
  have HB1 := Lib.hid hb1
  obtain ⟨hh, hhe⟩ : ∃ hh, w.heap.size = hh := ⟨_, rfl⟩
  replace HC := HC.out
  rw [hhe] at HC ⊢
  replace HC := Lib.hid HC
  have HH := Lib.hid hhe
  clear hb1 BB hx hc hhe hgl hbl
  go_wp2_with fail
  refine (HC.out).mono ?_
  rintro e w2 ⟨rfl, ⟨Ae, ce, h2⟩, hf2⟩
  have q2 := two h2.blk (Below.refl _ _)
  have HCL := Lib.hid (cloneE_ _ _ _ _ _ h2.own (Nat.le_trans h2.few (by decide)) (oneNd q.e))
  have H2 := Lib.hid h2
  have HF2 := Lib.hid hf2
  clear h2 hf2
  go_wp2_with fail
  refine (HCL.out).mono ?_
  rintro e w3 ⟨v, rfl, hown, hb3⟩
  have HP := Lib.hid (H2.out.pr.ext hb3)
  have HO := Lib.hid (lib.own_base hown (show w.heap.size ≤ _ by exact Nat.le_trans HB1.out.size HF2.out.size))
  have HG := Lib.hid (show w.grownBy w3 (some g) from (((⟨HF2.out.os.trans HB1.out.os, HF2.out.tape.trans HB1.out.tape, HF2.out.output.trans HB1.out.output, Nat.le_trans HB1.out.size HF2.out.size, fun k hk hne => (HF2.out.block k (Nat.lt_of_lt_of_le hk HB1.out.size) (fun e => hne (by rw [e])) (by rw [← HH.out]; omega) (.inl (by rw [← HH.out]; exact hk))).trans (HB1.out.block k hk)⟩ : w.grownBy w2 (some g))).trans (grown_of hb3 _)))
  clear hown hb3 q2
  go_wp2
  go_ret
  exact ⟨v, rfl, HO.out, H2.out.few, HP.out, HG.out⟩
end Go.Proofs.YtfnceamkephpjaaGreat.pg

/- The program's Expr. Printed by gen16.py. -/
namespace Go.Proofs.YtfnceamkephpjaaGreat.pg
open Go.ChangeShapes Go.WideShapes Go.ChangeAt Go.RowKit Go.Proofs.YtfnceamkephpjaaGreat.lib Go.Proofs.YtfnceamkephpjaaGreat.lx
set_option linter.unusedVariables false

theorem stepL_small {l r : List UInt8} {w : Wd} (h : stepL l = .put w r) : w.s.length ≤ l.length + 60 := by
  cases l with
  | nil => cases h
  | cons c l =>
    rw [stepL] at h
    by_cases h1 : blankB c = true
    · rw [if_pos h1] at h; cases h
    rw [if_neg h1] at h
    by_cases h2 : letB c = true
    · rw [if_pos h2] at h
      injection h with h _
      subst h
      have := tw_bound nameB (c :: l)
      show ((c :: l).takeWhile nameB).length ≤ _
      omega
    rw [if_neg h2] at h
    by_cases h3 : digB c = true
    · rw [if_pos h3] at h
      unfold numSt at h
      split at h
      · injection h with h _; subst h; exact Nat.zero_le _
      · cases h
    rw [if_neg h3] at h
    by_cases h4 : c = 39
    · rw [if_pos h4] at h
      unfold textSt at h
      split at h
      · rename_i h0
        injection h with h _
        subst h
        have := textL_short l [] h0
        show (textL l []).2.1.length ≤ _
        omega
      · cases h
    rw [if_neg h4] at h
    by_cases h5 : twoB (c :: l) = true
    · rw [if_pos h5] at h
      injection h with h _
      subst h
      show ((c :: l).take 2).length ≤ _
      have := List.length_take_le 2 (c :: l)
      omega
    rw [if_neg h5] at h
    by_cases h6 : signB c = true
    · rw [if_pos h6] at h
      injection h with h _
      subst h
      show 1 ≤ _
      omega
    · rw [if_neg h6] at h; cases h
theorem goL_small : ∀ (f : Nat) (l : List UInt8) (out : List Wd) (B : Nat), l.length + 60 ≤ B → (∀ w ∈ out, w.s.length ≤ B) → ∀ w ∈ (goL f l out).2, w.s.length ≤ B
  | 0, [], out, B, _, ho => ho
  | f + 1, [], out, B, _, ho => ho
  | 0, c :: l, out, B, _, _ => fun w hw => by cases hw
  | f + 1, c :: l, out, B, hB, ho => by
    have hl := stepL_lt c l
    unfold goL
    cases hs : stepL (c :: l) with
    | skip r =>
      rw [hs] at hl
      simp only [St.lt] at hl
      exact goL_small f r out B (by omega) ho
    | put w r =>
      rw [hs] at hl
      simp only [St.lt] at hl
      refine goL_small f r _ B (by omega) (fun x hx => ?_)
      rcases List.mem_append.1 hx with hx | hx
      · exact ho x hx
      · rw [List.mem_singleton.1 hx]
        have := stepL_small hs
        omega
    | err e => intro w hw; cases hw
theorem goL_count' : ∀ (f : Nat) (l : List UInt8) (out : List Wd), (goL f l out).2.length ≤ out.length + l.length
  | 0, [], out => by show out.length ≤ _; simp
  | f + 1, [], out => by show out.length ≤ _; simp
  | 0, c :: l, out => by show 0 ≤ _; omega
  | f + 1, c :: l, out => by
    have hl := stepL_lt c l
    unfold goL
    cases hs : stepL (c :: l) with
    | skip r =>
      rw [hs] at hl
      have := goL_count' f r out
      simp only [St.lt, List.length_cons] at *
      omega
    | put w r =>
      rw [hs] at hl
      have := goL_count' f r (out ++ [w])
      simp only [St.lt, List.length_cons, List.length_append, List.length_nil] at *
      omega
    | err e => show 0 ≤ _; omega
/-- what Words says of a text that has words -/
theorem wlist_ok {l : List UInt8} (h : (wordsL l).1 = 0) : WOk (wordsL l).2 ∧ (wordsL l).2.length ≤ 1000 ∧ ∀ x ∈ (wordsL l).2, x.s.length ≤ 1000 := by
  unfold wordsL at h ⊢
  split at h
  · cases h
  · next h6 =>
    rw [if_neg h6]
    split at h
    · next hz =>
      rw [if_pos hz]
      have hc := goL_count' l.length l []
      have hs := goL_small l.length l [] 1000 (by omega) (fun _ h => by cases h)
      refine ⟨⟨by simp, fun i w hi hk => ?_⟩, ?_, fun x hx => ?_⟩
      · rw [List.length_append, List.length_singleton]
        rcases Nat.lt_or_ge i (lexL l []).2.length with hlt | hge
        · omega
        · rw [List.getElem?_append_right hge] at hi
          cases hj : i - (lexL l []).2.length with
          | zero =>
            rw [hj] at hi
            injection hi with hi
            subst hi
            exact absurd rfl hk
          | succ j => rw [hj] at hi; cases hi
      · rw [List.length_append, List.length_singleton]
        show (goL l.length l []).2.length + 1 ≤ 1000
        simp only [List.length_nil] at hc
        omega
      · rcases List.mem_append.1 hx with hx | hx
        · exact hs x hx
        · rw [List.mem_singleton.1 hx]; exact Nat.zero_le _
    · next hz => exact absurd h hz
theorem wlist_err {l : List UInt8} (h : (wordsL l).1 ≠ 0) : (wordsL l).2 = [] := by
  unfold wordsL at h ⊢
  split
  · rfl
  · next h6 =>
    rw [if_neg h6] at h
    split
    · next hz => rw [if_pos hz] at h; exact absurd rfl h
    · rfl
/-- what Expr answers -/
def ExprP (r : Int × List Nd) (w : World) (e : Ending) (w' : World) : Prop := ∃ v, e = .returned (.tuple #[v, .int .i64 r.1]) ∧ w'.ownsRow w.heap.size 45 7 v r.2.length (flatK encNd r.2) ∧ Below w.heap.size w w'
/-- a new parser over words -/
theorem pr_new {w w' : World} {W : List Wd} {base g c b : Nat} (ho : w.ownsRow base 57 3 (.slice (some ⟨b, 0, none⟩) W.length c) W.length (cellsW W)) (hb : Below w.heap.size w w') (hB : Blk w' g 52 #[.slice (some ⟨b, 0, none⟩) W.length c, .int .i64 0]) (hg : w.heap.size ≤ g) (hc : c ≤ maxLen) (hok : WOk W) (hl : W.length ≤ 1000) (hs : ∀ x ∈ W, x.s.length ≤ 1000) : Pr w' g W b ⟨0, 0⟩ := by
  have hbl := (ho.lt b rfl).2
  have hr := (Row.of_own ho).ext hb
  exact ⟨0, W.length, c, hB, fun j u hu => by have := hr.at_ hu; simpa using this, Nat.lt_of_lt_of_le hbl hb.size, by omega, rfl, Nat.zero_add _, hr.le_, hc, hok.pos, hok, hl, hs⟩
set_option maxRecDepth 1000000 in
set_option maxHeartbeats 4000000 in
theorem Expr_ (l : List UInt8) (hl : l.length ≤ 100000) (w : World) :
    Calls Tryz.prog 9 #[.string ⟨l.toArray⟩] w (ExprP (exprL l) w) := by
  have HW := Lib.hid (words_ ⟨l.toArray⟩ w (by rw [size_mk]; unfold maxLen; omega))
  replace HW := HW.out
  rw [show (⟨l.toArray⟩ : ByteArray).data.toList = l from rfl] at HW
  replace HW := Lib.hid HW
  obtain ⟨R, hR⟩ : ∃ R, exprL l = R := ⟨_, rfl⟩
  rw [hR]
  have HR := Lib.hid ((show exprL l = match wordsL l with | (x, W) => if x = 0 then outP W (exprP W ⟨0, 0⟩) else (x, []) from rfl).symm.trans hR)
  have HOK := Lib.hid (fun (h : (wordsL l).1 = 0) => wlist_ok h)
  obtain ⟨⟨x, W⟩, hx⟩ : ∃ X, wordsL l = X := ⟨_, rfl⟩
  replace HW := HW.out
  replace HR := HR.out
  replace HOK := HOK.out
  rw [hx] at HW HR HOK
  simp only at HR HOK
  replace HW := Lib.hid HW
  replace HR := Lib.hid HR
  replace HOK := Lib.hid HOK
  clear hx hR hl
  go_enter Tryz.func9, Tryz.ntmps9
  go_wp2_with fail
  refine (HW.out).mono ?_
  rintro e w2 ⟨v, rfl, hown, hb2⟩
  simp only at hown ⊢
  by_cases he : x = 0
  case neg =>
    have hd : (x != 0) = true := by simpa using he
    obtain rfl : (x, []) = R := by rw [← HR.out, if_neg he]
    have HB2 := Lib.hid hb2
    clear he hown hb2
    go_wp2
    exact bodyPost_ret (v := .tuple #[.slice none 0 0, .int .i64 x]) (by simp [results, Tryz.results9, go_sem]; try rfl) rfl ⟨.slice none 0 0, rfl, World.ownsRow_nil _ _ _ _, HB2.out⟩
  subst he
  obtain ⟨hwok, hwl, hws⟩ := HOK.out rfl
  have hr := HR.out
  rw [if_pos rfl] at hr
  obtain ⟨b, c, rfl, hb1', hb2'⟩ := hown.form hwok.pos
  have hcm := own_cap hown
  go_upto_region 5 with fail
  obtain ⟨W3, hW_, hb3, BP⟩ : ∃ W_, W_ = (w2.alloc (.cells #[.slice (some ⟨b, 0, none⟩) W.length c, .int .i64 0] 52)) ∧ Below w2.heap.size w2 W_ ∧ Blk W_ (w2.heap.size) 52 #[.slice (some ⟨b, 0, none⟩) W.length c, .int .i64 0] :=
    ⟨_, rfl, ((Below.refl _ _).alloc (Nat.le_refl _) _), (blk_new_at w2 (w2.heap.size) _ _ (by simp))⟩
  rw [← hW_]
  clear hW_
  have hgw3 := BP.lt
  have hp := pr_new hown hb3 BP (Nat.le_refl _) hcm hwok hwl hws
  have HE := Lib.hid (expr_ hp)
  obtain ⟨⟨es, q⟩, hq⟩ : ∃ X, exprP W ⟨0, 0⟩ = X := ⟨_, rfl⟩
  replace HE := HE.out
  rw [hq] at HE hr
  simp only at HE hr
  replace HE := Lib.hid HE
  have HB3 := Lib.hid (bch0 hb2 hb3)
  have HRR := Lib.hid (show (match endP W q with | q => if q.err = 0 then (0, es) else (q.err, [])) = R from hr)
  obtain ⟨g, hg⟩ : ∃ g, w2.heap.size = g := ⟨_, rfl⟩
  have hwg : w.heap.size ≤ g := by rw [← hg]; exact hb2.size
  replace HE := HE.out
  rw [hg] at HE hgw3 ⊢
  replace HE := Lib.hid HE
  clear hq hp hr hb3 BP hown hwok hwl hws hb1' hb2' hcm hg hb2
  go_wp2_with fail
  refine (HE.out).mono ?_
  rintro e w4 ⟨v, rfl, hown4, hlen, hp4, hg4⟩
  obtain ⟨A, c4, rfl⟩ := own_sl hown4
  have HN := Lib.hid (pend_ hp4)
  have HO4 := Lib.hid hown4
  have HB4 := Lib.hid (HB3.out.grown hg4 HB3.out.size (by intro k hk; injection hk with hk; omega))
  have hbz := HB3.out.size
  clear hown4 hp4 hg4
  go_wp2_with fail
  refine (HN.out).mono ?_
  rintro e w5 ⟨rfl, h5, hg5⟩
  obtain ⟨a5, n5, c5, h5⟩ := h5
  obtain ⟨r, hr⟩ : ∃ r, endP W q = r := ⟨_, rfl⟩
  rw [hr] at h5
  replace HRR := HRR.out
  rw [hr] at HRR
  replace HRR := Lib.hid HRR
  have q5 := two h5.blk (Below.refl _ _)
  have H5 := Lib.hid h5
  have HB5 := Lib.hid (HB4.out.grown hg5 HB4.out.size (by intro k hk; injection hk with hk; omega))
  have HO5 := Lib.hid (lib.own_base (HO4.out.kept hg5 (.inr fun e => by have := (HO4.out.lt _ e).1; omega)) hbz)
  clear h5 hg5 hr HO4 HB4
  by_cases he : r.err = 0
  case pos =>
    have hd : (r.err != 0) = false := by simpa using he
    obtain rfl : (0, es) = R := by rw [← HRR.out, if_pos he]
    clear he
    go_wp2
    exact bodyPost_ret (v := .tuple #[.slice A es.length c4, .int .i64 0]) (by simp [results, Tryz.results9, go_sem]; try rfl) rfl ⟨_, rfl, HO5.out, HB5.out⟩
  have hd : (r.err != 0) = true := by simpa using he
  obtain rfl : (r.err, []) = R := by rw [← HRR.out, if_neg he]
  clear he
  go_wp2_with fail
  have D := fun w' (h : Below w5.heap.size w5.drew w') => (two H5.out.blk (Below.trans (Below.refl _ _).drew h))
  refine wp_region_one [(0, true), (1, true), (2, true), (3, true), (4, true), (5, true)] (by kernel_rfl) (by kernel_rfl) (by kernel_rfl) (by decide) ?_
  repeat ((with_reducible show wpPerm _ _ _ _ ((_, true) :: _) _ _); (first | (refine wpPerm_on (v := ?_) rfl rfl (wanted_free rfl) (fun w' hS => ?_) ?_; rotate_left; (focus (go_simp; (try with_reducible rfl); done)); try simp only [List.setIfInBounds_toArray, List.set_cons_zero, List.set_cons_succ]) | (refine wpPerm_on (v := ?_) rfl rfl (wanted_yes rfl rfl rfl) (fun w' hS => ?_) ?_; rotate_left; (focus (go_simp; (try with_reducible rfl); done)); try simp only [List.setIfInBounds_toArray, List.set_cons_zero, List.set_cons_succ]) | (refine wpPerm_off rfl rfl (wanted_no rfl rfl rfl) ?_; try simp only [List.setIfInBounds_toArray, List.set_cons_zero, List.set_cons_succ]) | (refine wpPerm_off rfl rfl (wanted_undef rfl rfl rfl) ?_; try simp only [List.setIfInBounds_toArray, List.set_cons_zero, List.set_cons_succ])))
  refine wpPerm_done ?_
  have HBF := Lib.hid ((HB5.out).drew)
  generalize w5.drew = w6 at *
  clear D q5
  go_wp2
  exact bodyPost_ret (v := .tuple #[.slice none 0 0, .int .i64 r.err]) (by simp [results, Tryz.results9, go_sem]; try rfl) rfl ⟨.slice none 0 0, rfl, World.ownsRow_nil _ _ _ _, HBF.out⟩
end Go.Proofs.YtfnceamkephpjaaGreat.pg
