/- The document's Expr. Printed by geny.py. -/
import Derived.Test.YtfgmlgflfagdjaaY10
namespace Go.Proofs.Ytfgmlgflfagdjaa.ps
open Go.ChangeShapes Go.WideShapes Go.ChangeAt Go.RowKit Go.Proofs.Ytfgmlgflfagdjaa.lib Go.Proofs.Ytfgmlgflfagdjaa.val Go.Proofs.Ytfgmlgflfagdjaa.lx Go.Proofs.Ytfgmlgflfagdjaa.ev
set_option linter.unusedVariables false

/-- a text read as an expression -/
def endP (W : List Wd) (q : Ps) : Ps := if q.err = 0 ∧ (wAt W q).k ≠ 0 then failP 6 q else q
def outP (q : Ps) : Int × List Nd := if q.err ≠ 0 then (q.err, []) else (0, q.e)
def exprL (l : List UInt8) : Int × List Nd := if (wordsL l).1 ≠ 0 then ((wordsL l).1, []) else outP (endP (wordsL l).2 (exprP (wordsL l).2 ⟨0, 0, []⟩).2)
theorem wlist_ok {l : List UInt8} (h : (wordsL l).1 = 0) : WOk (wordsL l).2 ∧ (wordsL l).2.length ≤ 1000 ∧ ∀ x ∈ (wordsL l).2, x.s.length ≤ 1000 := by
  unfold wordsL at h ⊢
  split at h
  · cases h
  · next h6 =>
    rw [if_neg h6]
    split at h
    · next hz =>
      rw [if_pos hz]
      have hc := goL_count' l.length l []
      have hs := goL_small l.length l [] 1000 (by omega) (fun _ h => by cases h)
      refine ⟨⟨by simp, fun i w hi hk => ?_⟩, ?_, fun x hx => ?_⟩
      · rw [List.length_append, List.length_singleton]
        rcases Nat.lt_or_ge i (lexL l []).2.length with hlt | hge
        · omega
        · rw [List.getElem?_append_right hge] at hi
          cases hj : i - (lexL l []).2.length with
          | zero =>
            rw [hj] at hi
            injection hi with hi
            subst hi
            exact absurd rfl hk
          | succ j => rw [hj] at hi; cases hi
      · rw [List.length_append, List.length_singleton]
        show (goL l.length l []).2.length + 1 ≤ 1000
        simp only [List.length_nil] at hc
        omega
      · rcases List.mem_append.1 hx with hx | hx
        · exact hs x hx
        · rw [List.mem_singleton.1 hx]; exact Nat.zero_le _
    · next hz => exact absurd h hz
theorem wlist_err {l : List UInt8} (h : (wordsL l).1 ≠ 0) : (wordsL l).2 = [] := by
  unfold wordsL at h ⊢
  split
  · rfl
  · next h6 =>
    rw [if_neg h6] at h
    split
    · next hz => rw [if_pos hz] at h; exact absurd rfl h
    · rfl
/-- what Expr answers -/
def ExprP (r : Int × List Nd) (w : World) (e : Ending) (w' : World) : Prop := ∃ A n c, n = r.2.length ∧ e = .returned (.tuple #[.slice A n c, .int .i64 r.1]) ∧ w'.ownsRow w.heap.size 36 7 (.slice A n c) n (flatK encNd r.2) ∧ Below w.heap.size w w'
set_option maxRecDepth 1000000 in
set_option maxHeartbeats 4000000 in
theorem rexpr_ (s : ByteArray) (l : List UInt8) (hs : Str s l) (hl : l.length ≤ 100000) (w : World) :
    Calls Try.prog 15 #[.string s] w (ExprP (exprL l) w) := by
  have HW := Lib.hid (rwords_ s l hs hl w)
  obtain ⟨R, hR⟩ : ∃ R, exprL l = R := ⟨_, rfl⟩
  rw [hR]
  have HR := Lib.hid (show (if (wordsL l).1 ≠ 0 then ((wordsL l).1, []) else outP (endP (wordsL l).2 (exprP (wordsL l).2 ⟨0, 0, []⟩).2)) = R from hR)
  have HOK := Lib.hid (fun (h : (wordsL l).1 = 0) => wlist_ok h)
  obtain ⟨⟨x, W⟩, hx⟩ : ∃ X, wordsL l = X := ⟨_, rfl⟩
  have HW := HW.out
  have HR := HR.out
  have HOK := HOK.out
  rw [hx] at HW HR HOK
  simp only at HR HOK
  have HW := Lib.hid HW
  have HR := Lib.hid HR
  have HOK := Lib.hid HOK
  clear hx hR hs hl
  go_enter Try.func15, Try.ntmps15
  go_wp2_with fail
  refine (HW.out).mono ?_
  rintro e w2 ⟨v, rfl, hown, hb2⟩
  simp only at hown ⊢
  by_cases he : x = 0
  case neg =>
    have hd : (x != 0) = true := by simpa using he
    obtain rfl : (x, []) = R := by rw [← HR.out, if_pos he]
    clear he hown
    go_wp2
    exact bodyPost_ret (v := .tuple #[.slice none 0 0, .int .i64 x]) (by simp [results, Try.results15, go_sem]; try rfl) rfl ⟨none, 0, 0, rfl, rfl, World.ownsRow_nil _ _ _ _, hb2⟩
  subst he
  obtain ⟨hwok, hwl, hws⟩ := HOK.out rfl
  have hr := HR.out
  rw [if_neg (by simp)] at hr
  obtain ⟨A, c, rfl⟩ := own_sl9 hown
  have hrow : Row w2 0 A W.length c (cellsW W) := (Row.of_own hown).base (Nat.zero_le _)
  go_upto_region 5 with fail
  obtain ⟨W3, hW_, hb3, BP⟩ : ∃ W_, W_ = (w2.alloc (.cells #[.slice A W.length c, .int .i64 0, .int .i64 0, .slice none 0 0] 72)) ∧ Below w2.heap.size w2 W_ ∧ Blk W_ (w2.heap.size) 72 #[.slice A W.length c, .int .i64 0, .int .i64 0, .slice none 0 0] :=
    ⟨_, rfl, ((Below.refl _ _).alloc (Nat.le_refl _) _), (blk_new_at w2 (w2.heap.size) _ _ (by simp))⟩
  rw [← hW_]
  clear hW_
  obtain ⟨g, hg, hg1⟩ : ∃ g, w2.heap.size = g ∧ w2.heap.size ≤ g := ⟨_, rfl, Nat.le_refl _⟩
  have hb3' := hb3
  rw [hg] at BP hb3' ⊢
  have hp : PrB w2 W3 g W A c ⟨0, 0, []⟩ none 0 := ⟨hb3', hg1, hrow, BP, World.ownsRow_nil _ _ _ _, hwok.pos, Nat.zero_le _, hwok, hwl, hws⟩
  have HE := Lib.hid (pexpr_ hp)
  obtain ⟨⟨z, q⟩, hq⟩ : ∃ X, exprP W ⟨0, 0, []⟩ = X := ⟨_, rfl⟩
  have HE := HE.out
  rw [hq] at HE hr
  simp only at HE hr
  have HE := Lib.hid HE
  have hbg := Below.trans hb2 (Below.mono hb3 hb2.size)
  have hwg : w.heap.size ≤ g := by rw [← hg]; exact hb2.size
  have HRR := Lib.hid hr
  clear hq hp hr hb3 hb3' hg hg1 BP hown hrow hwok hwl hws
  go_wp2_with fail
  refine (HE.out).mono ?_
  rintro e w4 ⟨A4, c4, rfl, h4⟩
  obtain ⟨bA, oA, rfl, _, _, hcells⟩ := h4.word
  obtain ⟨k, hk⟩ : ∃ k, (wAt W q).k = k := ⟨_, rfl⟩
  have hb4 := h4.blk
  have hql := h4.lt
  have c1 : (q.at_ : Int) < (W.length : Int) := by omega
  rw [hk] at hcells
  have HKW := Lib.hid hk
  have H4 := Lib.hid h4
  clear hk h4
  go_wp2_with fail
  have D := fun w' (h : Below w4.heap.size w4.drew w') => four hb4 (Below.trans (Below.refl _ _).drew h)
  have DW := fun w' (h : Below w4.heap.size w4.drew w') => hcells w' (Below.trans (Below.refl _ _).drew h)
  have hdr := (Below.refl w4.heap.size w4).drew
  by_cases he : q.err = 0
  case neg =>
    have hd : (q.err == 0) = false := by simpa using he
    have hd2 : (q.err != 0) = true := by simpa using he
    obtain rfl : (q.err, []) = R := by
      have h1 : endP W q = q := by unfold endP; rw [if_neg (by rintro ⟨h, _⟩; exact he h)]
      rw [← HRR.out, h1]
      unfold outP
      rw [if_pos he]
    refine wp_region_one [(0, true), (1, true), (2, true), (3, true), (4, true), (5, true), (6, true), (7, true), (8, true), (9, true), (10, true), (11, true), (12, true), (13, true), (14, true), (15, true), (16, true), (17, true), (18, true)] (by kernel_rfl) (by kernel_rfl) (by kernel_rfl) (by decide) ?_
    repeat ((with_reducible show wpPerm _ _ _ _ ((_, true) :: _) _ _); (first | (refine wpPerm_on (v := ?_) rfl rfl (wanted_free rfl) (fun w' hS => ?_) ?_; rotate_left; (focus (go_simp; (try with_reducible rfl); done)); try simp only [List.setIfInBounds_toArray, List.set_cons_zero, List.set_cons_succ]) | (refine wpPerm_on (v := ?_) rfl rfl (wanted_yes rfl rfl rfl) (fun w' hS => ?_) ?_; rotate_left; (focus (go_simp; (try with_reducible rfl); done)); try simp only [List.setIfInBounds_toArray, List.set_cons_zero, List.set_cons_succ]) | (refine wpPerm_off rfl rfl (wanted_no rfl rfl rfl) ?_; try simp only [List.setIfInBounds_toArray, List.set_cons_zero, List.set_cons_succ]) | (refine wpPerm_off rfl rfl (wanted_undef rfl rfl rfl) ?_; try simp only [List.setIfInBounds_toArray, List.set_cons_zero, List.set_cons_succ])))
    refine wpPerm_done ?_
    clear D DW he
    have H5 := Lib.hid (H4.out.ext hdr)
    generalize w4.drew = w5 at *
    have q5 := four H5.out.blk (Below.refl _ _)
    go_wp2_with fail
    have D := fun w' (h : Below w5.heap.size w5.drew w') => four H5.out.blk (Below.trans (Below.refl _ _).drew h)
    refine wp_region_one [(0, true), (1, true), (2, true), (3, true), (4, true), (5, true)] (by kernel_rfl) (by kernel_rfl) (by kernel_rfl) (by decide) ?_
    repeat ((with_reducible show wpPerm _ _ _ _ ((_, true) :: _) _ _); (first | (refine wpPerm_on (v := ?_) rfl rfl (wanted_free rfl) (fun w' hS => ?_) ?_; rotate_left; (focus (go_simp; (try with_reducible rfl); done)); try simp only [List.setIfInBounds_toArray, List.set_cons_zero, List.set_cons_succ]) | (refine wpPerm_on (v := ?_) rfl rfl (wanted_yes rfl rfl rfl) (fun w' hS => ?_) ?_; rotate_left; (focus (go_simp; (try with_reducible rfl); done)); try simp only [List.setIfInBounds_toArray, List.set_cons_zero, List.set_cons_succ]) | (refine wpPerm_off rfl rfl (wanted_no rfl rfl rfl) ?_; try simp only [List.setIfInBounds_toArray, List.set_cons_zero, List.set_cons_succ]) | (refine wpPerm_off rfl rfl (wanted_undef rfl rfl rfl) ?_; try simp only [List.setIfInBounds_toArray, List.set_cons_zero, List.set_cons_succ])))
    refine wpPerm_done ?_
    clear D q5
    have hbf := Below.trans hb2 (Below.mono (H5.out.below.drew) hwg)
    generalize w5.drew = w6 at *
    go_wp2
    exact bodyPost_ret (v := .tuple #[.slice none 0 0, .int .i64 q.err]) (by simp [results, Try.results15, go_sem]; try rfl) rfl ⟨none, 0, 0, rfl, rfl, World.ownsRow_nil _ _ _ _, hbf⟩
  have hd : (q.err == 0) = true := by simpa using he
  by_cases hk0 : k = 0
  case neg =>
    have hd3 : (k != 0) = true := by simpa using hk0
    have hfe : failP 6 q = ⟨q.at_, 6, q.e⟩ := by unfold failP; rw [if_pos he]
    obtain rfl : ((6 : Int), []) = R := by
      have h1 : endP W q = failP 6 q := by unfold endP; rw [if_pos ⟨he, by rw [HKW.out]; exact hk0⟩]
      rw [← HRR.out, h1, hfe]
      unfold outP
      rw [if_pos (show (6 : Int) ≠ 0 by decide)]
    refine wp_region_one [(0, true), (1, true), (2, true), (3, true), (4, true), (5, true), (6, true), (7, true), (8, true), (9, true), (10, true), (11, true), (12, true), (13, true), (14, true), (15, true), (16, true), (17, true), (18, true)] (by kernel_rfl) (by kernel_rfl) (by kernel_rfl) (by decide) ?_
    repeat ((with_reducible show wpPerm _ _ _ _ ((_, true) :: _) _ _); (first | (refine wpPerm_on (v := ?_) rfl rfl (wanted_free rfl) (fun w' hS => ?_) ?_; rotate_left; (focus (go_simp; (try with_reducible rfl); done)); try simp only [List.setIfInBounds_toArray, List.set_cons_zero, List.set_cons_succ]) | (refine wpPerm_on (v := ?_) rfl rfl (wanted_yes rfl rfl rfl) (fun w' hS => ?_) ?_; rotate_left; (focus (go_simp; (try with_reducible rfl); done)); try simp only [List.setIfInBounds_toArray, List.set_cons_zero, List.set_cons_succ]) | (refine wpPerm_off rfl rfl (wanted_no rfl rfl rfl) ?_; try simp only [List.setIfInBounds_toArray, List.set_cons_zero, List.set_cons_succ]) | (refine wpPerm_off rfl rfl (wanted_undef rfl rfl rfl) ?_; try simp only [List.setIfInBounds_toArray, List.set_cons_zero, List.set_cons_succ])))
    refine wpPerm_done ?_
    clear D DW hk0
    have HF := Lib.hid (pfail_ 6 (H4.out.ext hdr))
    have HFE := Lib.hid hfe
    clear hfe he hcells hb4
    go_wp2_with fail
    refine (HF.out).mono ?_
    rintro e w5 ⟨rfl, h5⟩
    rw [HFE.out] at h5
    have H5 := Lib.hid h5
    clear h5 hd
    have hd2 : ((6 : Int) != 0) = true := rfl
    have q5 := four H5.out.blk (Below.refl _ _)
    go_wp2_with fail
    have D := fun w' (h : Below w5.heap.size w5.drew w') => four H5.out.blk (Below.trans (Below.refl _ _).drew h)
    refine wp_region_one [(0, true), (1, true), (2, true), (3, true), (4, true), (5, true)] (by kernel_rfl) (by kernel_rfl) (by kernel_rfl) (by decide) ?_
    repeat ((with_reducible show wpPerm _ _ _ _ ((_, true) :: _) _ _); (first | (refine wpPerm_on (v := ?_) rfl rfl (wanted_free rfl) (fun w' hS => ?_) ?_; rotate_left; (focus (go_simp; (try with_reducible rfl); done)); try simp only [List.setIfInBounds_toArray, List.set_cons_zero, List.set_cons_succ]) | (refine wpPerm_on (v := ?_) rfl rfl (wanted_yes rfl rfl rfl) (fun w' hS => ?_) ?_; rotate_left; (focus (go_simp; (try with_reducible rfl); done)); try simp only [List.setIfInBounds_toArray, List.set_cons_zero, List.set_cons_succ]) | (refine wpPerm_off rfl rfl (wanted_no rfl rfl rfl) ?_; try simp only [List.setIfInBounds_toArray, List.set_cons_zero, List.set_cons_succ]) | (refine wpPerm_off rfl rfl (wanted_undef rfl rfl rfl) ?_; try simp only [List.setIfInBounds_toArray, List.set_cons_zero, List.set_cons_succ])))
    refine wpPerm_done ?_
    clear D q5
    have hbf := Below.trans hb2 (Below.mono (H5.out.below.drew) hwg)
    generalize w5.drew = w6 at *
    go_wp2
    exact bodyPost_ret (v := .tuple #[.slice none 0 0, .int .i64 6]) (by simp [results, Try.results15, go_sem]; try rfl) rfl ⟨none, 0, 0, rfl, rfl, World.ownsRow_nil _ _ _ _, hbf⟩
  have hd3 : (k != 0) = false := by simpa using hk0
  have hd2 : (q.err != 0) = false := by simpa using he
  obtain rfl : ((0 : Int), q.e) = R := by
    have h1 : endP W q = q := by unfold endP; rw [if_neg (by rintro ⟨_, h⟩; exact h (by rw [HKW.out]; exact hk0))]
    rw [← HRR.out, h1]
    unfold outP
    rw [if_neg (by simpa using he)]
  refine wp_region_one [(0, true), (1, true), (2, true), (3, true), (4, true), (5, true), (6, true), (7, true), (8, true), (9, true), (10, true), (11, true), (12, true), (13, true), (14, true), (15, true), (16, true), (17, true), (18, true)] (by kernel_rfl) (by kernel_rfl) (by kernel_rfl) (by decide) ?_
  repeat ((with_reducible show wpPerm _ _ _ _ ((_, true) :: _) _ _); (first | (refine wpPerm_on (v := ?_) rfl rfl (wanted_free rfl) (fun w' hS => ?_) ?_; rotate_left; (focus (go_simp; (try with_reducible rfl); done)); try simp only [List.setIfInBounds_toArray, List.set_cons_zero, List.set_cons_succ]) | (refine wpPerm_on (v := ?_) rfl rfl (wanted_yes rfl rfl rfl) (fun w' hS => ?_) ?_; rotate_left; (focus (go_simp; (try with_reducible rfl); done)); try simp only [List.setIfInBounds_toArray, List.set_cons_zero, List.set_cons_succ]) | (refine wpPerm_off rfl rfl (wanted_no rfl rfl rfl) ?_; try simp only [List.setIfInBounds_toArray, List.set_cons_zero, List.set_cons_succ]) | (refine wpPerm_off rfl rfl (wanted_undef rfl rfl rfl) ?_; try simp only [List.setIfInBounds_toArray, List.set_cons_zero, List.set_cons_succ])))
  refine wpPerm_done ?_
  clear D DW hk0 he
  have H5 := Lib.hid (H4.out.ext hdr)
  generalize w4.drew = w5 at *
  have q5 := four H5.out.blk (Below.refl _ _)
  go_wp2
  exact bodyPost_ret (v := .tuple #[.slice A4 q.e.length c4, .int .i64 0]) (by simp [results, Try.results15, go_sem]; try rfl) rfl ⟨A4, _, c4, rfl, rfl, lib.own_base H5.out.own (by omega), Below.trans hb2 (Below.mono H5.out.below hwg)⟩
end Go.Proofs.Ytfgmlgflfagdjaa.ps
