/- The document's parser: node. Printed by geny.py. -/
import Derived.Test.YtfgmlgflfagdjaaY3
import Derived.Test.YtfgmlgflfagdjaaT
import Derived.Deep.CutRange
namespace Go.Proofs.Ytfgmlgflfagdjaa.ps
open Go.ChangeShapes Go.WideShapes Go.ChangeAt Go.RowKit Go.Proofs.Ytfgmlgflfagdjaa.lib Go.Proofs.Ytfgmlgflfagdjaa.val Go.Proofs.Ytfgmlgflfagdjaa.lx Go.Proofs.Ytfgmlgflfagdjaa.ev
set_option linter.unusedVariables false

theorem oneNd (l : List Nd) : ∀ u ∈ flatK encNd l, u.oneCell' = true := flatK_all encNd (fun x u hu => by
  simp only [encNd, List.mem_cons, List.not_mem_nil, or_false] at hu
  rcases hu with rfl | rfl | rfl | rfl | rfl | rfl | rfl <;> rfl) l
theorem own_sl9 {w : World} {base n : Nat} {e : TypeId} {size : Nat} {v : Value} {xs : List Value} (h : w.ownsRow base e size v n xs) : ∃ A c, v = .slice A n c := by
  rcases h.2 with ⟨rfl, rfl⟩ | ⟨g, cap, cur, rfl, _⟩
  · exact ⟨_, _, rfl⟩
  · exact ⟨_, _, rfl⟩
set_option maxRecDepth 1000000 in
set_option maxHeartbeats 4000000 in
theorem pnode_ (n : Nd) {w0 w : World} {g : Nat} {W : List Wd} {Aw : Option Addr} {cw : Nat} {p : Ps} {Ae : Option Addr} {ce : Nat} (h : PrB w0 w g W Aw cw p Ae ce) :
    Calls Try.prog 65 #[.pointer (some ⟨g, 0, none⟩), .agg #[.int .i64 n.op, .int .i64 n.a, .int .i64 n.b, .int .i64 n.v.k, .int .i64 n.v.n, .string n.v.s, .string n.s]] w fun e w' => e = .returned (.int .i64 (nodeP n p).1) ∧ PrA w0 w' g W Aw cw (nodeP n p).2 := by
  obtain ⟨i0, hi, hy0, hy1, hy2⟩ := info_parts (P := Try.prog) (e := 36) (z := .agg #[.int .i64 0, .int .i64 0, .int .i64 0, .int .i64 0, .int .i64 0, .string ⟨#[]⟩, .string ⟨#[]⟩]) (size := 7) (bytes := 72) (by kernel_rfl)
  have HP := Lib.hid (show nodeP n p = if p.err ≠ 0 then (0, p) else if 60 ≤ p.e.length then (0, failP 4 p) else ((p.e.length : Int), ⟨p.at_, p.err, p.e ++ [n]⟩) from rfl)
  obtain ⟨R, hR⟩ : ∃ R, nodeP n p = R := ⟨_, rfl⟩
  rw [hR]
  have HP := HP.out
  rw [hR] at HP
  clear hR
  have hfew := h.few
  obtain ⟨m, hm⟩ : ∃ m, p.e.length = m := ⟨_, rfl⟩
  rw [hm] at HP hfew
  go_enter Try.func65, Try.ntmps65
  go_upto_region 1 with fail
  obtain ⟨W1, hW_, hbW, BN⟩ : ∃ W_, W_ = (w.alloc (.cells #[.int .i64 n.op, .int .i64 n.a, .int .i64 n.b, .int .i64 n.v.k, .int .i64 n.v.n, .string n.v.s, .string n.s] 36)) ∧ Below w.heap.size w W_ ∧ Blk W_ (w.heap.size) 36 #[.int .i64 n.op, .int .i64 n.a, .int .i64 n.b, .int .i64 n.v.k, .int .i64 n.v.n, .string n.v.s, .string n.s] :=
    ⟨_, rfl, ((Below.refl _ _).alloc (Nat.le_refl _) _), (blk_new_at w (w.heap.size) _ _ (by simp))⟩
  rw [← hW_]
  clear hW_
  have h1 := h.ext hbW
  have hgW : g < W1.heap.size := h1.blk.lt
  have hb := h1.blk
  have ho := h1.own
  rw [hm] at hb ho
  have hgl := h.blk.lt
  have hol := fun k (hk : (Value.slice Ae p.e.length ce).ownBlock = some k) => (h.own.lt k hk).2
  obtain ⟨nb, hnb⟩ : ∃ nb, w.heap.size = nb := ⟨_, rfl⟩
  rw [hnb] at BN hgl hol ⊢
  rw [hm] at hol
  have HOL := Lib.hid hol
  have H1 := Lib.hid h1
  have HM := Lib.hid hm
  clear h h1 hbW hm hnb hol
  have q := four hb (Below.refl _ _)
  by_cases he : p.err = 0
  case neg =>
    have hd : (p.err != 0) = true := by simpa using he
    rw [if_pos he] at HP
    subst HP
    clear he
    go_wp2
    go_ret
    exact ⟨rfl, _, _, H1.out⟩
  have hd : (p.err != 0) = false := by simpa using he
  rw [if_neg (by simpa using he)] at HP
  have HE := Lib.hid he
  clear he
  by_cases h60 : 60 ≤ m
  case pos =>
    rw [if_pos h60] at HP
    subst HP
    have hd2 : decide ((60 : Int) ≤ (m : Int)) = true := by simp; omega
    clear h60
    go_wp2_with fail
    refine (pfail_ 4 H1.out).mono ?_
    rintro e w2 ⟨rfl, h2⟩
    have H2 := Lib.hid h2
    clear h2 q hb ho
    go_wp2
    go_ret
    exact ⟨rfl, _, _, H2.out⟩
  rw [if_neg h60] at HP
  subst HP
  have hd2 : decide ((60 : Int) ≤ (m : Int)) = false := by simp; omega
  go_wp2_with fail
  clear q
  have D := fun w' (h : Blk w' nb 36 #[.int .i64 n.op, .int .i64 n.a, .int .i64 n.b, .int .i64 n.v.k, .int .i64 n.v.n, .string n.v.s, .string n.s]) => seven h (Below.refl _ _)
  have q1 := four hb ((Below.refl W1.heap.size W1).drew)
  refine wp_region_tree (S := fun w' => Blk w' nb 36 #[.int .i64 n.op, .int .i64 n.a, .int .i64 n.b, .int .i64 n.v.k, .int .i64 n.v.n, .string n.v.s, .string n.s]) (.take 0 (.take 1 (.take 2 (.take 3 (.take 5 (.two 4 6 (.one 6 (.one 7 (.take 8 (.take 9 (.one 10 .nil))))) (.one 4 (.one 7 (.take 8 (.take 9 (.one 10 .nil)))))))))))
    (by kernel_rfl) (by kernel_rfl) (by kernel_rfl) (by decide) (by intro c a d v w h; cases d <;> exact h) BN ?_
  repeat ((with_reducible show wpTree _ _ _ _ (.take _ _) _ _); (first | (refine wpTree_on (v := ?_) rfl rfl (wanted_free rfl) (fun w' hS => ?_) ?_; rotate_left; (focus (go_simp; (try with_reducible rfl); done)); try simp only [List.setIfInBounds_toArray, List.set_cons_zero, List.set_cons_succ]) | (refine wpTree_on (v := ?_) rfl rfl (wanted_yes rfl rfl rfl) (fun w' hS => ?_) ?_; rotate_left; (focus (go_simp; (try with_reducible rfl); done)); try simp only [List.setIfInBounds_toArray, List.set_cons_zero, List.set_cons_succ]) | (refine wpTree_off rfl rfl (wanted_no rfl rfl rfl) ?_; try simp only [List.setIfInBounds_toArray, List.set_cons_zero, List.set_cons_succ]) | (refine wpTree_off rfl rfl (wanted_undef rfl rfl rfl) ?_; try simp only [List.setIfInBounds_toArray, List.set_cons_zero, List.set_cons_succ])))
  clear D
  refine wpTree_both rfl (wanted_free rfl) rfl (wanted_free rfl) (fun K hK => ?_) (fun K hK => ?_)
  · go_simp
    refine hK.out _ _ BN ?_
    clear hK K q1
    refine wpTree_do rfl (wanted_free rfl) (fun K hK => ?_); go_simp
    refine hK.out _ _ (BN.alloc _) ?_
    clear hK K
    have hbd : Below W1.heap.size W1 ((W1.alloc (.cells #[.int .i64 n.op, .int .i64 n.a, .int .i64 n.b, .int .i64 n.v.k, .int .i64 n.v.n, .string n.v.s, .string n.s] 36)).drew) := ((Below.refl _ _).alloc (Nat.le_refl _) _).drew
    have hb2 : Blk ((W1.alloc (.cells #[.int .i64 n.op, .int .i64 n.a, .int .i64 n.b, .int .i64 n.v.k, .int .i64 n.v.n, .string n.v.s, .string n.s] 36)).drew) g 72 #[.slice Aw W.length cw, .int .i64 (p.at_ : Int), .int .i64 p.err, .slice Ae m ce] := hb.ext hbd
    have hn2 : Blk ((W1.alloc (.cells #[.int .i64 n.op, .int .i64 n.a, .int .i64 n.b, .int .i64 n.v.k, .int .i64 n.v.n, .string n.v.s, .string n.s] 36)).drew) nb 36 #[.int .i64 n.op, .int .i64 n.a, .int .i64 n.b, .int .i64 n.v.k, .int .i64 n.v.n, .string n.v.s, .string n.s] := BN.ext hbd
    have hB3 : Blk ((W1.alloc (.cells #[.int .i64 n.op, .int .i64 n.a, .int .i64 n.b, .int .i64 n.v.k, .int .i64 n.v.n, .string n.v.s, .string n.s] 36)).drew) W1.heap.size 36 #[.int .i64 n.op, .int .i64 n.a, .int .i64 n.b, .int .i64 n.v.k, .int .i64 n.v.n, .string n.v.s, .string n.s] := Blk.new W1 _ _
    have ho2 := lib.own_ext ho hbd
    have hbx := Below.trans H1.out.below (Below.mono hbd (Nat.le_of_lt hgW))
    generalize hw2 : ((W1.alloc (.cells #[.int .i64 n.op, .int .i64 n.a, .int .i64 n.b, .int .i64 n.v.k, .int .i64 n.v.n, .string n.v.s, .string n.s] 36)).drew) = w2 at *
    clear hw2
    refine wpTree_do rfl (wanted_free rfl) (fun K hK => ?_)
    refine wp_append_own _ (.tmp 22) (.tmp 24) 23 rfl (g + 1) 36 i0 _ 7 72 Try.underlying23 hi hy0 hy1 hy2 rfl (by decide) _ m (flatK encNd p.e) rfl ho2 ⟨W1.heap.size, 0, none⟩ 1 1 (encNd n) rfl rfl (Row.of_blk hB3 (Nat.zero_le _) 1 1 (Nat.le_refl _)).src (fun u hu => oneNd [n] u (by simpa [flatK_one] using hu)) (by unfold maxLen; omega) (by omega) (Nat.le_trans hgW hbd.size) ?_
    intro v' wc hown hgrow _
    obtain ⟨A4, c4, rfl⟩ := own_sl9 hown
    have hb3 := hb2.grown hgrow (fun e => by have := (ho2.lt _ e.symm).1; omega)
    have hn3 := hn2.grown hgrow (fun e => by have := HOL.out _ e.symm; omega)
    have hbx3 := hbx.grown hgrow (by have := hbd.size; omega) (fun k hk => Nat.le_of_succ_le (ho2.lt k hk).1)
    refine hK.out _ _ hn3 ?_
    clear hK K
    repeat ((with_reducible show wpTree _ _ _ _ (.take _ _) _ _); (first | (refine wpTree_on (v := ?_) rfl rfl (wanted_free rfl) (fun w' hS => ?_) ?_; rotate_left; (focus (go_simp; (try with_reducible rfl); done))) | (refine wpTree_on (v := ?_) rfl rfl (wanted_yes rfl rfl rfl) (fun w' hS => ?_) ?_; rotate_left; (focus (go_simp; (try with_reducible rfl); done))) | (refine wpTree_off rfl rfl (wanted_no rfl rfl rfl) ?_) | (refine wpTree_off rfl rfl (wanted_undef rfl rfl rfl) ?_)))
    have q3 := four hb3 (Below.refl _ _)
    have f3 := hb3.frozen 3
    refine wpTree_do rfl (wanted_free rfl) (fun K hK => ?_); go_simp
    clear q3 f3
    refine hK.out _ _ (hn3.far (p := ⟨g, 3, none⟩) (show nb ≠ g by omega) _) (wpTree_end ?_)
    clear hK K
    have hb5 : Blk (wc.setCell ⟨g, 3, none⟩ (.slice A4 (m + 1) c4)) g 72 #[.slice Aw W.length cw, .int .i64 (p.at_ : Int), .int .i64 p.err, .slice A4 (m + 1) c4] := by simpa using hb3.set_ 3 (.slice A4 (m + 1) c4)
    have ho5 := lx.own_far hown hb3 (by decide) 3 (.slice A4 (m + 1) c4)
    have hbx5 := hbx3.setCell (p := ⟨g, 3, none⟩) (Nat.le_refl _) (.slice A4 (m + 1) c4)
    generalize wc.setCell ⟨g, 3, none⟩ (.slice A4 (m + 1) c4) = w5 at *
    have hl5 : (p.e ++ [n]).length = m + 1 := by rw [List.length_append, HM.out]; rfl
    have H5 := Lib.hid (show PrB w0 w5 g W Aw cw ⟨p.at_, p.err, p.e ++ [n]⟩ A4 c4 from ⟨hbx5, H1.out.hg, H1.out.row, by rw [hl5]; exact hb5, by rw [hl5, flatK_append, flatK_one]; exact ho5, H1.out.lt, by rw [hl5]; omega, H1.out.wok, H1.out.wl, H1.out.ws⟩)
    have q5 := four hb5 (Below.refl _ _)
    clear hl5 ho5 hbx5 hb5 hbx3 hn3 hb3 hown hgrow
    go_wp2
    go_ret
    exact ⟨ret_int (by omega), _, _, H5.out⟩
  · clear q1
    go_simp
    refine hK.out _ _ (BN.alloc _) ?_
    clear hK K
    have q2 := four hb (((Below.refl W1.heap.size W1).alloc (Nat.le_refl _) (.cells #[.int .i64 n.op, .int .i64 n.a, .int .i64 n.b, .int .i64 n.v.k, .int .i64 n.v.n, .string n.v.s, .string n.s] 36)).drew)
    refine wpTree_do rfl (wanted_free rfl) (fun K hK => ?_); go_simp
    clear q2
    refine hK.out _ _ (BN.alloc _) ?_
    clear hK K
    have hbd : Below W1.heap.size W1 ((W1.alloc (.cells #[.int .i64 n.op, .int .i64 n.a, .int .i64 n.b, .int .i64 n.v.k, .int .i64 n.v.n, .string n.v.s, .string n.s] 36)).drew) := ((Below.refl _ _).alloc (Nat.le_refl _) _).drew
    have hb2 : Blk ((W1.alloc (.cells #[.int .i64 n.op, .int .i64 n.a, .int .i64 n.b, .int .i64 n.v.k, .int .i64 n.v.n, .string n.v.s, .string n.s] 36)).drew) g 72 #[.slice Aw W.length cw, .int .i64 (p.at_ : Int), .int .i64 p.err, .slice Ae m ce] := hb.ext hbd
    have hn2 : Blk ((W1.alloc (.cells #[.int .i64 n.op, .int .i64 n.a, .int .i64 n.b, .int .i64 n.v.k, .int .i64 n.v.n, .string n.v.s, .string n.s] 36)).drew) nb 36 #[.int .i64 n.op, .int .i64 n.a, .int .i64 n.b, .int .i64 n.v.k, .int .i64 n.v.n, .string n.v.s, .string n.s] := BN.ext hbd
    have hB3 : Blk ((W1.alloc (.cells #[.int .i64 n.op, .int .i64 n.a, .int .i64 n.b, .int .i64 n.v.k, .int .i64 n.v.n, .string n.v.s, .string n.s] 36)).drew) W1.heap.size 36 #[.int .i64 n.op, .int .i64 n.a, .int .i64 n.b, .int .i64 n.v.k, .int .i64 n.v.n, .string n.v.s, .string n.s] := Blk.new W1 _ _
    have ho2 := lib.own_ext ho hbd
    have hbx := Below.trans H1.out.below (Below.mono hbd (Nat.le_of_lt hgW))
    generalize hw2 : ((W1.alloc (.cells #[.int .i64 n.op, .int .i64 n.a, .int .i64 n.b, .int .i64 n.v.k, .int .i64 n.v.n, .string n.v.s, .string n.s] 36)).drew) = w2 at *
    clear hw2
    refine wpTree_do rfl (wanted_free rfl) (fun K hK => ?_)
    refine wp_append_own _ (.tmp 22) (.tmp 24) 23 rfl (g + 1) 36 i0 _ 7 72 Try.underlying23 hi hy0 hy1 hy2 rfl (by decide) _ m (flatK encNd p.e) rfl ho2 ⟨W1.heap.size, 0, none⟩ 1 1 (encNd n) rfl rfl (Row.of_blk hB3 (Nat.zero_le _) 1 1 (Nat.le_refl _)).src (fun u hu => oneNd [n] u (by simpa [flatK_one] using hu)) (by unfold maxLen; omega) (by omega) (Nat.le_trans hgW hbd.size) ?_
    intro v' wc hown hgrow _
    obtain ⟨A4, c4, rfl⟩ := own_sl9 hown
    have hb3 := hb2.grown hgrow (fun e => by have := (ho2.lt _ e.symm).1; omega)
    have hn3 := hn2.grown hgrow (fun e => by have := HOL.out _ e.symm; omega)
    have hbx3 := hbx.grown hgrow (by have := hbd.size; omega) (fun k hk => Nat.le_of_succ_le (ho2.lt k hk).1)
    refine hK.out _ _ hn3 ?_
    clear hK K
    repeat ((with_reducible show wpTree _ _ _ _ (.take _ _) _ _); (first | (refine wpTree_on (v := ?_) rfl rfl (wanted_free rfl) (fun w' hS => ?_) ?_; rotate_left; (focus (go_simp; (try with_reducible rfl); done))) | (refine wpTree_on (v := ?_) rfl rfl (wanted_yes rfl rfl rfl) (fun w' hS => ?_) ?_; rotate_left; (focus (go_simp; (try with_reducible rfl); done))) | (refine wpTree_off rfl rfl (wanted_no rfl rfl rfl) ?_) | (refine wpTree_off rfl rfl (wanted_undef rfl rfl rfl) ?_)))
    have q3 := four hb3 (Below.refl _ _)
    have f3 := hb3.frozen 3
    refine wpTree_do rfl (wanted_free rfl) (fun K hK => ?_); go_simp
    clear q3 f3
    refine hK.out _ _ (hn3.far (p := ⟨g, 3, none⟩) (show nb ≠ g by omega) _) (wpTree_end ?_)
    clear hK K
    have hb5 : Blk (wc.setCell ⟨g, 3, none⟩ (.slice A4 (m + 1) c4)) g 72 #[.slice Aw W.length cw, .int .i64 (p.at_ : Int), .int .i64 p.err, .slice A4 (m + 1) c4] := by simpa using hb3.set_ 3 (.slice A4 (m + 1) c4)
    have ho5 := lx.own_far hown hb3 (by decide) 3 (.slice A4 (m + 1) c4)
    have hbx5 := hbx3.setCell (p := ⟨g, 3, none⟩) (Nat.le_refl _) (.slice A4 (m + 1) c4)
    generalize wc.setCell ⟨g, 3, none⟩ (.slice A4 (m + 1) c4) = w5 at *
    have hl5 : (p.e ++ [n]).length = m + 1 := by rw [List.length_append, HM.out]; rfl
    have H5 := Lib.hid (show PrB w0 w5 g W Aw cw ⟨p.at_, p.err, p.e ++ [n]⟩ A4 c4 from ⟨hbx5, H1.out.hg, H1.out.row, by rw [hl5]; exact hb5, by rw [hl5, flatK_append, flatK_one]; exact ho5, H1.out.lt, by rw [hl5]; omega, H1.out.wok, H1.out.wl, H1.out.ws⟩)
    have q5 := four hb5 (Below.refl _ _)
    clear hl5 ho5 hbx5 hb5 hbx3 hn3 hb3 hown hgrow
    go_wp2
    go_ret
    exact ⟨ret_int (by omega), _, _, H5.out⟩
end Go.Proofs.Ytfgmlgflfagdjaa.ps
