/- The builder in memory; put. Printed by gen11.py. -/
import Derived.Test.YtfnceamkephpjaaGreatMP8
import Derived.Test.YtfnceamkephpjaaGreatT
namespace Go.Proofs.YtfnceamkephpjaaGreat.pg
open Go.ChangeShapes Go.WideShapes Go.ChangeAt Go.RowKit Go.Proofs.YtfnceamkephpjaaGreat.lib Go.Proofs.YtfnceamkephpjaaGreat.lx
set_option linter.unusedVariables false

def encNd (n : Nd) : List Value := [.int .i64 n.op, .int .i64 n.a, .int .i64 n.b, .int .i64 n.k, .int .i64 n.n, .string ⟨n.s.toArray⟩, .string ⟨n.nm.toArray⟩]
def ndV' (n : Nd) : Value := .agg #[.int .i64 n.op, .int .i64 n.a, .int .i64 n.b, .int .i64 n.k, .int .i64 n.n, .string ⟨n.s.toArray⟩, .string ⟨n.nm.toArray⟩]
theorem kNd (n : Nd) : (encNd n).length = 7 := rfl
theorem oneNd (l : List Nd) : ∀ u ∈ flatK encNd l, u.oneCell' = true := flatK_all encNd (fun x u hu => by
  simp only [encNd, List.mem_cons, List.not_mem_nil, or_false] at hu
  rcases hu with rfl | rfl | rfl | rfl | rfl | rfl | rfl <;> rfl) l
theorem own_sl {w : World} {base n : Nat} {e : TypeId} {size : Nat} {v : Value} {xs : List Value} (h : w.ownsRow base e size v n xs) : ∃ A c, v = .slice A n c := by
  rcases h.2 with ⟨rfl, rfl⟩ | ⟨g, cap, cur, rfl, _⟩
  · exact ⟨_, _, rfl⟩
  · exact ⟨_, _, rfl⟩
/-- what a builder's rule leaves as it was: all but the parser g, the builder h, and rows of nodes made behind it -/
structure Fr (g h : Nat) (w w' : World) : Prop where
  os : w'.os = w.os
  tape : w'.tape = w.tape
  output : w'.output = w.output
  size : w.heap.size ≤ w'.heap.size
  block : ∀ k, k < w.heap.size → k ≠ g → k ≠ h → (k < h ∨ ∀ cs, w.heap[k]? ≠ some (.cells cs 45)) → w'.heap[k]? = w.heap[k]?
theorem Fr.refl (g h : Nat) (w : World) : Fr g h w w := ⟨rfl, rfl, rfl, Nat.le_refl _, fun _ _ _ _ _ => rfl⟩
theorem Fr.tr {g h : Nat} {w w1 w2 : World} (x : Fr g h w w1) (y : Fr g h w1 w2) : Fr g h w w2 :=
  ⟨y.os.trans x.os, y.tape.trans x.tape, y.output.trans x.output, Nat.le_trans x.size y.size, fun k hk h1 h2 h3 => by
    have e := x.block k hk h1 h2 h3
    exact (y.block k (Nat.lt_of_lt_of_le hk x.size) h1 h2 (by rw [e]; exact h3)).trans e⟩
theorem Fr.of_g {g h : Nat} {w w' : World} (x : w.grownBy w' (some g)) : Fr g h w w' := ⟨x.os, x.tape, x.output, x.size, fun k hk h1 _ _ => x.block k hk (fun e => h1 (by injection e))⟩
theorem Fr.of_h {g h : Nat} {w w' : World} (x : w.grownBy w' (some h)) : Fr g h w w' := ⟨x.os, x.tape, x.output, x.size, fun k hk _ h2 _ => x.block k hk (fun e => h2 (by injection e))⟩
theorem Fr.of_below {g h : Nat} {w w' : World} (x : Below w.heap.size w w') : Fr g h w w' := ⟨x.os, x.tape, x.output, x.size, fun k hk _ _ _ => x.block k hk⟩
theorem Fr.of_own {g h n : Nat} {w w' : World} {v : Value} {xs : List Value} (o : w.ownsRow (h + 1) 45 7 v n xs) (x : w.grownBy w' v.ownBlock) : Fr g h w w' := ⟨x.os, x.tape, x.output, x.size, fun k hk _ _ h3 => x.block k hk (fun e => by
  rcases h3 with h3 | h3
  · have := (o.lt _ e.symm).1; omega
  · rcases o.2 with ⟨rfl, _⟩ | ⟨g', cap, cur, rfl, _, hh, _⟩
    · cases e
    · have e : k = g' := by simpa [Value.ownBlock] using e
      subst e
      exact h3 _ hh)⟩
theorem mapfr {g h m : Nat} {w w' : World} {M : List (List UInt8 × Value)} (x : MapAt w m M) (f : Fr g h w w') (h1 : m ≠ g) (h2 : m ≠ h) : MapAt w' m M := x.same (f.block m x.lt h1 h2 (.inr fun cs => x.notCells cs _))
theorem Fr.blk {g h q : Nat} {w w' : World} {t : TypeId} {cs : Array Value} (f : Fr g h w w') (x : Blk w q t cs) (h1 : q ≠ g) (h2 : q ≠ h) (h3 : t ≠ 45) : Blk w' q t cs := (f.block q x.lt h1 h2 (.inr fun cs' e => by
  unfold Blk at x
  rw [x] at e
  injection e with e
  injection e with _ e _
  exact h3 e)).trans x
/-- a builder in the block h, over the parser in the block g -/
structure Bb (w : World) (g h : Nat) (W : List Wd) (b : Nat) (B : Bs) (Ae : Option Addr) (ce : Nat) : Prop where
  pr : Pr w g W b B.p
  blk : Blk w h 88 #[.pointer (some ⟨g, 0, none⟩), .slice Ae B.e.length ce]
  own : w.ownsRow (h + 1) 45 7 (.slice Ae B.e.length ce) B.e.length (flatK encNd B.e)
  few : B.e.length ≤ 60
  gh : g < h
  bh : b < h
def Br (w : World) (g h : Nat) (W : List Wd) (b : Nat) (B : Bs) : Prop := ∃ Ae ce, Bb w g h W b B Ae ce
section
variable {w w' : World} {g h : Nat} {W : List Wd} {b : Nat} {B : Bs} {Ae : Option Addr} {ce : Nat}
theorem Bb.ext (x : Bb w g h W b B Ae ce) (hb : Below w.heap.size w w') : Bb w' g h W b B Ae ce := ⟨x.pr.ext hb, x.blk.ext hb, lib.own_ext x.own hb, x.few, x.gh, x.bh⟩
/-- a step of the parser -/
theorem Bb.parser {q : Pp} (x : Bb w g h W b B Ae ce) (hp : Pr w' g W b q) (hg : w.grownBy w' (some g)) : Bb w' g h W b ⟨q, B.e⟩ Ae ce :=
  ⟨hp, x.blk.grown hg (by have := x.gh; simp; omega), x.own.kept hg (.inr fun e => by have := (x.own.lt _ e).1; have := x.gh; omega), x.few, x.gh, x.bh⟩
theorem Br.ext (x : Br w g h W b B) (hb : Below w.heap.size w w') : Br w' g h W b B := by
  obtain ⟨Ae, ce, x⟩ := x
  exact ⟨Ae, ce, x.ext hb⟩
theorem Br.parser {q : Pp} (x : Br w g h W b B) (hp : Pr w' g W b q) (hg : w.grownBy w' (some g)) : Br w' g h W b ⟨q, B.e⟩ := by
  obtain ⟨Ae, ce, x⟩ := x
  exact ⟨Ae, ce, x.parser hp hg⟩
theorem Br.pr (x : Br w g h W b B) : Pr w g W b B.p := by
  obtain ⟨Ae, ce, x⟩ := x
  exact x.pr
theorem Br.gh (x : Br w g h W b B) : g < h := by
  obtain ⟨Ae, ce, x⟩ := x
  exact x.gh
theorem Br.hl (x : Br w g h W b B) : h < w.heap.size := by
  obtain ⟨Ae, ce, x⟩ := x
  exact x.blk.lt
theorem Br.cell (x : Br w g h W b B) : w.cell? ⟨h, 0, none⟩ = some (.pointer (some ⟨g, 0, none⟩)) := by
  obtain ⟨Ae, ce, x⟩ := x
  exact x.blk.cell 0
/-- the first error's cell -/
theorem Br.ecell (x : Br w g h W b B) : w.cell? ⟨g, 1, none⟩ = some (.int .i64 B.p.err) := by
  obtain ⟨Ae, ce, x⟩ := x
  obtain ⟨a, n, c, y⟩ := x.pr
  exact y.blk.cell 1
end
set_option maxRecDepth 1000000 in
set_option maxHeartbeats 4000000 in
theorem put_ (n : Nd) {w : World} {g h : Nat} {W : List Wd} {b : Nat} {B : Bs} (x : Br w g h W b B) :
    Calls Tryz.prog 66 #[.pointer (some ⟨h, 0, none⟩), .agg #[.int .i64 n.op, .int .i64 n.a, .int .i64 n.b, .int .i64 n.k, .int .i64 n.n, .string ⟨n.s.toArray⟩, .string ⟨n.nm.toArray⟩]] w fun e w' => e = .returned (.int .i64 (putP n B).1) ∧ Br w' g h W b (putP n B).2 ∧ Fr g h w w' := by
  obtain ⟨i0, hi, hy0, hy1, hy2⟩ := info_parts (P := Tryz.prog) (e := 45) (z := .agg #[.int .i64 0, .int .i64 0, .int .i64 0, .int .i64 0, .int .i64 0, .string ⟨#[]⟩, .string ⟨#[]⟩]) (size := 7) (bytes := 72) (by kernel_rfl)
  obtain ⟨Ae, ce, x⟩ := x
  obtain ⟨R, hR⟩ : ∃ R, putP n B = R := ⟨_, rfl⟩
  have HP := (show putP n B = if 60 ≤ B.e.length then (0, ⟨failP 4 B.p, B.e⟩) else ((B.e.length : Int), ⟨B.p, B.e ++ [n]⟩) from rfl).symm.trans hR
  rw [hR]
  clear hR
  have hfew := x.few
  have hgh := x.gh
  have hbh := x.bh
  obtain ⟨m, hm⟩ : ∃ m, B.e.length = m := ⟨_, rfl⟩
  rw [hm] at HP hfew
  go_enter Tryz.func66, Tryz.ntmps66
  go_upto_region 1 with fail
  obtain ⟨W1, hW_, hbW, BN⟩ : ∃ W_, W_ = (w.alloc (.cells #[.int .i64 n.op, .int .i64 n.a, .int .i64 n.b, .int .i64 n.k, .int .i64 n.n, .string ⟨n.s.toArray⟩, .string ⟨n.nm.toArray⟩] 45)) ∧ Below w.heap.size w W_ ∧ Blk W_ (w.heap.size) 45 #[.int .i64 n.op, .int .i64 n.a, .int .i64 n.b, .int .i64 n.k, .int .i64 n.n, .string ⟨n.s.toArray⟩, .string ⟨n.nm.toArray⟩] :=
    ⟨_, rfl, ((Below.refl _ _).alloc (Nat.le_refl _) _), (blk_new_at w (w.heap.size) _ _ (by simp))⟩
  rw [← hW_]
  clear hW_
  have h1 := x.ext hbW
  have HF1 := Lib.hid (Fr.of_below (g := g) (h := h) hbW)
  have hgW : h < W1.heap.size := h1.blk.lt
  have hb := h1.blk
  have ho := h1.own
  rw [hm] at hb ho
  have hgl := x.blk.lt
  have hol := fun k (hk : (Value.slice Ae B.e.length ce).ownBlock = some k) => (x.own.lt k hk).2
  obtain ⟨nb, hnb⟩ : ∃ nb, w.heap.size = nb := ⟨_, rfl⟩
  rw [hnb] at BN hgl hol ⊢
  rw [hm] at hol
  have HOL := Lib.hid hol
  have H1 := Lib.hid h1
  have HPR := Lib.hid h1.pr
  have HM := Lib.hid hm
  clear x h1 hbW hm hnb hol
  have q := two hb (Below.refl _ _)
  by_cases h60 : 60 ≤ m
  case pos =>
    rw [if_pos h60] at HP
    subst HP
    have hd2 : decide ((60 : Int) ≤ (m : Int)) = true := by simp; omega
    have HFL := Lib.hid (pfail_ 4 HPR.out)
    clear h60
    go_wp2_with fail
    refine (HFL.out).mono ?_
    rintro e w2 ⟨rfl, h2, hg2⟩
    have H2 := Lib.hid (H1.out.parser h2 hg2)
    have HF2 := Lib.hid (HF1.out.tr (Fr.of_g hg2))
    clear h2 q hb ho hg2
    go_wp2
    go_ret
    exact ⟨rfl, ⟨_, _, H2.out⟩, HF2.out⟩
  rw [if_neg h60] at HP
  subst HP
  have hd2 : decide ((60 : Int) ≤ (m : Int)) = false := by simp; omega
  go_wp2_with fail
  clear q
  have D := fun w' (h : Blk w' nb 45 #[.int .i64 n.op, .int .i64 n.a, .int .i64 n.b, .int .i64 n.k, .int .i64 n.n, .string ⟨n.s.toArray⟩, .string ⟨n.nm.toArray⟩]) => (show w'.cell? ⟨nb, 0, none⟩ = some (.int .i64 n.op) ∧ w'.cell? ⟨nb, 1, none⟩ = some (.int .i64 n.a) ∧ w'.cell? ⟨nb, 2, none⟩ = some (.int .i64 n.b) ∧ w'.cell? ⟨nb, 3, none⟩ = some (.int .i64 n.k) ∧ w'.cell? ⟨nb, 4, none⟩ = some (.int .i64 n.n) ∧ w'.cell? ⟨nb, 5, none⟩ = some (.string ⟨n.s.toArray⟩) ∧ w'.cell? ⟨nb, 6, none⟩ = some (.string ⟨n.nm.toArray⟩) from ⟨h.cell 0, h.cell 1, h.cell 2, h.cell 3, h.cell 4, h.cell 5, h.cell 6⟩)
  have q1 := two hb ((Below.refl W1.heap.size W1).drew)
  refine wp_region_tree (S := fun w' => Blk w' nb 45 #[.int .i64 n.op, .int .i64 n.a, .int .i64 n.b, .int .i64 n.k, .int .i64 n.n, .string ⟨n.s.toArray⟩, .string ⟨n.nm.toArray⟩]) (.take 0 (.take 1 (.take 2 (.take 3 (.take 5 (.two 4 6 (.one 6 (.one 7 (.take 8 (.take 9 (.one 10 .nil))))) (.one 4 (.one 7 (.take 8 (.take 9 (.one 10 .nil)))))))))))
    (by kernel_rfl) (by kernel_rfl) (by kernel_rfl) (by decide) (by intro c a d v w h; cases d <;> exact h) BN ?_
  repeat ((with_reducible show wpTree _ _ _ _ (.take _ _) _ _); (first | (refine wpTree_on (v := ?_) rfl rfl (wanted_free rfl) (fun w' hS => ?_) ?_; rotate_left; (focus (go_simp; (try with_reducible rfl); done)); try simp only [List.setIfInBounds_toArray, List.set_cons_zero, List.set_cons_succ]) | (refine wpTree_on (v := ?_) rfl rfl (wanted_yes rfl rfl rfl) (fun w' hS => ?_) ?_; rotate_left; (focus (go_simp; (try with_reducible rfl); done)); try simp only [List.setIfInBounds_toArray, List.set_cons_zero, List.set_cons_succ]) | (refine wpTree_off rfl rfl (wanted_no rfl rfl rfl) ?_; try simp only [List.setIfInBounds_toArray, List.set_cons_zero, List.set_cons_succ]) | (refine wpTree_off rfl rfl (wanted_undef rfl rfl rfl) ?_; try simp only [List.setIfInBounds_toArray, List.set_cons_zero, List.set_cons_succ])))
  clear D
  refine wpTree_both rfl (wanted_free rfl) rfl (wanted_free rfl) (fun K hK => ?_) (fun K hK => ?_)
  · go_simp
    refine hK.out _ _ BN ?_
    clear hK K q1
    refine wpTree_do rfl (wanted_free rfl) (fun K hK => ?_); go_simp
    refine hK.out _ _ (BN.alloc _) ?_
    clear hK K
    have hbd : Below W1.heap.size W1 ((W1.alloc (.cells #[.int .i64 n.op, .int .i64 n.a, .int .i64 n.b, .int .i64 n.k, .int .i64 n.n, .string ⟨n.s.toArray⟩, .string ⟨n.nm.toArray⟩] 45)).drew) := ((Below.refl _ _).alloc (Nat.le_refl _) _).drew
    have hb2 : Blk ((W1.alloc (.cells #[.int .i64 n.op, .int .i64 n.a, .int .i64 n.b, .int .i64 n.k, .int .i64 n.n, .string ⟨n.s.toArray⟩, .string ⟨n.nm.toArray⟩] 45)).drew) h 88 #[.pointer (some ⟨g, 0, none⟩), .slice Ae m ce] := hb.ext hbd
    have hn2 : Blk ((W1.alloc (.cells #[.int .i64 n.op, .int .i64 n.a, .int .i64 n.b, .int .i64 n.k, .int .i64 n.n, .string ⟨n.s.toArray⟩, .string ⟨n.nm.toArray⟩] 45)).drew) nb 45 #[.int .i64 n.op, .int .i64 n.a, .int .i64 n.b, .int .i64 n.k, .int .i64 n.n, .string ⟨n.s.toArray⟩, .string ⟨n.nm.toArray⟩] := BN.ext hbd
    have hB3 : Blk ((W1.alloc (.cells #[.int .i64 n.op, .int .i64 n.a, .int .i64 n.b, .int .i64 n.k, .int .i64 n.n, .string ⟨n.s.toArray⟩, .string ⟨n.nm.toArray⟩] 45)).drew) W1.heap.size 45 #[.int .i64 n.op, .int .i64 n.a, .int .i64 n.b, .int .i64 n.k, .int .i64 n.n, .string ⟨n.s.toArray⟩, .string ⟨n.nm.toArray⟩] := Blk.new W1 _ _
    have ho2 := lib.own_ext ho hbd
    have hp2 := HPR.out.ext hbd
    have hf2 := Lib.hid (HF1.out.tr (Fr.of_below hbd))
    have hs2 := hbd.size
    generalize hw2 : ((W1.alloc (.cells #[.int .i64 n.op, .int .i64 n.a, .int .i64 n.b, .int .i64 n.k, .int .i64 n.n, .string ⟨n.s.toArray⟩, .string ⟨n.nm.toArray⟩] 45)).drew) = w2 at *
    clear hw2
    refine wpTree_do rfl (wanted_free rfl) (fun K hK => ?_)
    refine wp_append_own _ (.tmp 20) (.tmp 22) 30 rfl (h + 1) 45 i0 _ 7 72 Tryz.underlying30 hi hy0 hy1 hy2 rfl (by decide) _ m (flatK encNd B.e) rfl ho2 ⟨W1.heap.size, 0, none⟩ 1 1 (encNd n) rfl rfl (Row.of_blk hB3 (Nat.zero_le _) 1 1 (Nat.le_refl _)).src (fun u hu => oneNd [n] u (by simpa [flatK_one] using hu)) (by unfold maxLen; omega) (by omega) (by omega) ?_
    intro v' wc hown hgrow _
    obtain ⟨A4, c4, rfl⟩ := own_sl hown
    have hne1 : some h ≠ (Value.slice Ae m ce).ownBlock := fun e => by have := (ho2.lt _ e.symm).1; omega
    have hne2 : some nb ≠ (Value.slice Ae m ce).ownBlock := fun e => by have := HOL.out _ e.symm; omega
    have hne3 : some g ≠ (Value.slice Ae m ce).ownBlock := fun e => by have := (ho2.lt _ e.symm).1; omega
    have hne4 : some b ≠ (Value.slice Ae m ce).ownBlock := fun e => by have := (ho2.lt _ e.symm).1; omega
    have hb3 := hb2.grown hgrow hne1
    have hn3 := hn2.grown hgrow hne2
    have hp3 := hp2.grown hgrow hne3 hne4
    have hf3 := Lib.hid (hf2.out.tr (Fr.of_own (g := g) (h := h) ho2 hgrow))
    refine hK.out _ _ hn3 ?_
    clear hK K
    repeat ((with_reducible show wpTree _ _ _ _ (.take _ _) _ _); (first | (refine wpTree_on (v := ?_) rfl rfl (wanted_free rfl) (fun w' hS => ?_) ?_; rotate_left; (focus (go_simp; (try with_reducible rfl); done))) | (refine wpTree_on (v := ?_) rfl rfl (wanted_yes rfl rfl rfl) (fun w' hS => ?_) ?_; rotate_left; (focus (go_simp; (try with_reducible rfl); done))) | (refine wpTree_off rfl rfl (wanted_no rfl rfl rfl) ?_) | (refine wpTree_off rfl rfl (wanted_undef rfl rfl rfl) ?_)))
    have q3 := two hb3 (Below.refl _ _)
    have f3 := hb3.frozen 1
    refine wpTree_do rfl (wanted_free rfl) (fun K hK => ?_); go_simp
    clear q3 f3
    refine hK.out _ _ (hn3.far (p := ⟨h, 1, none⟩) (show nb ≠ h by omega) _) (wpTree_end ?_)
    clear hK K
    have hb5 : Blk (wc.setCell ⟨h, 1, none⟩ (.slice A4 (m + 1) c4)) h 88 #[.pointer (some ⟨g, 0, none⟩), .slice A4 (m + 1) c4] := by simpa using hb3.set_ 1 (.slice A4 (m + 1) c4)
    have ho5 := lx.own_far hown hb3 (by decide) 1 (.slice A4 (m + 1) c4)
    have hp5 := hp3.grown (grown_set wc ⟨h, 1, none⟩ (.slice A4 (m + 1) c4)) (by simp; omega) (by simp; omega)
    have hf5 := Lib.hid (hf3.out.tr (Fr.of_h (grown_set wc ⟨h, 1, none⟩ (.slice A4 (m + 1) c4))))
    generalize hw5 : wc.setCell ⟨h, 1, none⟩ (.slice A4 (m + 1) c4) = w5 at *
    clear hw5
    have hl5 : (B.e ++ [n]).length = m + 1 := by rw [List.length_append, HM.out]; rfl
    have H5 := Lib.hid (show Bb w5 g h W b ⟨B.p, B.e ++ [n]⟩ A4 c4 from ⟨hp5, by rw [hl5]; exact hb5, by rw [hl5, flatK_append, flatK_one]; exact ho5, by rw [hl5]; omega, hgh, hbh⟩)
    have q5 := two hb5 (Below.refl _ _)
    clear hl5 ho5 hb5 hn3 hb3 hown hgrow hp5 hp3
    go_wp2
    go_ret
    exact ⟨ret_int (by omega), ⟨_, _, H5.out⟩, hf5.out⟩
  · clear q1
    go_simp
    refine hK.out _ _ (BN.alloc _) ?_
    clear hK K
    have q2 := two hb (((Below.refl W1.heap.size W1).alloc (Nat.le_refl _) (.cells #[.int .i64 n.op, .int .i64 n.a, .int .i64 n.b, .int .i64 n.k, .int .i64 n.n, .string ⟨n.s.toArray⟩, .string ⟨n.nm.toArray⟩] 45)).drew)
    refine wpTree_do rfl (wanted_free rfl) (fun K hK => ?_); go_simp
    clear q2
    refine hK.out _ _ (BN.alloc _) ?_
    clear hK K
    have hbd : Below W1.heap.size W1 ((W1.alloc (.cells #[.int .i64 n.op, .int .i64 n.a, .int .i64 n.b, .int .i64 n.k, .int .i64 n.n, .string ⟨n.s.toArray⟩, .string ⟨n.nm.toArray⟩] 45)).drew) := ((Below.refl _ _).alloc (Nat.le_refl _) _).drew
    have hb2 : Blk ((W1.alloc (.cells #[.int .i64 n.op, .int .i64 n.a, .int .i64 n.b, .int .i64 n.k, .int .i64 n.n, .string ⟨n.s.toArray⟩, .string ⟨n.nm.toArray⟩] 45)).drew) h 88 #[.pointer (some ⟨g, 0, none⟩), .slice Ae m ce] := hb.ext hbd
    have hn2 : Blk ((W1.alloc (.cells #[.int .i64 n.op, .int .i64 n.a, .int .i64 n.b, .int .i64 n.k, .int .i64 n.n, .string ⟨n.s.toArray⟩, .string ⟨n.nm.toArray⟩] 45)).drew) nb 45 #[.int .i64 n.op, .int .i64 n.a, .int .i64 n.b, .int .i64 n.k, .int .i64 n.n, .string ⟨n.s.toArray⟩, .string ⟨n.nm.toArray⟩] := BN.ext hbd
    have hB3 : Blk ((W1.alloc (.cells #[.int .i64 n.op, .int .i64 n.a, .int .i64 n.b, .int .i64 n.k, .int .i64 n.n, .string ⟨n.s.toArray⟩, .string ⟨n.nm.toArray⟩] 45)).drew) W1.heap.size 45 #[.int .i64 n.op, .int .i64 n.a, .int .i64 n.b, .int .i64 n.k, .int .i64 n.n, .string ⟨n.s.toArray⟩, .string ⟨n.nm.toArray⟩] := Blk.new W1 _ _
    have ho2 := lib.own_ext ho hbd
    have hp2 := HPR.out.ext hbd
    have hf2 := Lib.hid (HF1.out.tr (Fr.of_below hbd))
    have hs2 := hbd.size
    generalize hw2 : ((W1.alloc (.cells #[.int .i64 n.op, .int .i64 n.a, .int .i64 n.b, .int .i64 n.k, .int .i64 n.n, .string ⟨n.s.toArray⟩, .string ⟨n.nm.toArray⟩] 45)).drew) = w2 at *
    clear hw2
    refine wpTree_do rfl (wanted_free rfl) (fun K hK => ?_)
    refine wp_append_own _ (.tmp 20) (.tmp 22) 30 rfl (h + 1) 45 i0 _ 7 72 Tryz.underlying30 hi hy0 hy1 hy2 rfl (by decide) _ m (flatK encNd B.e) rfl ho2 ⟨W1.heap.size, 0, none⟩ 1 1 (encNd n) rfl rfl (Row.of_blk hB3 (Nat.zero_le _) 1 1 (Nat.le_refl _)).src (fun u hu => oneNd [n] u (by simpa [flatK_one] using hu)) (by unfold maxLen; omega) (by omega) (by omega) ?_
    intro v' wc hown hgrow _
    obtain ⟨A4, c4, rfl⟩ := own_sl hown
    have hne1 : some h ≠ (Value.slice Ae m ce).ownBlock := fun e => by have := (ho2.lt _ e.symm).1; omega
    have hne2 : some nb ≠ (Value.slice Ae m ce).ownBlock := fun e => by have := HOL.out _ e.symm; omega
    have hne3 : some g ≠ (Value.slice Ae m ce).ownBlock := fun e => by have := (ho2.lt _ e.symm).1; omega
    have hne4 : some b ≠ (Value.slice Ae m ce).ownBlock := fun e => by have := (ho2.lt _ e.symm).1; omega
    have hb3 := hb2.grown hgrow hne1
    have hn3 := hn2.grown hgrow hne2
    have hp3 := hp2.grown hgrow hne3 hne4
    have hf3 := Lib.hid (hf2.out.tr (Fr.of_own (g := g) (h := h) ho2 hgrow))
    refine hK.out _ _ hn3 ?_
    clear hK K
    repeat ((with_reducible show wpTree _ _ _ _ (.take _ _) _ _); (first | (refine wpTree_on (v := ?_) rfl rfl (wanted_free rfl) (fun w' hS => ?_) ?_; rotate_left; (focus (go_simp; (try with_reducible rfl); done))) | (refine wpTree_on (v := ?_) rfl rfl (wanted_yes rfl rfl rfl) (fun w' hS => ?_) ?_; rotate_left; (focus (go_simp; (try with_reducible rfl); done))) | (refine wpTree_off rfl rfl (wanted_no rfl rfl rfl) ?_) | (refine wpTree_off rfl rfl (wanted_undef rfl rfl rfl) ?_)))
    have q3 := two hb3 (Below.refl _ _)
    have f3 := hb3.frozen 1
    refine wpTree_do rfl (wanted_free rfl) (fun K hK => ?_); go_simp
    clear q3 f3
    refine hK.out _ _ (hn3.far (p := ⟨h, 1, none⟩) (show nb ≠ h by omega) _) (wpTree_end ?_)
    clear hK K
    have hb5 : Blk (wc.setCell ⟨h, 1, none⟩ (.slice A4 (m + 1) c4)) h 88 #[.pointer (some ⟨g, 0, none⟩), .slice A4 (m + 1) c4] := by simpa using hb3.set_ 1 (.slice A4 (m + 1) c4)
    have ho5 := lx.own_far hown hb3 (by decide) 1 (.slice A4 (m + 1) c4)
    have hp5 := hp3.grown (grown_set wc ⟨h, 1, none⟩ (.slice A4 (m + 1) c4)) (by simp; omega) (by simp; omega)
    have hf5 := Lib.hid (hf3.out.tr (Fr.of_h (grown_set wc ⟨h, 1, none⟩ (.slice A4 (m + 1) c4))))
    generalize hw5 : wc.setCell ⟨h, 1, none⟩ (.slice A4 (m + 1) c4) = w5 at *
    clear hw5
    have hl5 : (B.e ++ [n]).length = m + 1 := by rw [List.length_append, HM.out]; rfl
    have H5 := Lib.hid (show Bb w5 g h W b ⟨B.p, B.e ++ [n]⟩ A4 c4 from ⟨hp5, by rw [hl5]; exact hb5, by rw [hl5, flatK_append, flatK_one]; exact ho5, by rw [hl5]; omega, hgh, hbh⟩)
    have q5 := two hb5 (Below.refl _ _)
    clear hl5 ho5 hb5 hn3 hb3 hown hgrow hp5 hp3
    go_wp2
    go_ret
    exact ⟨ret_int (by omega), ⟨_, _, H5.out⟩, hf5.out⟩
end Go.Proofs.YtfnceamkephpjaaGreat.pg
