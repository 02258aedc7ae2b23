/- Statements: create. Printed by genq13.py. -/
import Derived.Test.YtfnceamkephpjaaGreatQ12
namespace Go.Proofs.YtfnceamkephpjaaGreat.pg
open Go.ChangeShapes Go.WideShapes Go.ChangeAt Go.RowKit Go.Proofs.YtfnceamkephpjaaGreat.lib Go.Proofs.YtfnceamkephpjaaGreat.lx
set_option linter.unusedVariables false

/-- a table's shape on its way: s in the block sb -/
structure Cx (w0 w : World) (g b sb rb : Nat) (W : List Wd) (p : Pp) (sn : List UInt8) (cs : List Cl) (key : Int) (only : Bool) (v : Value) : Prop where
  fr : w0.grownBy w (some g)
  pr : Pr w g W b p
  bs : Blk w sb 28 #[.string ⟨sn.toArray⟩, v, .int .i64 key, .bool only]
  br : Blk w rb 34 (cellsSt St0 Vs0)
  own : w.ownsRow 0 85 3 v cs.length (flatK encC cs)
  lo : ∀ k, v.ownBlock = some k → w0.heap.size ≤ k
  gl : g < w0.heap.size
  bl : b < w0.heap.size
  s0 : w0.heap.size ≤ sb
  r0 : w0.heap.size ≤ rb
  sr : sb ≠ rb
section
variable {w0 w w' wc : World} {g b sb rb : Nat} {W : List Wd} {p : Pp} {sn : List UInt8} {cs : List Cl} {key : Int} {only : Bool} {v : Value}
theorem Cx.ext (h : Cx w0 w g b sb rb W p sn cs key only v) (hb : Below w.heap.size w w') : Cx w0 w' g b sb rb W p sn cs key only v :=
  ⟨h.fr.trans (grown_of hb _), h.pr.ext hb, h.bs.ext hb, h.br.ext hb, lib.own_ext h.own hb, h.lo, h.gl, h.bl, h.s0, h.r0, h.sr⟩
theorem Cx.parser {q : Pp} (h : Cx w0 w g b sb rb W p sn cs key only v) (hp : Pr w' g W b q) (hg : w.grownBy w' (some g)) : Cx w0 w' g b sb rb W q sn cs key only v := by
  obtain ⟨_, hb⟩ := h.pr.blk
  exact ⟨h.fr.trans hg, hp, h.bs.grown hg (by have := h.gl; have := h.s0; simp; omega), h.br.grown hg (by have := h.gl; have := h.r0; simp; omega), own_kb h.own hb (by decide) hg, h.lo, h.gl, h.bl, h.s0, h.r0, h.sr⟩
theorem Cx.set {sn' : List UInt8} {cs' : List Cl} {key' : Int} {v' : Value} (h : Cx w0 w g b sb rb W p sn cs key only v) (i : Nat) (u : Value) (he : (#[.string ⟨sn.toArray⟩, v, .int .i64 key, .bool only] : Array Value).setIfInBounds i u = #[.string ⟨sn'.toArray⟩, v', .int .i64 key', .bool only]) (ho : w.ownsRow 0 85 3 v' cs'.length (flatK encC cs')) (hl : ∀ k, v'.ownBlock = some k → w0.heap.size ≤ k) :
    Cx w0 (w.setCell ⟨sb, i, none⟩ u) g b sb rb W p sn' cs' key' only v' := by
  have hg := grown_set w ⟨sb, i, none⟩ u
  have h1 := h.gl
  have h2 := h.bl
  have h3 := h.s0
  have hs := h.bs.set_ i u
  rw [he] at hs
  exact ⟨grown_new h.fr hg h3, h.pr.grown hg (by simp; omega) (by simp; omega), hs, h.br.grown hg (by have := h.sr; simp; omega), own_kb ho h.bs (by decide) hg, hl, h1, h2, h3, h.r0, h.sr⟩
/-- the row grows, and is stored -/
theorem Cx.app {c : Cl} {v' : Value} (h : Cx w0 w g b sb rb W p sn cs key only v) (hown : wc.ownsRow w0.heap.size 85 3 v' (cs.length + 1) (flatK encC cs ++ encC c)) (hg : w.grownBy wc v.ownBlock) :
    Cx w0 (wc.setCell ⟨sb, 1, none⟩ v') g b sb rb W p sn (cs ++ [c]) key only v' := by
  have o := own_up h.own h.lo
  have hlo : ∀ k, k < w0.heap.size → some k ≠ v.ownBlock := fun k hk e => by have := (o.lt _ e.symm).1; omega
  have hlen : (cs ++ [c]).length = cs.length + 1 := by simp
  have h2 : Cx w0 wc g b sb rb W p sn cs key only v → True := fun _ => trivial
  have hgs := grown_set wc ⟨sb, 1, none⟩ v'
  have f1 : w0.grownBy wc (some g) := ⟨hg.os.trans h.fr.os, hg.tape.trans h.fr.tape, hg.output.trans h.fr.output, Nat.le_trans h.fr.size hg.size, fun k hk hne => (hg.block k (Nat.lt_of_lt_of_le hk h.fr.size) (hlo k hk)).trans (h.fr.block k hk hne)⟩
  have f2 := h.pr.grown hg (hlo g h.gl) (hlo b h.bl)
  have f3 := h.bs.grown hg (lx.own_ne o h.bs (by decide))
  have f4 := h.br.grown hg (lx.own_ne o h.br (by decide))
  have h1 := h.gl
  have h2 := h.bl
  have h3 := h.s0
  have hs : Blk (wc.setCell ⟨sb, 1, none⟩ v') sb 28 #[.string ⟨sn.toArray⟩, v', .int .i64 key, .bool only] := f3.set_ 1 v'
  refine ⟨grown_new f1 hgs h3, f2.grown hgs (by simp; omega) (by simp; omega), hs, f4.grown hgs (by have := h.sr; simp; omega), own_kb (k := sb) (t := 28) ?_ f3 (by decide) hgs, fun k hk => (hown.lt k hk).1, h1, h2, h3, h.r0, h.sr⟩
  rw [hlen, flatK_append, flatK_one]
  exact lib.own_base hown (Nat.zero_le _)
end
def CloneC (n : Nat) (xs : List Value) (w : World) (r : Ending) (w' : World) : Prop := ∃ v, r = .returned v ∧ w'.ownsRow w.heap.size 85 3 v n xs ∧ Below w.heap.size w w'
set_option maxRecDepth 100000 in
theorem cloneC0 (w : World) : Calls Tryz.prog 48 #[.slice none 0 0] w (CloneC 0 [] w) := by
  have heq := fun W => Lib.run_eql_slice_nil (P := Tryz.prog) W 26 85 none 0 0 0 0 Tryz.underlying26
  go_enter Tryz.func48, Tryz.ntmps48
  go_wp2
  go_ret
  exact ⟨_, rfl, World.ownsRow_nil _ _ _ _, Below.refl _ _⟩
set_option maxRecDepth 100000 in
theorem cloneC1 (g n c base : Nat) (xs : List Value) (w : World) (h : w.ownsRow base 85 3 (.slice (some ⟨g, 0, none⟩) n c) n xs) (hn : n ≤ 200000) (h1 : ∀ u ∈ xs, u.oneCell' = true) :
    Calls Tryz.prog 48 #[.slice (some ⟨g, 0, none⟩) n c] w (CloneC n xs w) := by
  have heq := fun W => Lib.run_eql_slice_nil (P := Tryz.prog) W 26 85 (some ⟨g, 0, none⟩) n c 0 0 Tryz.underlying26
  obtain ⟨i0, hi, hy0, hy1, hy2⟩ := info_parts (P := Tryz.prog) (e := 85) (z := .agg #[.string ⟨#[]⟩, .int .i64 0, .bool false]) (size := 3) (bytes := 32) (by kernel_rfl)
  have HW := Lib.hid h
  have H1 := Lib.hid h1
  clear h h1
  go_enter Tryz.func48, Tryz.ntmps48
  go_wp2_with (at_builtin; refine wpList_append_own _ rfl (.tmp 5) (.tmp 6) 26 rfl w.heap.size 85 i0 _ 3 32 Tryz.underlying26 hi hy0 hy1 hy2 rfl (by decide) _ _ _ rfl (World.ownsRow_made w #[] 0 (Nat.le_refl _) (Nat.zero_le _) rfl) ⟨g, 0, none⟩ n c xs rfl HW.out.1 ?c1 ?c2 ?c3 ?c4 ?c5 ?_)
  case c1 => exact (HW.out.alloc _).cells (g := g) rfl
  case c2 => exact H1.out
  case c3 => unfold maxLen; omega
  case c4 => omega
  case c5 => simp
  intro v' w3 hown3 hgrow3 _
  go_wp2
  go_ret
  exact ⟨v', rfl, hown3, ((Below.refl _ _).alloc (Nat.le_refl _) _).grown hgrow3 (by simp) (fun k hk => by simp [Value.ownBlock] at hk; omega)⟩
theorem cloneC_ (base n : Nat) (v : Value) (xs : List Value) (w : World) (h : w.ownsRow base 85 3 v n xs) (hn : n ≤ 200000) (h1 : ∀ u ∈ xs, u.oneCell' = true) :
    Calls Tryz.prog 48 #[v] w (CloneC n xs w) := by
  have hl := h.1
  rcases h.2 with ⟨hv, hxs⟩ | ⟨g, cap, cur, hv, hrest⟩
  · subst hv
    subst hxs
    obtain rfl : xs = [] := List.eq_nil_of_length_eq_zero (by omega)
    exact cloneC0 w
  · subst hv
    exact cloneC1 g n cap base xs w h hn h1
theorem oneC (l : List Cl) : ∀ u ∈ flatK encC l, u.oneCell' = true := flatK_all encC (fun x u hu => by
  simp only [encC, List.mem_cons, List.not_mem_nil, or_false] at hu
  rcases hu with rfl | rfl | rfl <;> rfl) l
theorem sto_c {w : World} {st : St} {v : Value} (h0 : st.on = [] ∧ st.names = [] ∧ st.exprs = [] ∧ st.items = [] ∧ st.wh = []) (h : ClsO w v st.cols) : StO w st { Vs0 with c := v } := by
  obtain ⟨h2, h3, h4, h5, h6⟩ := h0
  refine ⟨h, ?_, ?_, ?_, ?_, ?_⟩
  · rw [h2]; exact exo_nil _
  · rw [h3]; exact World.ownsRow_nil _ _ _ _
  · rw [h4]; exact ⟨[], World.ownsRow_nil _ _ _ _, rfl, fun i h e a => by cases a⟩
  · rw [h5]; exact ⟨[], World.ownsRow_nil _ _ _ _, rfl, fun i h e a => by cases a⟩
  · rw [h6]; exact exo_nil _
theorem Cx.len {w0 w : World} {g b sb rb : Nat} {W : List Wd} {p : Pp} {sn : List UInt8} {cs : List Cl} {key : Int} {only : Bool} {v : Value} (h : Cx w0 w g b sb rb W p sn cs key only v) : lenOf (w.cell? ⟨sb, 1, none⟩) = cs.length := by
  have e := h.bs.cell 1
  obtain ⟨A, c, rfl⟩ := own_sl h.own
  rw [show w.cell? ⟨sb, 1, none⟩ = some (.slice A cs.length c) from e]
  rfl
def errOf : Option Value → Nat
  | some (.int _ e) => if e = 0 then 1 else 0
  | _ => 0
set_option maxRecDepth 1000000 in
set_option maxHeartbeats 4000000 in
theorem create_ : StmC 25 (fun g => #[.pointer (some ⟨g, 0, none⟩)]) createP := by
  intro w0 g W b p h
  have H := Lib.hid h
  have hgl := h.gl
  have hbl := h.bl
  obtain ⟨i0, hi, hy0, hy1, hy2⟩ := info_parts (P := Tryz.prog) (e := 85) (z := .agg #[.string ⟨#[]⟩, .int .i64 0, .bool false]) (size := 3) (bytes := 32) (by kernel_rfl)
  have hr := (show createP W p = match nameP W (mustP W [116, 97, 98, 108, 101] (isP W [111, 110, 108, 121] p)) with
  | (sn, p3) => match cdefP W (mustP W [40] p3) with
    | (c, p5) => match colsP W 7 [c] (mustP W [44] p5) with
      | (cs, p7) => match nameP W (mustL W [[107, 101, 121], [40]] p7) with
        | (k, p9) => ({ St0 with kind := 1, sn := sn, cols := cs, key := keyOf cs k, only := okIs W [111, 110, 108, 121] p }, mustL W [[41], [41]] p9) from rfl)
  have HI := Lib.hid (fun w' (y : Pr w' g W b p) => pis_ [111, 110, 108, 121] y)
  replace HI := HI.out
  obtain ⟨only, hon⟩ : ∃ x, okIs W [111, 110, 108, 121] p = x := ⟨_, rfl⟩
  obtain ⟨p1, hp1⟩ : ∃ x, isP W [111, 110, 108, 121] p = x := ⟨_, rfl⟩
  rw [hon, hp1] at HI hr
  have HN := Lib.hid (fun w' (y : Pr w' g W b (mustP W [116, 97, 98, 108, 101] p1)) => pname_ y)
  replace HN := HN.out
  obtain ⟨⟨sn, p3⟩, e1⟩ : ∃ X, nameP W (mustP W [116, 97, 98, 108, 101] p1) = X := ⟨_, rfl⟩
  rw [e1] at hr HN
  simp only at hr HN
  have HCO := Lib.hid (fun w' (y : Pr w' g W b (mustP W [40] p3)) => col_ y)
  replace HCO := HCO.out
  obtain ⟨⟨c, p5⟩, e2⟩ : ∃ X, cdefP W (mustP W [40] p3) = X := ⟨_, rfl⟩
  rw [e2] at hr HCO
  simp only at hr HCO
  obtain ⟨⟨cs, p7⟩, e3⟩ : ∃ X, colsP W 7 [c] (mustP W [44] p5) = X := ⟨_, rfl⟩
  rw [e3] at hr
  simp only at hr
  have HN2 := Lib.hid (fun w' (y : Pr w' g W b (mustL W [[107, 101, 121], [40]] p7)) => pname_ y)
  replace HN2 := HN2.out
  obtain ⟨⟨ky, p9⟩, e4⟩ : ∃ X, nameP W (mustL W [[107, 101, 121], [40]] p7) = X := ⟨_, rfl⟩
  rw [e4] at hr HN2
  simp only at hr HN2
  unfold StmP
  rw [hr]
  replace HI := Lib.hid HI
  replace HN := Lib.hid HN
  replace HCO := Lib.hid HCO
  replace HN2 := Lib.hid HN2
  have HCS := Lib.hid e3
  clear hr e1 e2 e3 e4 hon hp1 h
  go_enter Tryz.func25, Tryz.ntmps25
  go_upto_region 1 with fail
  obtain ⟨W1, hW_, hb1, BR⟩ : ∃ W_, W_ = (w0.alloc (.cells #[.int .i64 0, .string ⟨#[]⟩, .slice none 0 0, .int .i64 0, .bool false, .string ⟨#[]⟩, .string ⟨#[]⟩, .slice none 0 0, .slice none 0 0, .slice none 0 0, .slice none 0 0, .slice none 0 0, .string ⟨#[]⟩, .string ⟨#[]⟩, .bool false, .int .i64 0, .string ⟨#[]⟩] 34)) ∧ Below w0.heap.size w0 W_ ∧ Blk W_ (w0.heap.size) 34 #[.int .i64 0, .string ⟨#[]⟩, .slice none 0 0, .int .i64 0, .bool false, .string ⟨#[]⟩, .string ⟨#[]⟩, .slice none 0 0, .slice none 0 0, .slice none 0 0, .slice none 0 0, .slice none 0 0, .string ⟨#[]⟩, .string ⟨#[]⟩, .bool false, .int .i64 0, .string ⟨#[]⟩] :=
    ⟨_, rfl, ((Below.refl _ _).alloc (Nat.le_refl _) _), (blk_new_at w0 (w0.heap.size) _ _ (by simp))⟩
  rw [← hW_]
  clear hW_
  obtain ⟨rb, hrb⟩ : ∃ rb, w0.heap.size = rb := ⟨_, rfl⟩
  have HP1 := Lib.hid (H.out.ext hb1)
  have HG1 := Lib.hid (grown_of hb1 (some g))
  have hgw := hgl
  have hbw := hbl
  have hz1 := hb1.size
  have hrl := BR.lt
  rw [hrb] at BR hrl ⊢
  have hwr : w0.heap.size ≤ rb := by omega
  have HBR1 := Lib.hid BR
  have hgr : g < rb := by omega
  clear hb1 BR hrb H
  generalize W1 = w1 at *
  go_wp2_with fail
  refine (HI.out _ HP1.out).mono ?_
  rintro e w2 ⟨rfl, h_, hg_⟩
  have HBR2 := Lib.hid (HBR1.out.grown hg_ (by simp; omega))
  have HG2 := Lib.hid (HG1.out.trans hg_)
  have HP2 := Lib.hid h_
  have hz2 := hg_.size
  clear h_ hg_ HI HBR1 HG1 HP1
  go_upto_region 2 with fail
  obtain ⟨W3, hW_, hb3, BS⟩ : ∃ W_, W_ = (w2.alloc (.cells #[.string ⟨#[]⟩, .slice none 0 0, .int .i64 0, .bool only] 28)) ∧ Below w2.heap.size w2 W_ ∧ Blk W_ (w2.heap.size) 28 #[.string ⟨#[]⟩, .slice none 0 0, .int .i64 0, .bool only] :=
    ⟨_, rfl, ((Below.refl _ _).alloc (Nat.le_refl _) _), (blk_new_at w2 (w2.heap.size) _ _ (by simp))⟩
  rw [← hW_]
  clear hW_
  have X3 := Lib.hid (show Cx w0 W3 g b w2.heap.size rb W p1 [] [] 0 only (.slice none 0 0) from ⟨HG2.out.trans (grown_of hb3 _), HP2.out.ext hb3, BS, HBR2.out.ext hb3, World.ownsRow_nil _ _ _ _, fun k hk => (by cases hk), hgw, hbw, HG2.out.size, hwr, by have := HBR2.out.lt; omega⟩)
  obtain ⟨sb, hsb⟩ : ∃ sb, w2.heap.size = sb := ⟨_, rfl⟩
  replace X3 := X3.out
  rw [hsb] at X3 ⊢
  replace X3 := Lib.hid X3
  clear hb3 BS hsb HG2 HP2 HBR2 hz1 hz2 hrl
  generalize W3 = w3 at *
  go_wp2_with fail
  obtain ⟨V_w3, hW_, hb_, BS⟩ : ∃ W_, W_ = (w3.alloc (.cells #[.string ⟨#[116, 97, 98, 108, 101]⟩] 9)) ∧ Below w3.heap.size w3 W_ ∧ Blk W_ (w3.heap.size) 9 #[.string ⟨#[116, 97, 98, 108, 101]⟩] :=
    ⟨_, rfl, ((Below.refl _ _).alloc (Nat.le_refl _) _), (blk_new_at w3 (w3.heap.size) _ _ (by simp))⟩
  rw [← hW_]
  clear hW_
  have Xv := Lib.hid (X3.out.ext hb_)
  have hgl_ := X3.out.pr.gl
  have HM := Lib.hid (pmust_ [[116, 97, 98, 108, 101]] (some ⟨w3.heap.size, 0, none⟩) 1 Xv.out.pr (Row.of_blk BS (Nat.zero_le _) 1 1 (Nat.le_refl _)) (by intro b' off e; injection e with e; injection e with e _; rw [← e]; simp; omega) (by decide))
  clear hb_ BS hgl_
  refine (HM.out).mono ?_
  rintro e w4 ⟨rfl, h_, hg_⟩
  have X4 := Lib.hid (Xv.out.parser (q := mustP W [116, 97, 98, 108, 101] p1) h_ hg_)
  clear h_ hg_ Xv HM
  go_wp2_with fail
  refine (HN.out _ X4.out.pr).mono ?_
  rintro e w5 ⟨rfl, h_, hg_⟩
  have X5 := Lib.hid (X4.out.parser h_ hg_)
  clear h_ hg_ X3 X4 HN
  have q0 := X5.out.bs.cell 0
  have f0 := X5.out.bs.frozen 0
  have X6 := Lib.hid (X5.out.set 0 (.string ⟨sn.toArray⟩) (sn' := sn) (cs' := []) (key' := 0) (v' := .slice none 0 0) rfl X5.out.own X5.out.lo)
  go_upto_region 4 with fail
  clear q0 f0
  generalize w5.setCell ⟨sb, 0, none⟩ (.string ⟨sn.toArray⟩) = w6 at *
  clear X5
  go_wp2_with fail
  obtain ⟨V_w6, hW_, hb_, BS⟩ : ∃ W_, W_ = (w6.alloc (.cells #[.string ⟨#[40]⟩] 9)) ∧ Below w6.heap.size w6 W_ ∧ Blk W_ (w6.heap.size) 9 #[.string ⟨#[40]⟩] :=
    ⟨_, rfl, ((Below.refl _ _).alloc (Nat.le_refl _) _), (blk_new_at w6 (w6.heap.size) _ _ (by simp))⟩
  rw [← hW_]
  clear hW_
  have Xv := Lib.hid (X6.out.ext hb_)
  have hgl_ := X6.out.pr.gl
  have HM := Lib.hid (pmust_ [[40]] (some ⟨w6.heap.size, 0, none⟩) 1 Xv.out.pr (Row.of_blk BS (Nat.zero_le _) 1 1 (Nat.le_refl _)) (by intro b' off e; injection e with e; injection e with e _; rw [← e]; simp; omega) (by decide))
  clear hb_ BS hgl_
  refine (HM.out).mono ?_
  rintro e w7 ⟨rfl, h_, hg_⟩
  have X7 := Lib.hid (Xv.out.parser (q := mustP W [40] p3) h_ hg_)
  clear h_ hg_ Xv HM
  go_upto_region 5 with fail
  go_cut [25] from 19 to 25 (fun _ wx => ∃ v, Cx w0 wx g b sb rb W p5 sn [c] 0 only v)
  case first =>
    obtain ⟨v, hv⟩ : ∃ v, Value.slice none 0 0 = v := ⟨_, rfl⟩
    have X := Lib.hid (show Cx w0 w7 g b sb rb W (mustP W [40] p3) sn [] 0 only v by rw [← hv]; exact X7.out)
    clear hv
    have hz7 : ([] : List Cl).length ≤ 6 := by decide
    have XV := Lib.hid (X.out.ext (Below.drew (Below.refl _ _)))
    refine wp_region_tree (S := fun _ => True) (.take 0 (.take 2 (.two 1 3 (.one 3 (.one 4 (.one 5 (.take 6 (.one 7 .nil))))) (.two 1 4 (.one 4 (.one 5 (.take 6 (.one 7 .nil)))) (.one 1 (.one 5 (.take 6 (.one 7 .nil))))))))
      (by kernel_rfl) (by kernel_rfl) (by kernel_rfl) (by decide) (by intro c a d v w h; cases d <;> exact h) trivial ?_
    repeat ((with_reducible show wpTree _ _ _ _ (.take _ _) _ _); (first | (refine wpTree_on (v := ?_) rfl rfl (wanted_free rfl) (fun w' hS => ?_) ?_; rotate_left; (focus (go_simp; (try with_reducible rfl); done)); try simp only [List.setIfInBounds_toArray, List.set_cons_zero, List.set_cons_succ]) | (refine wpTree_on (v := ?_) rfl rfl (wanted_yes rfl rfl rfl) (fun w' hS => ?_) ?_; rotate_left; (focus (go_simp; (try with_reducible rfl); done)); try simp only [List.setIfInBounds_toArray, List.set_cons_zero, List.set_cons_succ]) | (refine wpTree_off rfl rfl (wanted_no rfl rfl rfl) ?_; try simp only [List.setIfInBounds_toArray, List.set_cons_zero, List.set_cons_succ]) | (refine wpTree_off rfl rfl (wanted_undef rfl rfl rfl) ?_; try simp only [List.setIfInBounds_toArray, List.set_cons_zero, List.set_cons_succ])))
    refine wpTree_both rfl (wanted_free rfl) rfl (wanted_free rfl) (fun K hK => ?_) (fun K hK => ?_)
    · have c1 : _ = some v := XV.out.bs.cell 1
      go_simp
      refine hK.out _ _ trivial ?_
      clear hK K c1
      refine wpTree_do rfl (wanted_free rfl) (fun K hK => ?_); go_simp
      refine (HCO.out _ XV.out.pr).mono ?_
      rintro e w2 ⟨rfl, h2, hg2⟩
      have X2 := Lib.hid (XV.out.parser h2 hg2)
      clear h2 hg2
      refine hK.out _ _ trivial ?_
      clear hK K
      refine wpTree_do rfl (wanted_free rfl) (fun K hK => ?_); go_simp
      refine hK.out _ _ trivial ?_
      clear hK K
      have hbd : Below w2.heap.size w2 (w2.alloc (.cells #[.string ⟨c.nm.toArray⟩, .int .i64 c.k, .bool c.nul] 85)) := (Below.refl _ _).alloc (Nat.le_refl _) _
      have X3 := X2.out.ext hbd
      have hB3 : Blk (w2.alloc (.cells #[.string ⟨c.nm.toArray⟩, .int .i64 c.k, .bool c.nul] 85)) w2.heap.size 85 #[.string ⟨c.nm.toArray⟩, .int .i64 c.k, .bool c.nul] := Blk.new w2 _ _
      have hb0 := Nat.le_trans X2.out.fr.size hbd.size
      generalize hw3 : (w2.alloc (.cells #[.string ⟨c.nm.toArray⟩, .int .i64 c.k, .bool c.nul] 85)) = w3 at *
      clear hw3
      refine wpTree_do rfl (wanted_free rfl) (fun K hK => ?_)
      refine wp_append_own _ (.tmp 20) (.tmp 23) 26 rfl w0.heap.size 85 i0 _ 3 32 Tryz.underlying26 hi hy0 hy1 hy2 rfl (by decide) _ _ _ rfl (own_up X3.own X3.lo) ⟨w2.heap.size, 0, none⟩ 1 1 [.string ⟨c.nm.toArray⟩, .int .i64 c.k, .bool c.nul] rfl rfl (Row.of_blk hB3 (Nat.zero_le _) 1 1 (Nat.le_refl _)).src (by intro u hu; simp at hu; rcases hu with rfl | rfl | rfl <;> rfl) (by unfold maxLen; omega) (by omega) hb0 ?_
      intro v' wc hown hgrow _
      obtain ⟨A4, c4, rfl⟩ := own_sl hown
      have hbs := X3.bs.grown hgrow (lx.own_ne (own_up X3.own X3.lo) X3.bs (by decide))
      refine hK.out _ _ trivial ?_
      clear hK K
      repeat ((with_reducible show wpTree _ _ _ _ (.take _ _) _ _); (first | (refine wpTree_on (v := ?_) rfl rfl (wanted_free rfl) (fun w' hS => ?_) ?_; rotate_left; (focus (go_simp; (try with_reducible rfl); done))) | (refine wpTree_on (v := ?_) rfl rfl (wanted_yes rfl rfl rfl) (fun w' hS => ?_) ?_; rotate_left; (focus (go_simp; (try with_reducible rfl); done))) | (refine wpTree_off rfl rfl (wanted_no rfl rfl rfl) ?_) | (refine wpTree_off rfl rfl (wanted_undef rfl rfl rfl) ?_)))
      have q3 : _ = some v := hbs.cell 1
      have f3 := hbs.frozen 1
      refine wpTree_do rfl (wanted_free rfl) (fun K hK => ?_); go_simp
      clear q3 f3
      refine hK.out _ _ trivial (wpTree_end ?_)
      clear hK K
      have hfin := Lib.hid (X3.app (c := c) hown hgrow)
      go_wp2_with fail
      go_meet
      exact ⟨_, hfin.out⟩
    · go_simp
      refine (HCO.out _ XV.out.pr).mono ?_
      rintro e w2 ⟨rfl, h2, hg2⟩
      have X2 := Lib.hid (XV.out.parser h2 hg2)
      clear h2 hg2
      refine hK.out _ _ trivial ?_
      clear hK K
      refine wpTree_both rfl (wanted_free rfl) rfl (wanted_free rfl) (fun K hK => ?_) (fun K hK => ?_)
      · have c1 : _ = some v := X2.out.bs.cell 1
        go_simp
        refine hK.out _ _ trivial ?_
        clear hK K c1
        refine wpTree_do rfl (wanted_free rfl) (fun K hK => ?_); go_simp
        refine hK.out _ _ trivial ?_
        clear hK K
        have hbd : Below w2.heap.size w2 (w2.alloc (.cells #[.string ⟨c.nm.toArray⟩, .int .i64 c.k, .bool c.nul] 85)) := (Below.refl _ _).alloc (Nat.le_refl _) _
        have X3 := X2.out.ext hbd
        have hB3 : Blk (w2.alloc (.cells #[.string ⟨c.nm.toArray⟩, .int .i64 c.k, .bool c.nul] 85)) w2.heap.size 85 #[.string ⟨c.nm.toArray⟩, .int .i64 c.k, .bool c.nul] := Blk.new w2 _ _
        have hb0 := Nat.le_trans X2.out.fr.size hbd.size
        generalize hw3 : (w2.alloc (.cells #[.string ⟨c.nm.toArray⟩, .int .i64 c.k, .bool c.nul] 85)) = w3 at *
        clear hw3
        refine wpTree_do rfl (wanted_free rfl) (fun K hK => ?_)
        refine wp_append_own _ (.tmp 20) (.tmp 23) 26 rfl w0.heap.size 85 i0 _ 3 32 Tryz.underlying26 hi hy0 hy1 hy2 rfl (by decide) _ _ _ rfl (own_up X3.own X3.lo) ⟨w2.heap.size, 0, none⟩ 1 1 [.string ⟨c.nm.toArray⟩, .int .i64 c.k, .bool c.nul] rfl rfl (Row.of_blk hB3 (Nat.zero_le _) 1 1 (Nat.le_refl _)).src (by intro u hu; simp at hu; rcases hu with rfl | rfl | rfl <;> rfl) (by unfold maxLen; omega) (by omega) hb0 ?_
        intro v' wc hown hgrow _
        obtain ⟨A4, c4, rfl⟩ := own_sl hown
        have hbs := X3.bs.grown hgrow (lx.own_ne (own_up X3.own X3.lo) X3.bs (by decide))
        refine hK.out _ _ trivial ?_
        clear hK K
        repeat ((with_reducible show wpTree _ _ _ _ (.take _ _) _ _); (first | (refine wpTree_on (v := ?_) rfl rfl (wanted_free rfl) (fun w' hS => ?_) ?_; rotate_left; (focus (go_simp; (try with_reducible rfl); done))) | (refine wpTree_on (v := ?_) rfl rfl (wanted_yes rfl rfl rfl) (fun w' hS => ?_) ?_; rotate_left; (focus (go_simp; (try with_reducible rfl); done))) | (refine wpTree_off rfl rfl (wanted_no rfl rfl rfl) ?_) | (refine wpTree_off rfl rfl (wanted_undef rfl rfl rfl) ?_)))
        have q3 : _ = some v := hbs.cell 1
        have f3 := hbs.frozen 1
        refine wpTree_do rfl (wanted_free rfl) (fun K hK => ?_); go_simp
        clear q3 f3
        refine hK.out _ _ trivial (wpTree_end ?_)
        clear hK K
        have hfin := Lib.hid (X3.app (c := c) hown hgrow)
        go_wp2_with fail
        go_meet
        exact ⟨_, hfin.out⟩
      · go_simp
        refine hK.out _ _ trivial ?_
        clear hK K
        have c1 : _ = some v := (X2.out.ext ((Below.refl _ _).alloc (Nat.le_refl _) (.cells #[.string ⟨c.nm.toArray⟩, .int .i64 c.k, .bool c.nul] 85))).bs.cell 1
        refine wpTree_do rfl (wanted_free rfl) (fun K hK => ?_); go_simp
        refine hK.out _ _ trivial ?_
        clear hK K c1
        have hbd : Below w2.heap.size w2 (w2.alloc (.cells #[.string ⟨c.nm.toArray⟩, .int .i64 c.k, .bool c.nul] 85)) := (Below.refl _ _).alloc (Nat.le_refl _) _
        have X3 := X2.out.ext hbd
        have hB3 : Blk (w2.alloc (.cells #[.string ⟨c.nm.toArray⟩, .int .i64 c.k, .bool c.nul] 85)) w2.heap.size 85 #[.string ⟨c.nm.toArray⟩, .int .i64 c.k, .bool c.nul] := Blk.new w2 _ _
        have hb0 := Nat.le_trans X2.out.fr.size hbd.size
        generalize hw3 : (w2.alloc (.cells #[.string ⟨c.nm.toArray⟩, .int .i64 c.k, .bool c.nul] 85)) = w3 at *
        clear hw3
        refine wpTree_do rfl (wanted_free rfl) (fun K hK => ?_)
        refine wp_append_own _ (.tmp 20) (.tmp 23) 26 rfl w0.heap.size 85 i0 _ 3 32 Tryz.underlying26 hi hy0 hy1 hy2 rfl (by decide) _ _ _ rfl (own_up X3.own X3.lo) ⟨w2.heap.size, 0, none⟩ 1 1 [.string ⟨c.nm.toArray⟩, .int .i64 c.k, .bool c.nul] rfl rfl (Row.of_blk hB3 (Nat.zero_le _) 1 1 (Nat.le_refl _)).src (by intro u hu; simp at hu; rcases hu with rfl | rfl | rfl <;> rfl) (by unfold maxLen; omega) (by omega) hb0 ?_
        intro v' wc hown hgrow _
        obtain ⟨A4, c4, rfl⟩ := own_sl hown
        have hbs := X3.bs.grown hgrow (lx.own_ne (own_up X3.own X3.lo) X3.bs (by decide))
        refine hK.out _ _ trivial ?_
        clear hK K
        repeat ((with_reducible show wpTree _ _ _ _ (.take _ _) _ _); (first | (refine wpTree_on (v := ?_) rfl rfl (wanted_free rfl) (fun w' hS => ?_) ?_; rotate_left; (focus (go_simp; (try with_reducible rfl); done))) | (refine wpTree_on (v := ?_) rfl rfl (wanted_yes rfl rfl rfl) (fun w' hS => ?_) ?_; rotate_left; (focus (go_simp; (try with_reducible rfl); done))) | (refine wpTree_off rfl rfl (wanted_no rfl rfl rfl) ?_) | (refine wpTree_off rfl rfl (wanted_undef rfl rfl rfl) ?_)))
        have q3 : _ = some v := hbs.cell 1
        have f3 := hbs.frozen 1
        refine wpTree_do rfl (wanted_free rfl) (fun K hK => ?_); go_simp
        clear q3 f3
        refine hK.out _ _ trivial (wpTree_end ?_)
        clear hK K
        have hfin := Lib.hid (X3.app (c := c) hown hgrow)
        go_wp2_with fail
        go_meet
        exact ⟨_, hfin.out⟩
  clear X6 X7 HCO
  obtain ⟨v5, x5⟩ := hcut
  have X8 := Lib.hid x5
  clear x5
  generalize wc = w8 at *
  go_upto_block 0 with fail
  obtain ⟨pm, hpm⟩ : ∃ x, mustP W [44] p5 = x := ⟨_, rfl⟩
  replace HCS := HCS.out
  rw [hpm] at HCS
  replace HCS := Lib.hid HCS
  have HPM := Lib.hid hpm
  clear hpm
  go_cut [37] from 26 to 37 (fun _ wx => ∃ v, Cx w0 wx g b sb rb W pm sn [c] 0 only v)
  case first =>
    go_wp2_with fail
    go_loopw [35] (fun _ wr => ∃ q, Cx w0 wr g b sb rb W q sn [c] 0 only v5 ∧ Hid (mustP W [44] q = pm)) (fun _ wr => errOf (wr.cell? ⟨g, 1, none⟩))
    case atStart => exact ⟨p5, X8.out, HPM⟩
    case round =>
      obtain ⟨q, hx, HQ⟩ := hrel
      have X := Lib.hid hx
      have ec := hx.pr.ecell
      have EC := Lib.hid ec
      have HQ2 := Lib.hid ((show mustP W [44] q = if okIs W [44] q = true then stepP q else failP 6 q from rfl).symm.trans HQ.out)
      clear hx
      by_cases he : q.err = 0
      case neg =>
        have hd : (q.err == 0) = false := by simpa using he
        obtain rfl : q = pm := by
          rw [← HQ2.out, okIs_err he, if_neg (by simp)]
          unfold failP
          rw [if_neg he]
        clear he
        go_wp2_with fail
        go_meet
        exact ⟨_, X.out⟩
      have hd : (q.err == 0) = true := by simpa using he
      have HE0 := Lib.hid he
      have HIS := Lib.hid (pis_ [44] X.out.pr)
      replace HIS := HIS.out
      unfold isP at HIS
      obtain ⟨ok, hok⟩ : ∃ ok, okIs W [44] q = ok := ⟨_, rfl⟩
      replace HQ2 := HQ2.out
      rw [hok] at HIS HQ2
      replace HIS := Lib.hid HIS
      replace HQ2 := Lib.hid HQ2
      clear hok he
      go_wp2_with fail
      refine (HIS.out).mono ?_
      rintro e w9 ⟨rfl, h_, hg_⟩
      clear ec
      cases ok with
      | true =>
        have X9 := Lib.hid (X.out.parser (q := stepP q) h_ hg_)
        obtain rfl : stepP q = pm := by rw [← HQ2.out, if_pos rfl]
        clear h_ hg_
        go_wp2_with fail
        go_meet
        exact ⟨_, X9.out⟩
      | false =>
        have X9 := Lib.hid (X.out.parser (q := q) h_ hg_)
        have HF := Lib.hid (pfail_ 6 X9.out.pr)
        have hf : failP 6 q = ⟨q.at_, 6⟩ := by unfold failP; rw [if_pos HE0.out]
        replace HF := HF.out
        rw [hf] at HF
        replace HF := Lib.hid HF
        have HPQ := Lib.hid (show mustP W [44] ⟨q.at_, 6⟩ = pm by
          rw [← HQ2.out, if_neg (by simp), hf]
          unfold mustP
          rw [okIs_err (show (6 : Int) ≠ 0 by decide), if_neg (by simp)]
          rfl)
        clear h_ hg_ hf
        go_wp2_with fail
        refine (HF.out).mono ?_
        rintro e w10 ⟨rfl, h_, hg_⟩
        have X10 := Lib.hid (X9.out.parser h_ hg_)
        have E2 := Lib.hid (h_.ecell)
        clear h_ hg_
        go_wp2
        go_roundw
        case rel => exact ⟨_, X10.out, HPQ⟩
        case measure =>
          rw [E2.out, EC.out]
          simp [errOf, HE0.out]
  clear X8 HPM
  obtain ⟨v6, x6⟩ := hcut
  have X11 := Lib.hid x6
  clear x6
  generalize wc = w11 at *
  go_upto_block 2 with fail
  go_cut [63] from 38 to 63 (fun _ wx => ∃ v, Cx w0 wx g b sb rb W p7 sn cs 0 only v ∧ cs.length ≤ 6)
  case first =>
    go_wp2_with fail
    go_loopw [47] (fun _ wr => ∃ (f : Nat) (cl : List Cl) (q : Pp) (v : Value), Cx w0 wr g b sb rb W q sn cl 0 only v ∧ Hid (colsP W f cl q = (cs, p7)) ∧ f + cl.length = 8 ∧ cl.length ≤ 6) (fun _ wr => 8 - lenOf (wr.cell? ⟨sb, 1, none⟩))
    case atStart => exact ⟨7, [c], pm, v6, X11.out, HCS, rfl, by simp⟩
    case round =>
      clear X11 HCS
      obtain ⟨f, cl, q, v, hx, HL, hfl, hl6⟩ := hrel
      have X := Lib.hid hx
      have ec := hx.pr.ecell
      have LEN := Lib.hid hx.len
      obtain ⟨f, rfl⟩ : ∃ m, f = m + 1 := ⟨f - 1, by omega⟩
      have HL2 := Lib.hid ((show colsP W (f + 1) cl q = if q.err = 0 then (if okIs W [112, 114, 105, 109, 97, 114, 121] q = true then (cl, stepP q) else if 6 ≤ cl.length then (cl, failP 4 q)
    else match cdefP W q with | (c, q') => colsP W f (cl ++ [c]) (mustP W [44] q')) else (cl, q) from rfl).symm.trans HL.out)
      clear hx HL
      by_cases he : q.err = 0
      case neg =>
        have hd : (q.err == 0) = false := by simpa using he
        obtain ⟨rfl, rfl⟩ : cl = cs ∧ q = p7 := by have := HL2.out; rw [if_neg he] at this; injection this with a c; exact ⟨a, c⟩
        clear he
        go_wp2_with fail
        go_meet
        exact ⟨_, X.out, hl6⟩
      have hd : (q.err == 0) = true := by simpa using he
      replace HL2 := HL2.out
      rw [if_pos he] at HL2
      have HIS := Lib.hid (pis_ [112, 114, 105, 109, 97, 114, 121] X.out.pr)
      replace HIS := HIS.out
      unfold isP at HIS
      obtain ⟨ok, hok⟩ : ∃ ok, okIs W [112, 114, 105, 109, 97, 114, 121] q = ok := ⟨_, rfl⟩
      rw [hok] at HIS HL2
      replace HIS := Lib.hid HIS
      replace HL2 := Lib.hid HL2
      clear hok he
      go_wp2_with fail
      refine (HIS.out).mono ?_
      rintro e w12 ⟨rfl, h_, hg_⟩
      clear ec
      cases ok with
      | true =>
        have X12 := Lib.hid (X.out.parser (q := stepP q) h_ hg_)
        obtain ⟨rfl, rfl⟩ : cl = cs ∧ stepP q = p7 := by have := HL2.out; rw [if_pos rfl] at this; injection this with a c; exact ⟨a, c⟩
        clear h_ hg_
        go_wp2_with fail
        go_meet
        exact ⟨_, X12.out, hl6⟩
      | false =>
        have X12 := Lib.hid (X.out.parser (q := q) h_ hg_)
        replace HL2 := HL2.out
        rw [if_neg (by simp)] at HL2
        obtain ⟨A0, c0, hv⟩ := own_sl X12.out.own
        have qv : w12.cell? ⟨sb, 1, none⟩ = some (.slice A0 cl.length c0) := (X12.out.bs.cell 1).trans (congrArg some hv)
        have HV := Lib.hid hv
        clear h_ hg_ hv
        rcases Nat.lt_or_ge cl.length 6 with hlt | hge
        case inr =>
          rw [if_pos hge] at HL2
          obtain ⟨rfl, rfl⟩ : cl = cs ∧ failP 4 q = p7 := by injection HL2 with a c; exact ⟨a, c⟩
          have hd6 : decide ((6 : Int) ≤ (cl.length : Int)) = true := by simp; omega
          have HF := Lib.hid (pfail_ 4 X12.out.pr)
          clear hge HL2
          go_wp2_with fail
          refine (HF.out).mono ?_
          rintro e w13 ⟨rfl, h_, hg_⟩
          have X13 := Lib.hid (X12.out.parser h_ hg_)
          clear h_ hg_ qv
          go_wp2_with fail
          go_meet
          exact ⟨_, X13.out, hl6⟩
        have hd6 : decide ((6 : Int) ≤ (cl.length : Int)) = false := by simp; omega
        rw [if_neg (by omega)] at HL2
        have HCO := Lib.hid (fun w' (y : Pr w' g W b q) => col_ y)
        replace HCO := HCO.out
        obtain ⟨⟨c, q2⟩, hc⟩ : ∃ X, cdefP W q = X := ⟨_, rfl⟩
        rw [hc] at HL2 HCO
        simp only at HL2 HCO
        replace HCO := Lib.hid HCO
        replace HL2 := Lib.hid HL2
        clear hc X
        go_upto_region 11 with fail
        clear qv
        go_cut [60] from 54 to 60 (fun _ wx => ∃ v, Cx w0 wx g b sb rb W q2 sn (cl ++ [c]) 0 only v)
        case first =>
          have X := X12
          have XV := Lib.hid (X.out.ext (Below.drew (Below.refl _ _)))
          refine wp_region_tree (S := fun _ => True) (.take 0 (.take 2 (.two 1 3 (.one 3 (.one 4 (.one 5 (.take 6 (.one 7 .nil))))) (.two 1 4 (.one 4 (.one 5 (.take 6 (.one 7 .nil)))) (.one 1 (.one 5 (.take 6 (.one 7 .nil))))))))
            (by kernel_rfl) (by kernel_rfl) (by kernel_rfl) (by decide) (by intro c a d v w h; cases d <;> exact h) trivial ?_
          repeat ((with_reducible show wpTree _ _ _ _ (.take _ _) _ _); (first | (refine wpTree_on (v := ?_) rfl rfl (wanted_free rfl) (fun w' hS => ?_) ?_; rotate_left; (focus (go_simp; (try with_reducible rfl); done)); try simp only [List.setIfInBounds_toArray, List.set_cons_zero, List.set_cons_succ]) | (refine wpTree_on (v := ?_) rfl rfl (wanted_yes rfl rfl rfl) (fun w' hS => ?_) ?_; rotate_left; (focus (go_simp; (try with_reducible rfl); done)); try simp only [List.setIfInBounds_toArray, List.set_cons_zero, List.set_cons_succ]) | (refine wpTree_off rfl rfl (wanted_no rfl rfl rfl) ?_; try simp only [List.setIfInBounds_toArray, List.set_cons_zero, List.set_cons_succ]) | (refine wpTree_off rfl rfl (wanted_undef rfl rfl rfl) ?_; try simp only [List.setIfInBounds_toArray, List.set_cons_zero, List.set_cons_succ])))
          refine wpTree_both rfl (wanted_free rfl) rfl (wanted_free rfl) (fun K hK => ?_) (fun K hK => ?_)
          · have c1 : _ = some v := XV.out.bs.cell 1
            go_simp
            refine hK.out _ _ trivial ?_
            clear hK K c1
            refine wpTree_do rfl (wanted_free rfl) (fun K hK => ?_); go_simp
            refine (HCO.out _ XV.out.pr).mono ?_
            rintro e w2 ⟨rfl, h2, hg2⟩
            have X2 := Lib.hid (XV.out.parser h2 hg2)
            clear h2 hg2
            refine hK.out _ _ trivial ?_
            clear hK K
            refine wpTree_do rfl (wanted_free rfl) (fun K hK => ?_); go_simp
            refine hK.out _ _ trivial ?_
            clear hK K
            have hbd : Below w2.heap.size w2 (w2.alloc (.cells #[.string ⟨c.nm.toArray⟩, .int .i64 c.k, .bool c.nul] 85)) := (Below.refl _ _).alloc (Nat.le_refl _) _
            have X3 := X2.out.ext hbd
            have hB3 : Blk (w2.alloc (.cells #[.string ⟨c.nm.toArray⟩, .int .i64 c.k, .bool c.nul] 85)) w2.heap.size 85 #[.string ⟨c.nm.toArray⟩, .int .i64 c.k, .bool c.nul] := Blk.new w2 _ _
            have hb0 := Nat.le_trans X2.out.fr.size hbd.size
            generalize hw3 : (w2.alloc (.cells #[.string ⟨c.nm.toArray⟩, .int .i64 c.k, .bool c.nul] 85)) = w3 at *
            clear hw3
            refine wpTree_do rfl (wanted_free rfl) (fun K hK => ?_)
            refine wp_append_own _ (.tmp 55) (.tmp 58) 26 rfl w0.heap.size 85 i0 _ 3 32 Tryz.underlying26 hi hy0 hy1 hy2 rfl (by decide) _ _ _ rfl (own_up X3.own X3.lo) ⟨w2.heap.size, 0, none⟩ 1 1 [.string ⟨c.nm.toArray⟩, .int .i64 c.k, .bool c.nul] rfl rfl (Row.of_blk hB3 (Nat.zero_le _) 1 1 (Nat.le_refl _)).src (by intro u hu; simp at hu; rcases hu with rfl | rfl | rfl <;> rfl) (by unfold maxLen; omega) (by omega) hb0 ?_
            intro v' wc hown hgrow _
            obtain ⟨A4, c4, rfl⟩ := own_sl hown
            have hbs := X3.bs.grown hgrow (lx.own_ne (own_up X3.own X3.lo) X3.bs (by decide))
            refine hK.out _ _ trivial ?_
            clear hK K
            repeat ((with_reducible show wpTree _ _ _ _ (.take _ _) _ _); (first | (refine wpTree_on (v := ?_) rfl rfl (wanted_free rfl) (fun w' hS => ?_) ?_; rotate_left; (focus (go_simp; (try with_reducible rfl); done))) | (refine wpTree_on (v := ?_) rfl rfl (wanted_yes rfl rfl rfl) (fun w' hS => ?_) ?_; rotate_left; (focus (go_simp; (try with_reducible rfl); done))) | (refine wpTree_off rfl rfl (wanted_no rfl rfl rfl) ?_) | (refine wpTree_off rfl rfl (wanted_undef rfl rfl rfl) ?_)))
            have q3 : _ = some v := hbs.cell 1
            have f3 := hbs.frozen 1
            refine wpTree_do rfl (wanted_free rfl) (fun K hK => ?_); go_simp
            clear q3 f3
            refine hK.out _ _ trivial (wpTree_end ?_)
            clear hK K
            have hfin := Lib.hid (X3.app (c := c) hown hgrow)
            go_wp2_with fail
            go_meet
            exact ⟨_, hfin.out⟩
          · go_simp
            refine (HCO.out _ XV.out.pr).mono ?_
            rintro e w2 ⟨rfl, h2, hg2⟩
            have X2 := Lib.hid (XV.out.parser h2 hg2)
            clear h2 hg2
            refine hK.out _ _ trivial ?_
            clear hK K
            refine wpTree_both rfl (wanted_free rfl) rfl (wanted_free rfl) (fun K hK => ?_) (fun K hK => ?_)
            · have c1 : _ = some v := X2.out.bs.cell 1
              go_simp
              refine hK.out _ _ trivial ?_
              clear hK K c1
              refine wpTree_do rfl (wanted_free rfl) (fun K hK => ?_); go_simp
              refine hK.out _ _ trivial ?_
              clear hK K
              have hbd : Below w2.heap.size w2 (w2.alloc (.cells #[.string ⟨c.nm.toArray⟩, .int .i64 c.k, .bool c.nul] 85)) := (Below.refl _ _).alloc (Nat.le_refl _) _
              have X3 := X2.out.ext hbd
              have hB3 : Blk (w2.alloc (.cells #[.string ⟨c.nm.toArray⟩, .int .i64 c.k, .bool c.nul] 85)) w2.heap.size 85 #[.string ⟨c.nm.toArray⟩, .int .i64 c.k, .bool c.nul] := Blk.new w2 _ _
              have hb0 := Nat.le_trans X2.out.fr.size hbd.size
              generalize hw3 : (w2.alloc (.cells #[.string ⟨c.nm.toArray⟩, .int .i64 c.k, .bool c.nul] 85)) = w3 at *
              clear hw3
              refine wpTree_do rfl (wanted_free rfl) (fun K hK => ?_)
              refine wp_append_own _ (.tmp 55) (.tmp 58) 26 rfl w0.heap.size 85 i0 _ 3 32 Tryz.underlying26 hi hy0 hy1 hy2 rfl (by decide) _ _ _ rfl (own_up X3.own X3.lo) ⟨w2.heap.size, 0, none⟩ 1 1 [.string ⟨c.nm.toArray⟩, .int .i64 c.k, .bool c.nul] rfl rfl (Row.of_blk hB3 (Nat.zero_le _) 1 1 (Nat.le_refl _)).src (by intro u hu; simp at hu; rcases hu with rfl | rfl | rfl <;> rfl) (by unfold maxLen; omega) (by omega) hb0 ?_
              intro v' wc hown hgrow _
              obtain ⟨A4, c4, rfl⟩ := own_sl hown
              have hbs := X3.bs.grown hgrow (lx.own_ne (own_up X3.own X3.lo) X3.bs (by decide))
              refine hK.out _ _ trivial ?_
              clear hK K
              repeat ((with_reducible show wpTree _ _ _ _ (.take _ _) _ _); (first | (refine wpTree_on (v := ?_) rfl rfl (wanted_free rfl) (fun w' hS => ?_) ?_; rotate_left; (focus (go_simp; (try with_reducible rfl); done))) | (refine wpTree_on (v := ?_) rfl rfl (wanted_yes rfl rfl rfl) (fun w' hS => ?_) ?_; rotate_left; (focus (go_simp; (try with_reducible rfl); done))) | (refine wpTree_off rfl rfl (wanted_no rfl rfl rfl) ?_) | (refine wpTree_off rfl rfl (wanted_undef rfl rfl rfl) ?_)))
              have q3 : _ = some v := hbs.cell 1
              have f3 := hbs.frozen 1
              refine wpTree_do rfl (wanted_free rfl) (fun K hK => ?_); go_simp
              clear q3 f3
              refine hK.out _ _ trivial (wpTree_end ?_)
              clear hK K
              have hfin := Lib.hid (X3.app (c := c) hown hgrow)
              go_wp2_with fail
              go_meet
              exact ⟨_, hfin.out⟩
            · go_simp
              refine hK.out _ _ trivial ?_
              clear hK K
              have c1 : _ = some v := (X2.out.ext ((Below.refl _ _).alloc (Nat.le_refl _) (.cells #[.string ⟨c.nm.toArray⟩, .int .i64 c.k, .bool c.nul] 85))).bs.cell 1
              refine wpTree_do rfl (wanted_free rfl) (fun K hK => ?_); go_simp
              refine hK.out _ _ trivial ?_
              clear hK K c1
              have hbd : Below w2.heap.size w2 (w2.alloc (.cells #[.string ⟨c.nm.toArray⟩, .int .i64 c.k, .bool c.nul] 85)) := (Below.refl _ _).alloc (Nat.le_refl _) _
              have X3 := X2.out.ext hbd
              have hB3 : Blk (w2.alloc (.cells #[.string ⟨c.nm.toArray⟩, .int .i64 c.k, .bool c.nul] 85)) w2.heap.size 85 #[.string ⟨c.nm.toArray⟩, .int .i64 c.k, .bool c.nul] := Blk.new w2 _ _
              have hb0 := Nat.le_trans X2.out.fr.size hbd.size
              generalize hw3 : (w2.alloc (.cells #[.string ⟨c.nm.toArray⟩, .int .i64 c.k, .bool c.nul] 85)) = w3 at *
              clear hw3
              refine wpTree_do rfl (wanted_free rfl) (fun K hK => ?_)
              refine wp_append_own _ (.tmp 55) (.tmp 58) 26 rfl w0.heap.size 85 i0 _ 3 32 Tryz.underlying26 hi hy0 hy1 hy2 rfl (by decide) _ _ _ rfl (own_up X3.own X3.lo) ⟨w2.heap.size, 0, none⟩ 1 1 [.string ⟨c.nm.toArray⟩, .int .i64 c.k, .bool c.nul] rfl rfl (Row.of_blk hB3 (Nat.zero_le _) 1 1 (Nat.le_refl _)).src (by intro u hu; simp at hu; rcases hu with rfl | rfl | rfl <;> rfl) (by unfold maxLen; omega) (by omega) hb0 ?_
              intro v' wc hown hgrow _
              obtain ⟨A4, c4, rfl⟩ := own_sl hown
              have hbs := X3.bs.grown hgrow (lx.own_ne (own_up X3.own X3.lo) X3.bs (by decide))
              refine hK.out _ _ trivial ?_
              clear hK K
              repeat ((with_reducible show wpTree _ _ _ _ (.take _ _) _ _); (first | (refine wpTree_on (v := ?_) rfl rfl (wanted_free rfl) (fun w' hS => ?_) ?_; rotate_left; (focus (go_simp; (try with_reducible rfl); done))) | (refine wpTree_on (v := ?_) rfl rfl (wanted_yes rfl rfl rfl) (fun w' hS => ?_) ?_; rotate_left; (focus (go_simp; (try with_reducible rfl); done))) | (refine wpTree_off rfl rfl (wanted_no rfl rfl rfl) ?_) | (refine wpTree_off rfl rfl (wanted_undef rfl rfl rfl) ?_)))
              have q3 : _ = some v := hbs.cell 1
              have f3 := hbs.frozen 1
              refine wpTree_do rfl (wanted_free rfl) (fun K hK => ?_); go_simp
              clear q3 f3
              refine hK.out _ _ trivial (wpTree_end ?_)
              clear hK K
              have hfin := Lib.hid (X3.app (c := c) hown hgrow)
              go_wp2_with fail
              go_meet
              exact ⟨_, hfin.out⟩
        clear X12 HCO HV
        obtain ⟨v7, x7⟩ := hcut
        have X14 := Lib.hid x7
        clear x7
        generalize wc = w14 at *
        go_wp2_with fail
        obtain ⟨V_w14, hW_, hb_, BS⟩ : ∃ W_, W_ = (w14.alloc (.cells #[.string ⟨#[44]⟩] 9)) ∧ Below w14.heap.size w14 W_ ∧ Blk W_ (w14.heap.size) 9 #[.string ⟨#[44]⟩] :=
          ⟨_, rfl, ((Below.refl _ _).alloc (Nat.le_refl _) _), (blk_new_at w14 (w14.heap.size) _ _ (by simp))⟩
        rw [← hW_]
        clear hW_
        have Xv := Lib.hid (X14.out.ext hb_)
        have hgl_ := X14.out.pr.gl
        have HM := Lib.hid (pmust_ [[44]] (some ⟨w14.heap.size, 0, none⟩) 1 Xv.out.pr (Row.of_blk BS (Nat.zero_le _) 1 1 (Nat.le_refl _)) (by intro b' off e; injection e with e; injection e with e _; rw [← e]; simp; omega) (by decide))
        clear hb_ BS hgl_
        refine (HM.out).mono ?_
        rintro e w15 ⟨rfl, h_, hg_⟩
        have X15 := Lib.hid (Xv.out.parser (q := mustP W [44] q2) h_ hg_)
        clear h_ hg_ Xv HM
        have LEN2 := Lib.hid X15.out.len
        go_wp2
        go_roundw
        case rel => exact ⟨f, cl ++ [c], mustP W [44] q2, v7, X15.out, HL2, by simp; omega, by simp; omega⟩
        case measure =>
          rw [LEN2.out, LEN.out]
          simp
          omega
  clear X11 HCS
  obtain ⟨v8, x8, hl6⟩ := hcut
  have X16 := Lib.hid x8
  clear x8
  generalize wc = w16 at *
  go_wp2_with fail
  obtain ⟨V_w16, hW_, hb_, BS⟩ : ∃ W_, W_ = (w16.alloc (.cells #[.string ⟨#[107, 101, 121]⟩, .string ⟨#[40]⟩] 9)) ∧ Below w16.heap.size w16 W_ ∧ Blk W_ (w16.heap.size) 9 #[.string ⟨#[107, 101, 121]⟩, .string ⟨#[40]⟩] :=
    ⟨_, rfl, ((Below.refl _ _).alloc (Nat.le_refl _) _), (blk_new_at w16 (w16.heap.size) _ _ (by simp))⟩
  rw [← hW_]
  clear hW_
  have Xv := Lib.hid (X16.out.ext hb_)
  have hgl_ := X16.out.pr.gl
  have HM := Lib.hid (pmust_ [[107, 101, 121], [40]] (some ⟨w16.heap.size, 0, none⟩) 2 Xv.out.pr (Row.of_blk BS (Nat.zero_le _) 2 2 (Nat.le_refl _)) (by intro b' off e; injection e with e; injection e with e _; rw [← e]; simp; omega) (by decide))
  clear hb_ BS hgl_
  refine (HM.out).mono ?_
  rintro e w17 ⟨rfl, h_, hg_⟩
  have X17 := Lib.hid (Xv.out.parser (q := mustL W [[107, 101, 121], [40]] p7) h_ hg_)
  clear h_ hg_ Xv HM
  go_wp2_with fail
  refine (HN2.out _ X17.out.pr).mono ?_
  rintro e w18 ⟨rfl, h_, hg_⟩
  have X18 := Lib.hid (X17.out.parser h_ hg_)
  clear h_ hg_ X16 X17 HN2
  go_wp2_with fail
  obtain ⟨V_w18, hW_, hb_, BS⟩ : ∃ W_, W_ = (w18.alloc (.cells #[.string ⟨#[41]⟩, .string ⟨#[41]⟩] 9)) ∧ Below w18.heap.size w18 W_ ∧ Blk W_ (w18.heap.size) 9 #[.string ⟨#[41]⟩, .string ⟨#[41]⟩] :=
    ⟨_, rfl, ((Below.refl _ _).alloc (Nat.le_refl _) _), (blk_new_at w18 (w18.heap.size) _ _ (by simp))⟩
  rw [← hW_]
  clear hW_
  have Xv := Lib.hid (X18.out.ext hb_)
  have hgl_ := X18.out.pr.gl
  have HM := Lib.hid (pmust_ [[41], [41]] (some ⟨w18.heap.size, 0, none⟩) 2 Xv.out.pr (Row.of_blk BS (Nat.zero_le _) 2 2 (Nat.le_refl _)) (by intro b' off e; injection e with e; injection e with e _; rw [← e]; simp; omega) (by decide))
  clear hb_ BS hgl_
  refine (HM.out).mono ?_
  rintro e w19 ⟨rfl, h_, hg_⟩
  have X19 := Lib.hid (Xv.out.parser (q := mustL W [[41], [41]] p9) h_ hg_)
  clear h_ hg_ Xv HM
  obtain ⟨A1, c1, hv⟩ := own_sl X19.out.own
  have qv : w19.cell? ⟨sb, 1, none⟩ = some (.slice A1 cs.length c1) := (X19.out.bs.cell 1).trans (congrArg some hv)
  have ho := X19.out.own
  rw [hv] at ho
  have HCL := Lib.hid (cloneC_ 0 cs.length (.slice A1 cs.length c1) _ w19 ho (by omega) (oneC cs))
  have HV := Lib.hid hv
  clear hv ho X18
  go_wp2_with fail
  refine (HCL.out).mono ?_
  rintro e w20 ⟨v20, rfl, ho, hb⟩
  obtain ⟨A2, c2, rfl⟩ := own_sl ho
  have X20 := Lib.hid (X19.out.ext hb)
  have HO20 := Lib.hid (lib.own_base ho (Nat.zero_le _))
  have HL20 := Lib.hid (fun k (hk : (Value.slice A2 cs.length c2).ownBlock = some k) => Nat.le_trans X19.out.fr.size (ho.lt k hk).1)
  clear qv
  have qv : w20.cell? ⟨sb, 1, none⟩ = some (.slice A1 cs.length c1) := (X20.out.bs.cell 1).trans (congrArg some HV.out)
  have fv := X20.out.bs.frozen 1
  have X21 := Lib.hid (X20.out.set 1 (.slice A2 cs.length c2) (sn' := sn) (cs' := cs) (key' := 0) (v' := .slice A2 cs.length c2) rfl HO20.out HL20.out)
  clear ho hb
  go_upto_region 17 with fail
  clear qv fv HV X19 X20
  generalize w20.setCell ⟨sb, 1, none⟩ (.slice A2 cs.length c2) = w21 at *
  have HFD := Lib.hid (find_ ky sn cs A2 c2 0 only ((Row.of_own X21.out.own).base (Nat.zero_le _)) (by omega))
  have HBS := Lib.hid X21.out.bs
  have hkd := (show keyOf cs ky = if (findC cs ky).2 = true then (findC cs ky).1 else -1 from rfl)
  obtain ⟨ki, hki⟩ : ∃ x, keyOf cs ky = x := ⟨_, rfl⟩
  obtain ⟨⟨fi, fb⟩, hfc⟩ : ∃ X, findC cs ky = X := ⟨_, rfl⟩
  replace HFD := HFD.out
  rw [hfc] at HFD hkd
  simp only at HFD hkd
  rw [hki] at hkd
  have HKI := Lib.hid hki
  replace HFD := Lib.hid HFD
  have HKD := Lib.hid hkd
  clear hki hfc hkd
  go_wp2_with (first | ((with_reducible show wpList _ _ _ (Oper.mk _ (Op.load 28 _) _ _ _ _ :: _) _ _); refine wpList_load_row rfl 28 _ rfl sb rfl 28 #[.string ⟨sn.toArray⟩, .slice A2 cs.length c2, .int .i64 0, .bool only] (0, 0) _ HBS.out Tryz.underlying28 rfl (by kernel_rfl) ?_))
  refine (HFD.out).mono ?_
  rintro e w22 ⟨rfl, hb⟩
  have X22 := Lib.hid (X21.out.ext hb)
  clear hb X21 HBS
  have q2 := X22.out.bs.cell 2
  have f2 := X22.out.bs.frozen 2
  have X23 := Lib.hid (X22.out.set 2 (.int .i64 fi) (sn' := sn) (cs' := cs) (key' := fi) (v' := .slice A2 cs.length c2) rfl X22.out.own X22.out.lo)
  go_upto_region 19 with fail
  clear q2 f2
  generalize w22.setCell ⟨sb, 2, none⟩ (.int .i64 fi) = w23 at *
  have hbr : b < rb := by omega
  cases fb with
  | true =>
    obtain rfl : ki = fi := by rw [HKD.out, if_pos rfl]
    have HBR_w23 := Lib.hid X23.out.br
    have HP_w23 := Lib.hid X23.out.pr
    have HG_w23 := Lib.hid X23.out.fr
    have HBS := Lib.hid X23.out.bs
    have HOW := Lib.hid X23.out.own
    obtain ⟨wz, hwz, BN, hgz⟩ := Blk.setRow HBR_w23.out (#[.int .i64 1, .string ⟨sn.toArray⟩, .slice A2 cs.length c2, .int .i64 ki, .bool only, .string ⟨#[]⟩, .string ⟨#[]⟩, .slice none 0 0, .slice none 0 0, .slice none 0 0, .slice none 0 0, .slice none 0 0, .string ⟨#[]⟩, .string ⟨#[]⟩, .bool false, .int .i64 0, .string ⟨#[]⟩])
    have HWZ := Lib.hid hwz
    have HGW := Lib.hid hgz
    have HBN := Lib.hid BN
    have HPZ := Lib.hid (HP_w23.out.grown hgz (by simp; omega) (by simp; omega))
    have HGZ := Lib.hid (grown_new HG_w23.out hgz hwr)
    clear BN hgz hwz
    go_wp2_with (first | ((with_reducible show wpList _ _ _ (Oper.mk _ (Op.load 28 _) _ _ _ _ :: _) _ _); refine wpList_load_row rfl 28 _ rfl sb rfl 28 #[.string ⟨sn.toArray⟩, .slice A2 cs.length c2, .int .i64 ki, .bool only] (0, 0) _ HBS.out Tryz.underlying28 rfl (by kernel_rfl) ?_) | ((with_reducible show wpList _ _ _ (Oper.mk _ (Op.store 34 _ _) _ _ _ _ :: _) _ _); refine wpList_store_row rfl 34 _ _ rfl rb (#[.int .i64 1, .string ⟨sn.toArray⟩, .slice A2 cs.length c2, .int .i64 ki, .bool only, .string ⟨#[]⟩, .string ⟨#[]⟩, .slice none 0 0, .slice none 0 0, .slice none 0 0, .slice none 0 0, .slice none 0 0, .string ⟨#[]⟩, .string ⟨#[]⟩, .bool false, .int .i64 0, .string ⟨#[]⟩]) rfl rfl 34 _ HBR_w23.out (by kernel_rfl) rfl (by kernel_rfl) ?_; rw [← HWZ.out]))
    refine bodyPost_ret (v := .agg (#[.int .i64 1, .string ⟨sn.toArray⟩, .slice A2 cs.length c2, .int .i64 ki, .bool only, .string ⟨#[]⟩, .string ⟨#[]⟩, .slice none 0 0, .slice none 0 0, .slice none 0 0, .slice none 0 0, .slice none 0 0, .string ⟨#[]⟩, .string ⟨#[]⟩, .bool false, .int .i64 0, .string ⟨#[]⟩])) ?_ ?_ ?_
    · exact results_cell_row Tryz.results25 _ wz rb 34 (#[.int .i64 1, .string ⟨sn.toArray⟩, .slice A2 cs.length c2, .int .i64 ki, .bool only, .string ⟨#[]⟩, .string ⟨#[]⟩, .slice none 0 0, .slice none 0 0, .slice none 0 0, .slice none 0 0, .slice none 0 0, .string ⟨#[]⟩, .string ⟨#[]⟩, .bool false, .int .i64 0, .string ⟨#[]⟩]) (0, 0) _ rfl HBN.out Tryz.underlying34 rfl (by kernel_rfl)
    · rfl
    · exact ⟨{ Vs0 with c := .slice A2 cs.length c2 }, by rw [HKI.out]; rfl, sto_c (st := { St0 with kind := 1, sn := sn, cols := cs, key := keyOf cs ky, only := only }) ⟨rfl, rfl, rfl, rfl, rfl⟩ (own_kb HOW.out HBR_w23.out (by decide) HGW.out), HPZ.out, HGZ.out⟩
  | false =>
    obtain rfl : ki = -1 := by rw [HKD.out, if_neg (by simp)]
    have q2 := X23.out.bs.cell 2
    have f2 := X23.out.bs.frozen 2
    have X24 := Lib.hid (X23.out.set 2 (.int .i64 (-1)) (sn' := sn) (cs' := cs) (key' := -1) (v' := .slice A2 cs.length c2) rfl X23.out.own X23.out.lo)
    go_upto_region 21 with fail
    clear q2 f2
    generalize w23.setCell ⟨sb, 2, none⟩ (.int .i64 (-1)) = w24 at *
    have HBR_w24 := Lib.hid X24.out.br
    have HP_w24 := Lib.hid X24.out.pr
    have HG_w24 := Lib.hid X24.out.fr
    have HBS := Lib.hid X24.out.bs
    have HOW := Lib.hid X24.out.own
    obtain ⟨wz, hwz, BN, hgz⟩ := Blk.setRow HBR_w24.out (#[.int .i64 1, .string ⟨sn.toArray⟩, .slice A2 cs.length c2, .int .i64 (-1), .bool only, .string ⟨#[]⟩, .string ⟨#[]⟩, .slice none 0 0, .slice none 0 0, .slice none 0 0, .slice none 0 0, .slice none 0 0, .string ⟨#[]⟩, .string ⟨#[]⟩, .bool false, .int .i64 0, .string ⟨#[]⟩])
    have HWZ := Lib.hid hwz
    have HGW := Lib.hid hgz
    have HBN := Lib.hid BN
    have HPZ := Lib.hid (HP_w24.out.grown hgz (by simp; omega) (by simp; omega))
    have HGZ := Lib.hid (grown_new HG_w24.out hgz hwr)
    clear BN hgz hwz
    go_wp2_with (first | ((with_reducible show wpList _ _ _ (Oper.mk _ (Op.load 28 _) _ _ _ _ :: _) _ _); refine wpList_load_row rfl 28 _ rfl sb rfl 28 #[.string ⟨sn.toArray⟩, .slice A2 cs.length c2, .int .i64 (-1), .bool only] (0, 0) _ HBS.out Tryz.underlying28 rfl (by kernel_rfl) ?_) | ((with_reducible show wpList _ _ _ (Oper.mk _ (Op.store 34 _ _) _ _ _ _ :: _) _ _); refine wpList_store_row rfl 34 _ _ rfl rb (#[.int .i64 1, .string ⟨sn.toArray⟩, .slice A2 cs.length c2, .int .i64 (-1), .bool only, .string ⟨#[]⟩, .string ⟨#[]⟩, .slice none 0 0, .slice none 0 0, .slice none 0 0, .slice none 0 0, .slice none 0 0, .string ⟨#[]⟩, .string ⟨#[]⟩, .bool false, .int .i64 0, .string ⟨#[]⟩]) rfl rfl 34 _ HBR_w24.out (by kernel_rfl) rfl (by kernel_rfl) ?_; rw [← HWZ.out]))
    refine bodyPost_ret (v := .agg (#[.int .i64 1, .string ⟨sn.toArray⟩, .slice A2 cs.length c2, .int .i64 (-1), .bool only, .string ⟨#[]⟩, .string ⟨#[]⟩, .slice none 0 0, .slice none 0 0, .slice none 0 0, .slice none 0 0, .slice none 0 0, .string ⟨#[]⟩, .string ⟨#[]⟩, .bool false, .int .i64 0, .string ⟨#[]⟩])) ?_ ?_ ?_
    · exact results_cell_row Tryz.results25 _ wz rb 34 (#[.int .i64 1, .string ⟨sn.toArray⟩, .slice A2 cs.length c2, .int .i64 (-1), .bool only, .string ⟨#[]⟩, .string ⟨#[]⟩, .slice none 0 0, .slice none 0 0, .slice none 0 0, .slice none 0 0, .slice none 0 0, .string ⟨#[]⟩, .string ⟨#[]⟩, .bool false, .int .i64 0, .string ⟨#[]⟩]) (0, 0) _ rfl HBN.out Tryz.underlying34 rfl (by kernel_rfl)
    · rfl
    · exact ⟨{ Vs0 with c := .slice A2 cs.length c2 }, by rw [HKI.out]; rfl, sto_c (st := { St0 with kind := 1, sn := sn, cols := cs, key := keyOf cs ky, only := only }) ⟨rfl, rfl, rfl, rfl, rfl⟩ (own_kb HOW.out HBR_w24.out (by decide) HGW.out), HPZ.out, HGZ.out⟩
end Go.Proofs.YtfnceamkephpjaaGreat.pg
