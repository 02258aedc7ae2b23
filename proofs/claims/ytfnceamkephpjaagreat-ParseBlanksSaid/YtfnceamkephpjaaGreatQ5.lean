/- Statements: appends to a statement's rows; insert's closure. Printed by genq5.py. -/
import Derived.Test.YtfnceamkephpjaaGreatQ4
namespace Go.Proofs.YtfnceamkephpjaaGreat.pg
open Go.ChangeShapes Go.WideShapes Go.ChangeAt Go.RowKit Go.Proofs.YtfnceamkephpjaaGreat.lib Go.Proofs.YtfnceamkephpjaaGreat.lx
set_option linter.unusedVariables false

/-- the rows that are appended to are new -/
structure Lo (B : Nat) (v : Vs) : Prop where
  e : ∀ k, v.e.ownBlock = some k → B ≤ k
  n : ∀ k, v.n.ownBlock = some k → B ≤ k
  i : ∀ k, v.i.ownBlock = some k → B ≤ k
theorem lo_nil (B : Nat) : Lo B Vs0 := ⟨fun k h => (by cases h), fun k h => (by cases h), fun k h => (by cases h)⟩
theorem own_up {w : World} {B size n : Nat} {e : TypeId} {v : Value} {xs : List Value} (h : w.ownsRow 0 e size v n xs) (hl : ∀ k, v.ownBlock = some k → B ≤ k) : w.ownsRow B e size v n xs := by
  refine ⟨h.1, ?_⟩
  rcases h.2 with h2 | ⟨g, cap, cur, e1, h3, h4⟩
  · exact .inl h2
  · subst e1
    exact .inr ⟨g, cap, cur, rfl, hl g rfl, h4⟩
section
variable {w0 w wc : World} {g b pb xb rb : Nat} {W : List Wd} {p : Pp} {st : St} {v : Vs}
/-- all of it but the row of type e that grows -/
theorem Sx.grow {e : TypeId} {size n : Nat} {u : Value} {xs : List Value} (h : Sx w0 w g b pb xb rb W p st v) (o : w.ownsRow w0.heap.size e size u n xs) (hg : w.grownBy wc u.ownBlock) (h1 : e ≠ 50) (h2 : e ≠ 34) :
    w0.grownBy wc (some g) ∧ Pr wc g W b p ∧ Blk wc pb 50 #[.pointer (some ⟨g, 0, none⟩)] ∧ Blk wc xb 34 (cellsSt st v) ∧ Blk wc rb 34 (cellsSt St0 Vs0) := by
  have hgl := h.gl
  have hbl := h.bl
  have hlo : ∀ k, k < w0.heap.size → some k ≠ u.ownBlock := fun k hk e => by have := (o.lt _ e.symm).1; omega
  refine ⟨⟨hg.os.trans h.fr.os, hg.tape.trans h.fr.tape, hg.output.trans h.fr.output, Nat.le_trans h.fr.size hg.size, fun k hk hne => (hg.block k (Nat.lt_of_lt_of_le hk h.fr.size) (hlo k hk)).trans (h.fr.block k hk hne)⟩, h.pr.grown hg (hlo g hgl) (hlo b hbl), h.bp.grown hg (lx.own_ne o h.bp h1), h.bx.grown hg (lx.own_ne o h.bx h2), h.br.grown hg (lx.own_ne o h.br h2)⟩
theorem Sx.appE {hs : List Value} {u v' : Value} {es : List Nd} (h : Sx w0 w g b pb xb rb W p st v) (hl : Lo w0.heap.size v) (o1 : w.ownsRow 0 30 1 v.e st.exprs.length hs) (o2 : hs.length = st.exprs.length) (o3 : ∀ (i : Nat) h e, hs[i]? = some h → st.exprs[i]? = some e → ExO w h e) (hu : ExO w u es)
    (hown : wc.ownsRow w0.heap.size 30 1 v' (st.exprs.length + 1) (hs ++ [u])) (hg : w.grownBy wc v.e.ownBlock) :
    Sx w0 (wc.setCell ⟨xb, 9, none⟩ v') g b pb xb rb W p { st with exprs := st.exprs ++ [es] } { v with e := v' } ∧ Lo w0.heap.size { v with e := v' } := by
  obtain ⟨f1, f2, f3, f4, f5⟩ := h.grow (own_up o1 hl.e) hg (by decide) (by decide)
  have hlen : (st.exprs ++ [es]).length = st.exprs.length + 1 := by simp
  have rows : StO wc { st with exprs := st.exprs ++ [es] } { v with e := v' } :=
    ⟨own_ko h.own.c o1 (by decide) hg, h.own.on.ko o1 (by decide) hg, own_ko h.own.n o1 (by decide) hg,
     ⟨hs ++ [u], by rw [hlen]; exact lib.own_base hown (Nat.zero_le _), by simp [o2], fun i h e a c => by
        rcases Nat.lt_trichotomy i hs.length with hi | hi | hi
        · rw [List.getElem?_append_left hi] at a
          rw [List.getElem?_append_left (by omega)] at c
          exact (o3 i h e a c).ko o1 (by decide) hg
        · subst hi
          rw [List.getElem?_append_right (Nat.le_refl _), Nat.sub_self] at a
          rw [o2, List.getElem?_append_right (Nat.le_refl _), Nat.sub_self] at c
          injection a with a
          injection c with c
          subst a c
          exact hu.ko o1 (by decide) hg
        · rw [List.getElem?_append_right (by omega)] at a
          obtain ⟨j, hj⟩ : ∃ j, i - hs.length = j + 1 := ⟨i - hs.length - 1, by omega⟩
          rw [hj] at a
          cases a⟩, h.own.i.ko o1 (by decide) (by decide) hg, h.own.w.ko o1 (by decide) hg⟩
  have hgs := grown_set wc ⟨xb, 9, none⟩ v'
  have rows2 := rows.kb f4 notSt hgs
  have h1 := h.gl
  have h2 := h.bl
  have h3 := h.x0
  refine ⟨⟨grown_new f1 hgs h3, f2.grown hgs (by simp; omega) (by simp; omega), f3.grown hgs (by have := h.xp; simp; omega), ?_, f5.grown hgs (by have := h.xr; simp; omega), rows2, h1, h2, h.p0, h3, h.r0, h.xr, h.xp⟩, ⟨fun k hk => (hown.lt k hk).1, hl.n, hl.i⟩⟩
  have hs2 := f4.set_ 9 v'
  simpa [cellsSt] using hs2
theorem Sx.appN {v' : Value} {nm : List UInt8} (h : Sx w0 w g b pb xb rb W p st v) (hl : Lo w0.heap.size v)
    (hown : wc.ownsRow w0.heap.size 9 1 v' (st.names.length + 1) (flatK encS st.names ++ [.string ⟨nm.toArray⟩])) (hg : w.grownBy wc v.n.ownBlock) :
    Sx w0 (wc.setCell ⟨xb, 8, none⟩ v') g b pb xb rb W p { st with names := st.names ++ [nm] } { v with n := v' } ∧ Lo w0.heap.size { v with n := v' } := by
  have o1 : w.ownsRow 0 9 1 v.n st.names.length (flatK encS st.names) := h.own.n
  obtain ⟨f1, f2, f3, f4, f5⟩ := h.grow (own_up o1 hl.n) hg (by decide) (by decide)
  have hlen : (st.names ++ [nm]).length = st.names.length + 1 := by simp
  have rows : StO wc { st with names := st.names ++ [nm] } { v with n := v' } :=
    ⟨own_ko h.own.c o1 (by decide) hg, h.own.on.ko o1 (by decide) hg,
     by show wc.ownsRow 0 _ 1 v' (st.names ++ [nm]).length (flatK encS (st.names ++ [nm])); rw [hlen, flatK_append, flatK_one]; exact lib.own_base hown (Nat.zero_le _),
     h.own.e.ko o1 (by decide) (by decide) hg, h.own.i.ko o1 (by decide) (by decide) hg, h.own.w.ko o1 (by decide) hg⟩
  have hgs := grown_set wc ⟨xb, 8, none⟩ v'
  have rows2 := rows.kb f4 notSt hgs
  have h1 := h.gl
  have h2 := h.bl
  have h3 := h.x0
  refine ⟨⟨grown_new f1 hgs h3, f2.grown hgs (by simp; omega) (by simp; omega), f3.grown hgs (by have := h.xp; simp; omega), ?_, f5.grown hgs (by have := h.xr; simp; omega), rows2, h1, h2, h.p0, h3, h.r0, h.xr, h.xp⟩, ⟨hl.e, fun k hk => (hown.lt k hk).1, hl.i⟩⟩
  have hs2 := f4.set_ 8 v'
  simpa [cellsSt] using hs2
theorem Sx.appI {hs : List (Int × Value)} {u v' : Value} {fn : Int} {es : List Nd} (h : Sx w0 w g b pb xb rb W p st v) (hl : Lo w0.heap.size v) (o1 : w.ownsRow 0 63 2 v.i st.items.length (flatK encI hs)) (o2 : hs.length = st.items.length) (o3 : ∀ (i : Nat) h e, hs[i]? = some h → st.items[i]? = some e → h.1 = e.1 ∧ ExO w h.2 e.2) (hu : ExO w u es)
    (hown : wc.ownsRow w0.heap.size 63 2 v' (st.items.length + 1) (flatK encI hs ++ [.int .i64 fn, u])) (hg : w.grownBy wc v.i.ownBlock) :
    Sx w0 (wc.setCell ⟨xb, 10, none⟩ v') g b pb xb rb W p { st with items := st.items ++ [(fn, es)] } { v with i := v' } ∧ Lo w0.heap.size { v with i := v' } := by
  obtain ⟨f1, f2, f3, f4, f5⟩ := h.grow (own_up o1 hl.i) hg (by decide) (by decide)
  have hlen : (st.items ++ [(fn, es)]).length = st.items.length + 1 := by simp
  have rows : StO wc { st with items := st.items ++ [(fn, es)] } { v with i := v' } :=
    ⟨own_ko h.own.c o1 (by decide) hg, h.own.on.ko o1 (by decide) hg, own_ko h.own.n o1 (by decide) hg, h.own.e.ko o1 (by decide) (by decide) hg,
     ⟨hs ++ [(fn, u)], by rw [hlen, flatK_append, flatK_one]; exact lib.own_base hown (Nat.zero_le _), by simp [o2], fun i h e a c => by
        rcases Nat.lt_trichotomy i hs.length with hi | hi | hi
        · rw [List.getElem?_append_left hi] at a
          rw [List.getElem?_append_left (by omega)] at c
          exact ⟨(o3 i h e a c).1, (o3 i h e a c).2.ko o1 (by decide) hg⟩
        · subst hi
          rw [List.getElem?_append_right (Nat.le_refl _), Nat.sub_self] at a
          rw [o2, List.getElem?_append_right (Nat.le_refl _), Nat.sub_self] at c
          injection a with a
          injection c with c
          subst a c
          exact ⟨rfl, hu.ko o1 (by decide) hg⟩
        · rw [List.getElem?_append_right (by omega)] at a
          obtain ⟨j, hj⟩ : ∃ j, i - hs.length = j + 1 := ⟨i - hs.length - 1, by omega⟩
          rw [hj] at a
          cases a⟩, h.own.w.ko o1 (by decide) hg⟩
  have hgs := grown_set wc ⟨xb, 10, none⟩ v'
  have rows2 := rows.kb f4 notSt hgs
  have h1 := h.gl
  have h2 := h.bl
  have h3 := h.x0
  refine ⟨⟨grown_new f1 hgs h3, f2.grown hgs (by simp; omega) (by simp; omega), f3.grown hgs (by have := h.xp; simp; omega), ?_, f5.grown hgs (by have := h.xr; simp; omega), rows2, h1, h2, h.p0, h3, h.r0, h.xr, h.xp⟩, ⟨hl.e, hl.n, fun k hk => (hown.lt k hk).1⟩⟩
  have hs2 := f4.set_ 10 v'
  simpa [cellsSt] using hs2
end
/-- insert's row on its way -/
def IxE (w0 : World) (g b pb xb rb : Nat) (W : List Wd) (st : St) (n : Nat) (s : List (List Nd)) (p : Pp) (w : World) : Prop := s.length = n ∧ ∃ v, Sx w0 w g b pb xb rb W p { st with exprs := s } v ∧ Lo w0.heap.size v
set_option maxRecDepth 1000000 in
set_option maxHeartbeats 4000000 in
theorem ins1_ (w0 : World) (g b pb xb rb : Nat) (W : List Wd) (st : St) (n : Nat) (s : List (List Nd)) (p : Pp) (w : World) (hn : n ≤ 6) (hx : IxE w0 g b pb xb rb W st n s p w) :
    Calls Tryz.prog 51 #[.pointer (some ⟨xb, 0, none⟩), .pointer (some ⟨pb, 0, none⟩)] w fun e w' => e = .returned (.tuple #[]) ∧ IxE w0 g b pb xb rb W st (n + 1) (insDo W s p).1 (insDo W s p).2 w' := by
  obtain ⟨i0e, hie, hy0e, hy1e, hy2e⟩ := info_parts (P := Tryz.prog) (e := 30) (z := .slice none 0 0) (size := 1) (bytes := 24) (by kernel_rfl)
  obtain ⟨rfl, v, x, lo⟩ := hx
  have X := Lib.hid x
  have LO := Lib.hid lo
  have HE := Lib.hid (fun w' (y : Pr w' g W b p) => expr_ y)
  replace HE := HE.out
  have hr := (show insDo W s p = match exprP W p with | (e, q) => (s ++ [e], q) from rfl)
  obtain ⟨⟨es, q⟩, hq⟩ : ∃ X, exprP W p = X := ⟨_, rfl⟩
  rw [hq] at HE hr
  simp only at HE hr
  rw [hr]
  replace HE := Lib.hid HE
  clear x lo hr hq
  go_enter Tryz.func51, Tryz.ntmps51
  have XV := Lib.hid (X.out.ext (Below.drew (Below.refl _ _)))
  have D := fun w' (h : Blk w' pb 50 #[.pointer (some ⟨g, 0, none⟩)]) => h.cell 0
  refine wp_region_tree (S := fun w' => Blk w' pb 50 #[.pointer (some ⟨g, 0, none⟩)]) (.take 0 (.take 2 (.two 1 3 (.one 3 (.one 4 (.one 5 (.take 6 (.one 7 .nil))))) (.two 1 4 (.one 4 (.one 5 (.take 6 (.one 7 .nil)))) (.one 1 (.one 5 (.take 6 (.one 7 .nil))))))))
    (by kernel_rfl) (by kernel_rfl) (by kernel_rfl) (by decide) (by intro c a d v w h; cases d <;> exact h) XV.out.bp ?_
  repeat ((with_reducible show wpTree _ _ _ _ (.take _ _) _ _); (first | (refine wpTree_on (v := ?_) rfl rfl (wanted_free rfl) (fun w' hS => ?_) ?_; rotate_left; (focus (go_simp; (try with_reducible rfl); done)); try simp only [List.setIfInBounds_toArray, List.set_cons_zero, List.set_cons_succ]) | (refine wpTree_on (v := ?_) rfl rfl (wanted_yes rfl rfl rfl) (fun w' hS => ?_) ?_; rotate_left; (focus (go_simp; (try with_reducible rfl); done)); try simp only [List.setIfInBounds_toArray, List.set_cons_zero, List.set_cons_succ]) | (refine wpTree_off rfl rfl (wanted_no rfl rfl rfl) ?_; try simp only [List.setIfInBounds_toArray, List.set_cons_zero, List.set_cons_succ]) | (refine wpTree_off rfl rfl (wanted_undef rfl rfl rfl) ?_; try simp only [List.setIfInBounds_toArray, List.set_cons_zero, List.set_cons_succ])))
  clear D
  refine wpTree_both rfl (wanted_free rfl) rfl (wanted_free rfl) (fun K hK => ?_) (fun K hK => ?_)
  · have c1 : _ = some v.e := XV.out.cell 9
    go_simp
    refine hK.out _ _ XV.out.bp ?_
    clear hK K c1
    refine wpTree_do rfl (wanted_free rfl) (fun K hK => ?_); go_simp
    refine (HE.out _ XV.out.pr).mono ?_
    rintro e w2 ⟨u, rfl, ho, _, h2, hg2⟩
    obtain ⟨A, c, rfl⟩ := own_sl ho
    have X2 := Lib.hid (XV.out.parser h2 hg2)
    have HU := Lib.hid (show ExO w2 (.slice A es.length c) es from lib.own_base ho (Nat.zero_le _))
    clear h2 hg2 ho
    refine hK.out _ _ X2.out.bp ?_
    clear hK K
    refine wpTree_do rfl (wanted_free rfl) (fun K hK => ?_); go_simp
    refine hK.out _ _ (X2.out.bp.alloc _) ?_
    clear hK K
    have hbd : Below w2.heap.size w2 (w2.alloc (.cells #[.slice A es.length c] 30)) := (Below.refl _ _).alloc (Nat.le_refl _) _
    have X3 := X2.out.ext hbd
    have hB3 : Blk (w2.alloc (.cells #[.slice A es.length c] 30)) w2.heap.size 30 #[.slice A es.length c] := Blk.new w2 _ _
    have hb0 := Nat.le_trans X2.out.fr.size hbd.size
    have HU3 := Lib.hid (HU.out.ext hbd)
    generalize hw3 : (w2.alloc (.cells #[.slice A es.length c] 30)) = w3 at *
    clear hw3
    obtain ⟨hs, oR, o2, o3⟩ := X3.own.e
    simp only at oR o2 o3
    refine wpTree_do rfl (wanted_free rfl) (fun K hK => ?_)
    refine wp_append_own _ (.tmp 3) (.tmp 6) 31 rfl w0.heap.size 30 i0e _ 1 24 Tryz.underlying31 hie hy0e hy1e hy2e rfl (by decide) _ _ _ rfl (own_up oR LO.out.e) ⟨w2.heap.size, 0, none⟩ 1 1 [.slice A es.length c] rfl rfl (Row.of_blk hB3 (Nat.zero_le _) 1 1 (Nat.le_refl _)).src (by intro u hu; simp at hu; rcases hu with rfl | rfl <;> rfl) (by unfold maxLen; omega) (by omega) hb0 ?_
    intro v' wc hown hgrow _
    obtain ⟨A4, c4, rfl⟩ := own_sl hown
    have hbp := X3.bp.grown hgrow (lx.own_ne (own_up oR LO.out.e) X3.bp (by decide))
    have hbx := X3.bx.grown hgrow (lx.own_ne (own_up oR LO.out.e) X3.bx (by decide))
    refine hK.out _ _ hbp ?_
    clear hK K
    repeat ((with_reducible show wpTree _ _ _ _ (.take _ _) _ _); (first | (refine wpTree_on (v := ?_) rfl rfl (wanted_free rfl) (fun w' hS => ?_) ?_; rotate_left; (focus (go_simp; (try with_reducible rfl); done))) | (refine wpTree_on (v := ?_) rfl rfl (wanted_yes rfl rfl rfl) (fun w' hS => ?_) ?_; rotate_left; (focus (go_simp; (try with_reducible rfl); done))) | (refine wpTree_off rfl rfl (wanted_no rfl rfl rfl) ?_) | (refine wpTree_off rfl rfl (wanted_undef rfl rfl rfl) ?_)))
    have q3 : _ = some v.e := hbx.cell 9
    have f3 := hbx.frozen 9
    refine wpTree_do rfl (wanted_free rfl) (fun K hK => ?_); go_simp
    clear q3 f3
    refine hK.out _ _ (hbp.far (p := ⟨xb, 9, none⟩) (Ne.symm X3.xp) _) (wpTree_end ?_)
    clear hK K
    have hfin := Lib.hid (X3.appE LO.out oR o2 o3 HU3.out hown hgrow)
    first | go_end0 | refine bodyPost_ret (results_none rfl _ _ _) rfl ?_
    exact ⟨rfl, by simp, _, hfin.out.1, hfin.out.2⟩
  · go_simp
    refine (HE.out _ XV.out.pr).mono ?_
    rintro e w2 ⟨u, rfl, ho, _, h2, hg2⟩
    obtain ⟨A, c, rfl⟩ := own_sl ho
    have X2 := Lib.hid (XV.out.parser h2 hg2)
    have HU := Lib.hid (show ExO w2 (.slice A es.length c) es from lib.own_base ho (Nat.zero_le _))
    clear h2 hg2 ho
    refine hK.out _ _ X2.out.bp ?_
    clear hK K
    refine wpTree_both rfl (wanted_free rfl) rfl (wanted_free rfl) (fun K hK => ?_) (fun K hK => ?_)
    · have c1 : _ = some v.e := X2.out.cell 9
      go_simp
      refine hK.out _ _ X2.out.bp ?_
      clear hK K c1
      refine wpTree_do rfl (wanted_free rfl) (fun K hK => ?_); go_simp
      refine hK.out _ _ (X2.out.bp.alloc _) ?_
      clear hK K
      have hbd : Below w2.heap.size w2 (w2.alloc (.cells #[.slice A es.length c] 30)) := (Below.refl _ _).alloc (Nat.le_refl _) _
      have X3 := X2.out.ext hbd
      have hB3 : Blk (w2.alloc (.cells #[.slice A es.length c] 30)) w2.heap.size 30 #[.slice A es.length c] := Blk.new w2 _ _
      have hb0 := Nat.le_trans X2.out.fr.size hbd.size
      have HU3 := Lib.hid (HU.out.ext hbd)
      generalize hw3 : (w2.alloc (.cells #[.slice A es.length c] 30)) = w3 at *
      clear hw3
      obtain ⟨hs, oR, o2, o3⟩ := X3.own.e
      simp only at oR o2 o3
      refine wpTree_do rfl (wanted_free rfl) (fun K hK => ?_)
      refine wp_append_own _ (.tmp 3) (.tmp 6) 31 rfl w0.heap.size 30 i0e _ 1 24 Tryz.underlying31 hie hy0e hy1e hy2e rfl (by decide) _ _ _ rfl (own_up oR LO.out.e) ⟨w2.heap.size, 0, none⟩ 1 1 [.slice A es.length c] rfl rfl (Row.of_blk hB3 (Nat.zero_le _) 1 1 (Nat.le_refl _)).src (by intro u hu; simp at hu; rcases hu with rfl | rfl <;> rfl) (by unfold maxLen; omega) (by omega) hb0 ?_
      intro v' wc hown hgrow _
      obtain ⟨A4, c4, rfl⟩ := own_sl hown
      have hbp := X3.bp.grown hgrow (lx.own_ne (own_up oR LO.out.e) X3.bp (by decide))
      have hbx := X3.bx.grown hgrow (lx.own_ne (own_up oR LO.out.e) X3.bx (by decide))
      refine hK.out _ _ hbp ?_
      clear hK K
      repeat ((with_reducible show wpTree _ _ _ _ (.take _ _) _ _); (first | (refine wpTree_on (v := ?_) rfl rfl (wanted_free rfl) (fun w' hS => ?_) ?_; rotate_left; (focus (go_simp; (try with_reducible rfl); done))) | (refine wpTree_on (v := ?_) rfl rfl (wanted_yes rfl rfl rfl) (fun w' hS => ?_) ?_; rotate_left; (focus (go_simp; (try with_reducible rfl); done))) | (refine wpTree_off rfl rfl (wanted_no rfl rfl rfl) ?_) | (refine wpTree_off rfl rfl (wanted_undef rfl rfl rfl) ?_)))
      have q3 : _ = some v.e := hbx.cell 9
      have f3 := hbx.frozen 9
      refine wpTree_do rfl (wanted_free rfl) (fun K hK => ?_); go_simp
      clear q3 f3
      refine hK.out _ _ (hbp.far (p := ⟨xb, 9, none⟩) (Ne.symm X3.xp) _) (wpTree_end ?_)
      clear hK K
      have hfin := Lib.hid (X3.appE LO.out oR o2 o3 HU3.out hown hgrow)
      first | go_end0 | refine bodyPost_ret (results_none rfl _ _ _) rfl ?_
      exact ⟨rfl, by simp, _, hfin.out.1, hfin.out.2⟩
    · go_simp
      refine hK.out _ _ (X2.out.bp.alloc _) ?_
      clear hK K
      have c1 : _ = some v.e := (X2.out.ext ((Below.refl _ _).alloc (Nat.le_refl _) (.cells #[.slice A es.length c] 30))).cell 9
      refine wpTree_do rfl (wanted_free rfl) (fun K hK => ?_); go_simp
      refine hK.out _ _ (X2.out.bp.alloc _) ?_
      clear hK K c1
      have hbd : Below w2.heap.size w2 (w2.alloc (.cells #[.slice A es.length c] 30)) := (Below.refl _ _).alloc (Nat.le_refl _) _
      have X3 := X2.out.ext hbd
      have hB3 : Blk (w2.alloc (.cells #[.slice A es.length c] 30)) w2.heap.size 30 #[.slice A es.length c] := Blk.new w2 _ _
      have hb0 := Nat.le_trans X2.out.fr.size hbd.size
      have HU3 := Lib.hid (HU.out.ext hbd)
      generalize hw3 : (w2.alloc (.cells #[.slice A es.length c] 30)) = w3 at *
      clear hw3
      obtain ⟨hs, oR, o2, o3⟩ := X3.own.e
      simp only at oR o2 o3
      refine wpTree_do rfl (wanted_free rfl) (fun K hK => ?_)
      refine wp_append_own _ (.tmp 3) (.tmp 6) 31 rfl w0.heap.size 30 i0e _ 1 24 Tryz.underlying31 hie hy0e hy1e hy2e rfl (by decide) _ _ _ rfl (own_up oR LO.out.e) ⟨w2.heap.size, 0, none⟩ 1 1 [.slice A es.length c] rfl rfl (Row.of_blk hB3 (Nat.zero_le _) 1 1 (Nat.le_refl _)).src (by intro u hu; simp at hu; rcases hu with rfl | rfl <;> rfl) (by unfold maxLen; omega) (by omega) hb0 ?_
      intro v' wc hown hgrow _
      obtain ⟨A4, c4, rfl⟩ := own_sl hown
      have hbp := X3.bp.grown hgrow (lx.own_ne (own_up oR LO.out.e) X3.bp (by decide))
      have hbx := X3.bx.grown hgrow (lx.own_ne (own_up oR LO.out.e) X3.bx (by decide))
      refine hK.out _ _ hbp ?_
      clear hK K
      repeat ((with_reducible show wpTree _ _ _ _ (.take _ _) _ _); (first | (refine wpTree_on (v := ?_) rfl rfl (wanted_free rfl) (fun w' hS => ?_) ?_; rotate_left; (focus (go_simp; (try with_reducible rfl); done))) | (refine wpTree_on (v := ?_) rfl rfl (wanted_yes rfl rfl rfl) (fun w' hS => ?_) ?_; rotate_left; (focus (go_simp; (try with_reducible rfl); done))) | (refine wpTree_off rfl rfl (wanted_no rfl rfl rfl) ?_) | (refine wpTree_off rfl rfl (wanted_undef rfl rfl rfl) ?_)))
      have q3 : _ = some v.e := hbx.cell 9
      have f3 := hbx.frozen 9
      refine wpTree_do rfl (wanted_free rfl) (fun K hK => ?_); go_simp
      clear q3 f3
      refine hK.out _ _ (hbp.far (p := ⟨xb, 9, none⟩) (Ne.symm X3.xp) _) (wpTree_end ?_)
      clear hK K
      have hfin := Lib.hid (X3.appE LO.out oR o2 o3 HU3.out hown hgrow)
      first | go_end0 | refine bodyPost_ret (results_none rfl _ _ _) rfl ?_
      exact ⟨rfl, by simp, _, hfin.out.1, hfin.out.2⟩
end Go.Proofs.YtfnceamkephpjaaGreat.pg
