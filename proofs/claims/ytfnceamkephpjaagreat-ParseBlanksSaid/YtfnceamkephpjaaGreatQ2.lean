/- Statements in memory. -/
import Derived.Test.YtfnceamkephpjaaGreatQ1
namespace Go.Proofs.YtfnceamkephpjaaGreat.pg
open Go.ChangeShapes Go.WideShapes Go.ChangeAt Go.RowKit Go.Proofs.YtfnceamkephpjaaGreat.lib Go.Proofs.YtfnceamkephpjaaGreat.lx
set_option linter.unusedVariables false

/-- a statement's slices -/
structure Vs where
  c : Value
  on : Value
  n : Value
  e : Value
  i : Value
  w : Value
def Vs0 : Vs := ⟨.slice none 0 0, .slice none 0 0, .slice none 0 0, .slice none 0 0, .slice none 0 0, .slice none 0 0⟩
def cellsSt (st : St) (v : Vs) : Array Value := #[.int .i64 st.kind, .string ⟨st.sn.toArray⟩, v.c, .int .i64 st.key, .bool st.only, .string ⟨st.table.toArray⟩, .string ⟨st.join.toArray⟩, v.on, v.n, v.e, v.i, v.w, .string ⟨st.group.toArray⟩, .string ⟨st.order.toArray⟩, .bool st.desc, .int .i64 st.limit, .string ⟨st.name.toArray⟩]
/-- an expression of one's own -/
def ExO (w : World) (v : Value) (es : List Nd) : Prop := w.ownsRow 0 45 7 v es.length (flatK encNd es)
def ExsO (w : World) (v : Value) (L : List (List Nd)) : Prop := ∃ hs : List Value, w.ownsRow 0 30 1 v L.length hs ∧ hs.length = L.length ∧ ∀ (i : Nat) h e, hs[i]? = some h → L[i]? = some e → ExO w h e
def encI (x : Int × Value) : List Value := [.int .i64 x.1, x.2]
def ItsO (w : World) (v : Value) (L : List (Int × List Nd)) : Prop := ∃ hs : List (Int × Value), w.ownsRow 0 63 2 v L.length (flatK encI hs) ∧ hs.length = L.length ∧ ∀ (i : Nat) h e, hs[i]? = some h → L[i]? = some e → h.1 = e.1 ∧ ExO w h.2 e.2
def encS (s : List UInt8) : List Value := [.string ⟨s.toArray⟩]
def NmsO (w : World) (v : Value) (L : List (List UInt8)) : Prop := w.ownsRow 0 9 1 v L.length (flatK encS L)
def ClsO (w : World) (v : Value) (L : List Cl) : Prop := w.ownsRow 0 85 3 v L.length (flatK encC L)
structure StO (w : World) (st : St) (v : Vs) : Prop where
  c : ClsO w v.c st.cols
  on : ExO w v.on st.on
  n : NmsO w v.n st.names
  e : ExsO w v.e st.exprs
  i : ItsO w v.i st.items
  w : ExO w v.w st.wh
/-- a block's type that no such row has -/
structure NotRow (t : TypeId) : Prop where
  c : 85 ≠ t
  n : 45 ≠ t
  s : 9 ≠ t
  e : 30 ≠ t
  i : 63 ≠ t
section
variable {w w' : World} {k : Nat} {t : TypeId} {cs : Array Value}
theorem own_kb {base n size : Nat} {e : TypeId} {v : Value} {xs : List Value} (h : w.ownsRow base e size v n xs) (hb : Blk w k t cs) (hne : e ≠ t) (hg : w.grownBy w' (some k)) : w'.ownsRow base e size v n xs :=
  h.kept hg (.inr (Ne.symm (lx.own_ne h hb hne)))
theorem own_ko {base n size base2 n2 size2 : Nat} {e e2 : TypeId} {v v2 : Value} {xs xs2 : List Value} (h : w.ownsRow base e size v n xs) (h2 : w.ownsRow base2 e2 size2 v2 n2 xs2) (hne : e ≠ e2) (hg : w.grownBy w' v2.ownBlock) : w'.ownsRow base e size v n xs := by
  refine h.kept hg ?_
  rcases h.2 with ⟨rfl, _⟩ | ⟨g, cap, cur, rfl, _, hh, _⟩
  · exact .inl rfl
  · refine .inr ?_
    rcases h2.2 with ⟨rfl, _⟩ | ⟨g2, cap2, cur2, rfl, _, hh2, _⟩
    · simp [Value.ownBlock]
    · intro e
      have e : g = g2 := by simpa [Value.ownBlock] using e
      subst e
      rw [hh] at hh2
      injection hh2 with hh2
      injection hh2 with _ h3 _
      exact hne h3
theorem ExO.kb {v : Value} {es : List Nd} (h : ExO w v es) (hb : Blk w k t cs) (hn : NotRow t) (hg : w.grownBy w' (some k)) : ExO w' v es := own_kb h hb hn.n hg
theorem ExsO.kb {v : Value} {L : List (List Nd)} (h : ExsO w v L) (hb : Blk w k t cs) (hn : NotRow t) (hg : w.grownBy w' (some k)) : ExsO w' v L := by
  obtain ⟨hs, h1, h2, h3⟩ := h
  exact ⟨hs, own_kb h1 hb hn.e hg, h2, fun i h e a b => (h3 i h e a b).kb hb hn hg⟩
theorem ItsO.kb {v : Value} {L : List (Int × List Nd)} (h : ItsO w v L) (hb : Blk w k t cs) (hn : NotRow t) (hg : w.grownBy w' (some k)) : ItsO w' v L := by
  obtain ⟨hs, h1, h2, h3⟩ := h
  exact ⟨hs, own_kb h1 hb hn.i hg, h2, fun i h e a b => ⟨(h3 i h e a b).1, (h3 i h e a b).2.kb hb hn hg⟩⟩
theorem StO.kb {st : St} {v : Vs} (h : StO w st v) (hb : Blk w k t cs) (hn : NotRow t) (hg : w.grownBy w' (some k)) : StO w' st v :=
  ⟨own_kb h.c hb hn.c hg, h.on.kb hb hn hg, own_kb h.n hb hn.s hg, h.e.kb hb hn hg, h.i.kb hb hn hg, h.w.kb hb hn hg⟩
theorem ExO.ext {v : Value} {es : List Nd} (h : ExO w v es) (hb : Below w.heap.size w w') : ExO w' v es := lib.own_ext h hb
theorem ExsO.ext {v : Value} {L : List (List Nd)} (h : ExsO w v L) (hb : Below w.heap.size w w') : ExsO w' v L := by
  obtain ⟨hs, h1, h2, h3⟩ := h
  exact ⟨hs, lib.own_ext h1 hb, h2, fun i h e a b => (h3 i h e a b).ext hb⟩
theorem ItsO.ext {v : Value} {L : List (Int × List Nd)} (h : ItsO w v L) (hb : Below w.heap.size w w') : ItsO w' v L := by
  obtain ⟨hs, h1, h2, h3⟩ := h
  exact ⟨hs, lib.own_ext h1 hb, h2, fun i h e a b => ⟨(h3 i h e a b).1, (h3 i h e a b).2.ext hb⟩⟩
theorem StO.ext {st : St} {v : Vs} (h : StO w st v) (hb : Below w.heap.size w w') : StO w' st v :=
  ⟨lib.own_ext h.c hb, h.on.ext hb, lib.own_ext h.n hb, h.e.ext hb, h.i.ext hb, h.w.ext hb⟩
/-- another row grows -/
theorem ExO.ko {v v2 : Value} {es : List Nd} {n size base : Nat} {e : TypeId} {xs : List Value} (h : ExO w v es) (h2 : w.ownsRow base e size v2 n xs) (hn : 45 ≠ e) (hg : w.grownBy w' v2.ownBlock) : ExO w' v es := own_ko h h2 hn hg
theorem ExsO.ko {v v2 : Value} {L : List (List Nd)} {n size base : Nat} {e : TypeId} {xs : List Value} (h : ExsO w v L) (h2 : w.ownsRow base e size v2 n xs) (hn : 45 ≠ e) (he : 30 ≠ e) (hg : w.grownBy w' v2.ownBlock) : ExsO w' v L := by
  obtain ⟨hs, h1, h3, h4⟩ := h
  exact ⟨hs, own_ko h1 h2 he hg, h3, fun i h e a b => (h4 i h e a b).ko h2 hn hg⟩
theorem ItsO.ko {v v2 : Value} {L : List (Int × List Nd)} {n size base : Nat} {e : TypeId} {xs : List Value} (h : ItsO w v L) (h2 : w.ownsRow base e size v2 n xs) (hn : 45 ≠ e) (he : 63 ≠ e) (hg : w.grownBy w' v2.ownBlock) : ItsO w' v L := by
  obtain ⟨hs, h1, h3, h4⟩ := h
  exact ⟨hs, own_ko h1 h2 he hg, h3, fun i h e a b => ⟨(h4 i h e a b).1, (h4 i h e a b).2.ko h2 hn hg⟩⟩
end
theorem notP : NotRow 52 := ⟨by decide, by decide, by decide, by decide, by decide⟩
theorem notSt : NotRow 34 := ⟨by decide, by decide, by decide, by decide, by decide⟩
theorem notSc : NotRow 28 := ⟨by decide, by decide, by decide, by decide, by decide⟩
theorem exo_nil (w : World) : ExO w (.slice none 0 0) [] := World.ownsRow_nil _ _ _ _
theorem sto_nil (w : World) : StO w St0 Vs0 := ⟨World.ownsRow_nil _ _ _ _, exo_nil w, World.ownsRow_nil _ _ _ _, ⟨[], World.ownsRow_nil _ _ _ _, rfl, fun i h e a => by cases a⟩, ⟨[], World.ownsRow_nil _ _ _ _, rfl, fun i h e a => by cases a⟩, exo_nil w⟩
/-- rows under a step of the parser -/
theorem Pr.blk {w : World} {g : Nat} {W : List Wd} {b : Nat} {p : Pp} (h : Pr w g W b p) : ∃ cs, Blk w g 52 cs := by
  obtain ⟨a, n, c, h⟩ := h
  exact ⟨_, h.blk⟩
theorem StO.parser {w w' : World} {g : Nat} {W : List Wd} {b : Nat} {p : Pp} {st : St} {v : Vs} (h : StO w st v) (hp : Pr w g W b p) (hg : w.grownBy w' (some g)) : StO w' st v := by
  obtain ⟨cs, hb⟩ := hp.blk
  exact h.kb hb notP hg
/-- a statement on its way: x in the block xb, the parser's variable in pb, the result's cells in rb -/
structure Sx (w0 w : World) (g b pb xb rb : Nat) (W : List Wd) (p : Pp) (st : St) (v : Vs) : Prop where
  fr : w0.grownBy w (some g)
  pr : Pr w g W b p
  bp : Blk w pb 50 #[.pointer (some ⟨g, 0, none⟩)]
  bx : Blk w xb 34 (cellsSt st v)
  br : Blk w rb 34 (cellsSt St0 Vs0)
  own : StO w st v
  gl : g < w0.heap.size
  bl : b < w0.heap.size
  p0 : w0.heap.size ≤ pb
  x0 : w0.heap.size ≤ xb
  r0 : w0.heap.size ≤ rb
  xr : xb ≠ rb
  xp : xb ≠ pb
section
variable {w0 w w' : World} {g b pb xb rb : Nat} {W : List Wd} {p : Pp} {st : St} {v : Vs}
theorem Sx.ext (h : Sx w0 w g b pb xb rb W p st v) (hb : Below w.heap.size w w') : Sx w0 w' g b pb xb rb W p st v :=
  ⟨h.fr.trans (grown_of hb _), h.pr.ext hb, h.bp.ext hb, h.bx.ext hb, h.br.ext hb, h.own.ext hb, h.gl, h.bl, h.p0, h.x0, h.r0, h.xr, h.xp⟩
theorem Sx.parser {q : Pp} (h : Sx w0 w g b pb xb rb W p st v) (hp : Pr w' g W b q) (hg : w.grownBy w' (some g)) : Sx w0 w' g b pb xb rb W q st v :=
  ⟨h.fr.trans hg, hp, h.bp.grown hg (by have := h.gl; have := h.p0; simp; omega), h.bx.grown hg (by have := h.gl; have := h.x0; simp; omega), h.br.grown hg (by have := h.gl; have := h.r0; simp; omega), h.own.parser h.pr hg, h.gl, h.bl, h.p0, h.x0, h.r0, h.xr, h.xp⟩
/-- a store into x -/
theorem Sx.set (h : Sx w0 w g b pb xb rb W p st v) (i : Nat) (u : Value) {st' : St} {v' : Vs} (he : (cellsSt st v).setIfInBounds i u = cellsSt st' v') (ho : StO (w.setCell ⟨xb, i, none⟩ u) st' v') : Sx w0 (w.setCell ⟨xb, i, none⟩ u) g b pb xb rb W p st' v' := by
  have hg := grown_set w ⟨xb, i, none⟩ u
  have h1 := h.gl
  have h2 := h.bl
  have h3 := h.x0
  refine ⟨grown_new h.fr hg h3, h.pr.grown hg (by simp; omega) (by simp; omega), h.bp.grown hg (by have := h.xp; simp; omega), ?_, h.br.grown hg (by have := h.xr; simp; omega), ho, h1, h2, h.p0, h3, h.r0, h.xr, h.xp⟩
  have hs := h.bx.set_ i u
  rw [he] at hs
  exact hs
/-- its rows under a store into x -/
theorem Sx.rows (h : Sx w0 w g b pb xb rb W p st v) (i : Nat) (u : Value) : StO (w.setCell ⟨xb, i, none⟩ u) st v := h.own.kb h.bx notSt (grown_set w ⟨xb, i, none⟩ u)
theorem Sx.cell (h : Sx w0 w g b pb xb rb W p st v) (i : Nat) : w.cell? ⟨xb, i, none⟩ = (cellsSt st v)[i]? := h.bx.cell i
theorem Sx.pcell (h : Sx w0 w g b pb xb rb W p st v) : w.cell? ⟨pb, 0, none⟩ = some (.pointer (some ⟨g, 0, none⟩)) := h.bp.cell 0
end
/-- what a statement's rule answers -/
def StmP (f : Pp → St × Pp) (g : Nat) (W : List Wd) (b : Nat) (p : Pp) (w : World) (e : Ending) (w' : World) : Prop :=
  ∃ v, e = .returned (.agg (cellsSt (f p).1 v)) ∧ StO w' (f p).1 v ∧ Pr w' g W b (f p).2 ∧ w.grownBy w' (some g)
def StmC (fn : Nat) (args : Nat → Array Value) (f : List Wd → Pp → St × Pp) : Prop := ∀ (w : World) (g : Nat) (W : List Wd) (b : Nat) (p : Pp), Pr w g W b p → Calls Tryz.prog fn (args g) w (StmP (f W) g W b p w)
end Go.Proofs.YtfnceamkephpjaaGreat.pg
