/- Arguments that are expressions; Kind and Value of both over the law's columns. -/
import Derived.Test.YtfgmlgflfagdjaaMW4
import Derived.Test.YtfgmlgflfagdjaaV8
import Derived.Laws.AppendOwnNone
import Derived.Deep.RegionWith
import Derived.Deep.CutBlock
namespace Go.Proofs.Ytfgmlgflfagdjaa.ev
open Go.ChangeShapes Go.WideShapes Go.ChangeAt Go.RowKit Go.Proofs.Ytfgmlgflfagdjaa.lib Go.Proofs.Ytfgmlgflfagdjaa.val Go.Deep Go.Joins
set_option linter.unusedVariables false

instance : Inhabited Nd := ⟨⟨0, 0, 0, nul, ⟨#[]⟩⟩⟩
/-- a node as it may come -/
def RawN (n : Nd) : Prop := ok64 n.op ∧ ok64 n.a ∧ ok64 n.b ∧ Raw n.v ∧ n.s.size ≤ maxLen
theorem cellsNode : Try.prog.cellsOf 36 = 7 := by kernel_rfl
theorem trod_struct5 {H : Type} {enc : TypeId × Value → H} {P : Program} {w : World} {base : Nat} {spare : Nat → Bool} {held : Bool} {t : TypeId} {f0 f1 f2 f3 f4 : Field} {fuel : Nat} {cs : List Value} {x : DataW H × List MemPlace} (ht : P.underlying t = some (.struct #[f0, f1, f2, f3, f4])) (h : DataW.trod enc P w base spare held fuel t cs = some x) :
    ∃ y0 y1 y2 y3 y4 n, DataW.trod enc P w base spare held n f0.type ((cs.drop f0.offset).take (P.cellsOf f0.type)) = some y0 ∧ DataW.trod enc P w base spare held n f1.type ((cs.drop f1.offset).take (P.cellsOf f1.type)) = some y1 ∧
      DataW.trod enc P w base spare held n f2.type ((cs.drop f2.offset).take (P.cellsOf f2.type)) = some y2 ∧ DataW.trod enc P w base spare held n f3.type ((cs.drop f3.offset).take (P.cellsOf f3.type)) = some y3 ∧
      DataW.trod enc P w base spare held n f4.type ((cs.drop f4.offset).take (P.cellsOf f4.type)) = some y4 := by
  obtain ⟨xs, n, _, rfl, hl, hlen, hf⟩ := DataW.trod_struct ht h
  match xs, hlen with
  | [y0, y1, y2, y3, y4], _ => exact ⟨y0, y1, y2, y3, y4, n, by simpa using hf 0 f0 rfl, by simpa using hf 1 f1 rfl, by simpa using hf 2 f2 rfl, by simpa using hf 3 f3 rfl, by simpa using hf 4 f4 rfl⟩
set_option maxRecDepth 100000 in
theorem nds_arg {H : Type} {enc : TypeId × Value → H} {W : World} {base : Nat} {v : Value} {d : DataW H} {p : List MemPlace}
    (hval : Value.okWide Try.prog W .any base 23 v) (h : DataW.Trod enc Try.prog W 0 (fun _ => true) true 23 v d p) :
    ∃ (A : Option Addr) (n c : Nat) (l : List Nd), v = .slice A n c ∧ l.length = n ∧ n ≤ maxLen ∧ (∀ x ∈ l, RawN x) ∧ Nds W W.heap.size A l ∧ (A = none → n = 0 ∧ c = 0) := by
  obtain ⟨a, len, cap, rfl⟩ := okWide_slice Try.underlying23 hval
  obtain ⟨fuel, hf⟩ := h
  rcases open_slice Try.underlying23 hf with ⟨hcs, _⟩ | ⟨a', len', cap', m, n, D, Pl, hcs, _, hl, hm, hmm, _, hx⟩
  · simp [Value.cells] at hcs
    obtain ⟨rfl, rfl, rfl⟩ := hcs
    exact ⟨none, 0, 0, [], rfl, rfl, Nat.zero_le _, fun x hx => (by cases hx), fun h => absurd h (by simp), fun _ => ⟨rfl, rfl⟩⟩
  · simp [Value.cells] at hcs
    obtain ⟨rfl, rfl, rfl⟩ := hcs
    simp only [if_true] at hmm
    have each : ∀ i, i < len → ∃ q : Nd, (∀ j u, q.arr[j]? = some u → W.cell? (a'.add (i * 7 + j)) = some u) ∧ RawN q := by
      intro i hi
      obtain ⟨cs', h1, h2⟩ := hx i (by omega)
      rw [cellsNode] at h1
      obtain ⟨_, hlen, hcell⟩ := World.cells?_some h1
      obtain ⟨y0, y1, y2, y3, y4, k, g0, g1, g2, g3, g4⟩ := trod_struct5 Try.underlying36 h2
      match cs', hlen with
      | [v0, v1, v2, v3, v4, v5, v6], _ =>
        simp only [cellsI, cellsS, cellsVal] at g0 g1 g2 g3 g4
        obtain ⟨z0, e0, _, b0⟩ := DataW.trod_int Try.underlying3 g0
        obtain ⟨z1, e1, _, b1⟩ := DataW.trod_int Try.underlying3 g1
        obtain ⟨z2, e2, _, b2⟩ := DataW.trod_int Try.underlying3 g2
        obtain ⟨y0, y1, y2, k2, _, _, f0, f1, f2⟩ := trod_struct3 Try.underlying30 g3
        simp only [cellsI, cellsS] at f0 f1 f2
        obtain ⟨z3, e3, _, b3⟩ := DataW.trod_int Try.underlying3 f0
        obtain ⟨z4, e4, _, b4⟩ := DataW.trod_int Try.underlying3 f1
        obtain ⟨z5, e5, _, b5⟩ := DataW.trod_string Try.underlying9 f2
        obtain ⟨z6, e6, _, b6⟩ := DataW.trod_string Try.underlying9 g4
        simp at e0 e1 e2 e3 e4 e5 e6
        subst e0 e1 e2 e3 e4 e5 e6
        refine ⟨⟨z0, z1, z2, ⟨z3, z4, z5⟩, z6⟩, fun j u hj => ?_, bd64 b0, bd64 b1, bd64 b2, ⟨bd64 b3, bd64 b4, b5⟩, b6⟩
        have hj7 : j < 7 := (Array.getElem?_eq_some_iff.1 hj).1
        have c := hcell j hj7
        rw [add_add] at c
        rw [c]
        unfold Nd.arr at hj
        rw [← Array.getElem?_toList] at hj
        rw [← hj, List.getElem?_eq_getElem hj7]
    obtain ⟨q, hq⟩ := choose_lt each
    refine ⟨some a', len, cap, (List.range len).map q, rfl, by simp, Nat.le_trans hl hm, fun x hx => ?_, fun hn => ?_, fun h => by cases h⟩
    · obtain ⟨i, hi, rfl⟩ := List.mem_map.1 hx
      exact (hq i (List.mem_range.1 hi)).2
    · obtain ⟨ab, ao, spot⟩ := a'
      have hn0 : 0 < len := by simpa using hn
      have h0 := (hq 0 hn0).1 0 _ rfl
      have hspot : spot = none := by simpa [Addr.add] using World.cell?_spot h0
      subst hspot
      refine ⟨ab, ao, rfl, ?_, fun i x hi => ?_⟩
      · have := World.block_lt_of_cell? W _ h0
        simpa [Addr.add] using this
      · have hil : i < len := by simpa using (List.getElem?_eq_some_iff.1 hi).1
        rw [List.getElem?_map, List.getElem?_range hil] at hi
        injection hi with hi
        subst hi
        intro j u hj
        have h1 := (hq i hil).1 j u hj
        rw [Addr.add_lit] at h1
        rw [Nat.add_assoc]
        exact h1
theorem rcolOK (w : World) (b : Nat) (n : Nd) (h : Cls w b colsL) (hs : n.s.size ≤ 100000) : RColOK w w.heap.size (.slice (some ⟨b, 0, none⟩) 4 4) colF colG n := by
  intro _
  refine ⟨fun w' hb => ?_, fun h0 => ?_⟩
  · exact rFind_ n.s b 4 4 colsL w' (h.ext hb) rfl (by omega) hs (by decide)
  · have hbd := col_bd h0
    refine ⟨(colF n.s).1.toNat, b, 0, 4, 4, by omega, rfl, by omega, by omega, h.1, ?_⟩
    rw [Nat.zero_add]
    exact col_cell h _ (by omega)
/-- a node that may be handed to both -/
structure NdF (n : Nd) : Prop where
  vs : n.v.s.size ≤ maxLen
  vn : ok64 n.v.n
  s : n.s.size ≤ 100000
theorem NdF.of {n : Nd} (h : ps.NdOK n) : NdF n := ⟨Nat.le_trans h.vs (by decide), h.vn, Nat.le_trans h.s (by omega)⟩
section
variable (es : List Nd) (A : Option Addr) (N c : Nat) (w : World)
theorem kind4 (p : Int × Int) (b : Nat) (hp : KindV colF colG es = p) (hN : es.length = N) (hr : Nds w w.heap.size A es) (hcl : Cls w b colsL) (hn : ∀ n ∈ es, NdF n) :
    Calls Try.prog 20 #[.slice A N c, .slice (some ⟨b, 0, none⟩) 4 4] w fun e w' => e = .returned (two p) ∧ Below w.heap.size w w' := by
  rw [← hp]
  exact Kind es A N c w.heap.size _ colF colG w hN (Nat.le_refl _) hr (fun n h => colOK w b n hcl (hn n h).s) (fun n h => (hn n h).vs)
theorem rkind4 (p : Int × Int) (b : Nat) (hp : KindV colF colG es = p) (hN : es.length = N) (hN2 : N ≤ 1000) (hr : Nds w w.heap.size A es) (hcl : Cls w b colsL) (hn : ∀ n ∈ es, NdF n) :
    Calls Try.prog 22 #[.slice A N c, .slice (some ⟨b, 0, none⟩) 4 4] w fun e w' => e = .returned (two p) ∧ Below w.heap.size w w' :=
  rKind_ es p A N c w.heap.size _ colF colG w hp hN hN2 (Nat.le_refl _) hr (fun n h => rcolOK w b n hcl (hn n h).s) (fun n h => (hn n h).vs)
theorem value4 (r : Value) (vs : List V) (Ar : Option Addr) (cr b : Nat) (hp : EvR colF colG (rowF vs) es = r) (hN : es.length = N) (hr : Nds w w.heap.size A es) (hcl : Cls w b colsL)
    (hvl : vs.length = 4) (hrv : ∀ (i : Nat) v, vs[i]? = some v → RowV i v) (hv : Vals w w.heap.size Ar vs) (hn : ∀ n ∈ es, NdF n) :
    Calls Try.prog 23 #[.slice A N c, .slice (some ⟨b, 0, none⟩) 4 4, .slice Ar 4 cr] w fun e w' => e = .returned r ∧ Below w.heap.size w w' :=
  ValueR es r A N c w.heap.size _ _ colF colG (rowF vs) w hp hN (Nat.le_refl _) hr (fun n h => colOK w b n hcl (hn n h).s) (fun n _ => rowOK n hvl hrv hv) (fun n h => ⟨(hn n h).vs, (hn n h).vn⟩)
theorem rvalue4 (r : Value) (vs : List V) (Ar : Option Addr) (cr b : Nat) (hp : EvR colF colG (rowF vs) es = r) (hN : es.length = N) (hN2 : N ≤ 1000) (hr : Nds w w.heap.size A es) (hcl : Cls w b colsL)
    (hvl : vs.length = 4) (hrv : ∀ (i : Nat) v, vs[i]? = some v → RowV i v) (hv : Vals w w.heap.size Ar vs) (hn : ∀ n ∈ es, NdF n) :
    Calls Try.prog 24 #[.slice A N c, .slice (some ⟨b, 0, none⟩) 4 4, .slice Ar 4 cr] w fun e w' => e = .returned r ∧ Below w.heap.size w w' := by
  obtain ⟨⟨k, er⟩, hk⟩ : ∃ p, KindV colF colG es = p := ⟨_, rfl⟩
  subst hp
  by_cases he : er = 0
  · subst he
    have e : EvR colF colG (rowF vs) es = ValueV (valsR (rowF vs) es []) := by unfold EvR; rw [hk, if_pos rfl]
    rw [e]
    exact rValue_ok es A N c w.heap.size _ _ colF colG (rowF vs) w k hk hN hN2 (Nat.le_refl _) hr (fun n h => rcolOK w b n hcl (hn n h).s) (fun n _ => rowOK n hvl hrv hv) (fun n h => (hn n h).vs) (fun n h => (hn n h).vn) (fun n _ h0 => row_of hvl hrv h0)
  · rw [kinds_bad hk he]
    exact rValue_bad es A N c w.heap.size _ _ colF colG w k er hk he hN hN2 (Nat.le_refl _) hr (fun n h => rcolOK w b n hcl (hn n h).s) (fun n h => (hn n h).vs)
end
/-- what Value answers is a value and a number -/
theorem evR_form (Rv : ByteArray → V) (es : List Nd) : ∃ (v : V) (g : Int), EvR colF colG Rv es = .tuple #[.agg #[.int .i64 v.k, .int .i64 v.n, .string v.s], .int .i64 g] := by
  unfold EvR
  split
  · unfold ValueV
    split
    · exact ⟨_, 0, rfl⟩
    · exact ⟨nul, 11, rfl⟩
  · exact ⟨nul, _, rfl⟩
end Go.Proofs.Ytfgmlgflfagdjaa.ev

/- For EvalAll: rows of nodes that are turned in place; Few. -/
namespace Go.Proofs.Ytfgmlgflfagdjaa.ev
open Go.ChangeShapes Go.WideShapes Go.ChangeAt Go.RowKit Go.Proofs.Ytfgmlgflfagdjaa.lib Go.Proofs.Ytfgmlgflfagdjaa.val Go.Deep Go.Joins
set_option linter.unusedVariables false

theorem cellsN_len (es : List Nd) : (cellsN es).length = es.length * 7 := by
  induction es with
  | nil => rfl
  | cons x r ih =>
    have e : cellsN (x :: r) = x.arr.toList ++ cellsN r := rfl
    rw [e, List.length_append, ih, List.length_cons]
    show 7 + _ = _
    omega
theorem cellsN_get {es : List Nd} {m : Nat} {u : Value} (h : (cellsN es)[m]? = some u) : ∃ nd, es[m / 7]? = some nd ∧ nd.arr[m % 7]? = some u := by
  have hl := (List.getElem?_eq_some_iff.1 h).1
  rw [cellsN_len] at hl
  have h7 : m / 7 < es.length := by omega
  refine ⟨es[m / 7], List.getElem?_eq_getElem h7, ?_⟩
  have hj : m % 7 < 7 := Nat.mod_lt _ (by omega)
  have hs : (es[m / 7]).arr.size = 7 := rfl
  have h2 : (es[m / 7]).arr[m % 7]? = some ((es[m / 7]).arr[m % 7]'(by rw [hs]; exact hj)) := Array.getElem?_eq_getElem (by rw [hs]; exact hj)
  have h3 := cellsN_at es (m / 7) _ (List.getElem?_eq_getElem h7) (m % 7) _ h2
  rw [show m / 7 * 7 + m % 7 = m by omega, h] at h3
  rw [h2, h3]
/-- one cell of a node turned -/
theorem cellsN_set : ∀ (es : List Nd) (k : Nat) (nd nd' : Nd) (j : Nat) (v : Value), es[k]? = some nd → j < 7 → nd'.arr.toList = nd.arr.toList.set j v → cellsN (es.set k nd') = (cellsN es).set (k * 7 + j) v
  | [], k, nd, nd', j, v, h, _, _ => by cases h
  | x :: r, 0, nd, nd', j, v, h, hj, he => by
    injection h with h
    subst h
    have e : cellsN (x :: r) = x.arr.toList ++ cellsN r := rfl
    have e2 : cellsN ((x :: r).set 0 nd') = nd'.arr.toList ++ cellsN r := rfl
    rw [e, e2, he, Nat.zero_mul, Nat.zero_add, List.set_append_left _ _ (by show j < 7; exact hj)]
  | x :: r, k + 1, nd, nd', j, v, h, hj, he => by
    have e : cellsN (x :: r) = x.arr.toList ++ cellsN r := rfl
    have e2 : cellsN ((x :: r).set (k + 1) nd') = x.arr.toList ++ cellsN (r.set k nd') := rfl
    have ih := cellsN_set r k nd nd' j v h hj he
    rw [e, e2, ih, List.set_append_right _ _ (by show 7 ≤ _; omega)]
    have : (k + 1) * 7 + j - x.arr.toList.length = k * 7 + j := by show (k + 1) * 7 + j - 7 = _; omega
    rw [this]
/-- a node whose numbers are of 64 bits, whose texts are small -/
structure NearOK (n : Nd) : Prop where
  raw : RawN n
  vs : n.v.s.size ≤ 80
  s : n.s.size ≤ 30
theorem NearOK.f {n : Nd} (h : NearOK n) : NdF n := ⟨h.raw.2.2.2.1.2.2, h.raw.2.2.2.1.2.1, Nat.le_trans h.s (by omega)⟩
/-- nodes of one's own -/
def OwnNs (w : World) (base : Nat) (An : Option Addr) (N cn : Nat) (near : List Nd) : Prop := near.length = N ∧ w.ownsRow base 36 7 (.slice An N cn) N (cellsN near) ∧ ∀ n ∈ near, NearOK n
theorem OwnNs.set_ {w : World} {base g N cn k j : Nat} {near : List Nd} {nd nd' : Nd} {v : Value} (h : OwnNs w base (some ⟨g, 0, none⟩) N cn near) (hk : near[k]? = some nd) (hj : j < 7) (he : nd'.arr.toList = nd.arr.toList.set j v) (hn : NearOK nd') :
    OwnNs (w.setCell ⟨g, k * 7 + j, none⟩ v) base (some ⟨g, 0, none⟩) N cn (near.set k nd') := by
  obtain ⟨h1, h2, h3⟩ := h
  refine ⟨by rw [List.length_set]; exact h1, ?_, fun n hn2 => ?_⟩
  · rw [cellsN_set near k nd nd' j v hk hj he]
    exact (h2.stored (k * 7 + j) v).1
  · rcases List.mem_or_eq_of_mem_set hn2 with h | h
    · exact h3 n h
    · rw [h]; exact hn
theorem OwnNs.get {w : World} {base N cn k : Nat} {An : Option Addr} {near : List Nd} (h : OwnNs w base An N cn near) (hk : k < N) : ∃ nd, near[k]? = some nd ∧ NearOK nd := by
  have hl : k < near.length := by rw [h.1]; exact hk
  exact ⟨near[k], List.getElem?_eq_getElem hl, h.2.2 _ (List.getElem_mem hl)⟩
theorem OwnNs.nds {w : World} {base N cn : Nat} {An : Option Addr} {near : List Nd} (h : OwnNs w base An N cn near) : Nds w w.heap.size An near := fun hn => Nds.of_own h.2.1 (by rw [h.1] at hn; exact hn) hn
theorem OwnNs.cells {w : World} {base g N cn k : Nat} {near : List Nd} {nd : Nd} (h : OwnNs w base (some ⟨g, 0, none⟩) N cn near) (hk : near[k]? = some nd) :
    w.cell? ⟨g, k * 7, none⟩ = some (.int .i64 nd.op) ∧ w.cell? ⟨g, k * 7 + 1, none⟩ = some (.int .i64 nd.a) ∧ w.cell? ⟨g, k * 7 + 2, none⟩ = some (.int .i64 nd.b) ∧ w.cell? ⟨g, k * 7 + 3, none⟩ = some (.int .i64 nd.v.k) ∧
      w.cell? ⟨g, k * 7 + 4, none⟩ = some (.int .i64 nd.v.n) ∧ w.cell? ⟨g, k * 7 + 5, none⟩ = some (.string nd.v.s) ∧ w.cell? ⟨g, k * 7 + 6, none⟩ = some (.string nd.s) := by
  have := h.nds.cells hk
  simpa using this
theorem OwnNs.frozen {w : World} {base g N cn : Nat} {near : List Nd} (h : OwnNs w base (some ⟨g, 0, none⟩) N cn near) (k : Nat) :
    w.frozen? ⟨g, k * 7, none⟩ = false ∧ w.frozen? ⟨g, k * 7 + 1, none⟩ = false ∧ w.frozen? ⟨g, k * 7 + 2, none⟩ = false ∧ w.frozen? ⟨g, k * 7 + 3, none⟩ = false ∧ w.frozen? ⟨g, k * 7 + 4, none⟩ = false ∧ w.frozen? ⟨g, k * 7 + 5, none⟩ = false ∧ w.frozen? ⟨g, k * 7 + 6, none⟩ = false :=
  ⟨h.2.1.frozenAt _, h.2.1.frozenAt _, h.2.1.frozenAt _, h.2.1.frozenAt _, h.2.1.frozenAt _, h.2.1.frozenAt _, h.2.1.frozenAt _⟩
theorem OwnNs.ext {w w' : World} {base N cn : Nat} {An : Option Addr} {near : List Nd} (h : OwnNs w base An N cn near) (hb : Below w.heap.size w w') : OwnNs w' base An N cn near := ⟨h.1, own_ext h.2.1 hb, h.2.2⟩
theorem OwnNs.some_ {w : World} {base N cn : Nat} {An : Option Addr} {near : List Nd} (h : OwnNs w base An N cn near) (hN : 0 < N) : ∃ g, An = some ⟨g, 0, none⟩ ∧ base ≤ g ∧ g < w.heap.size := by
  obtain ⟨g, cap, hv, hlo, hlt⟩ := h.2.1.form hN
  injection hv with h1 h2 h3
  exact ⟨g, h1, hlo, hlt⟩
/-- nodes wherever they lie, or none, appended to one's own -/
theorem wpList_append_nds {P : Program} {w : World} {ops : Array Oper} {rest : List Oper} {o : Oper} {a : Act} {Q : Exit → Act → World → Prop} (hgd : o.guard = none) (s x : Operand) (t : TypeId)
    (ho : o.op = .call { callee := .builtin .append, args := #[s, x], argTypes := #[t, t] })
    (base : Nat) (e : TypeId) (i : TypeInfo) (z : Value) (size bytes : Nat) (ht : P.underlying t = some (.slice e)) (hi : P.info? e = some i) (hz : i.zero = some z)
    (hsize : i.size = size) (hby : i.bytes = bytes) (hzs : z.cells.size = size) (hsz : 0 < size)
    (v : Value) (n : Nat) (xs : List Value) (hs : a.eval s = v) (hown : w.ownsRow base e size v n xs)
    (A : Option Addr) (m c : Nat) (news : List Value) (hx : a.eval x = .slice A m c) (hA : A = none → m = 0 ∧ c = 0 ∧ news = []) (hsrc : ∀ ad, A = some ad → ∀ j u, news[j]? = some u → w.cell? (ad.add j) = some u) (hl : news.length = m * size) (h1 : ∀ u ∈ news, u.oneCell' = true)
    (h63 : n + m ≤ maxLen) (hbytes : (n + m) * bytes ≤ 140737488355328) (hbase : base ≤ w.heap.size)
    (h : ∀ v' w', w'.ownsRow base e size v' (n + m) (xs ++ news) → w.grownBy w' v.ownBlock → wpList P ops Q rest (a.put o.dst v') w') : wpList P ops Q (o :: rest) a w := by
  cases A with
  | none =>
    obtain ⟨rfl, rfl, rfl⟩ := hA rfl
    exact wpList_append_own_none hgd s x t ho base e i size ht hi v n xs hs hown hx (h v w (by simpa using hown) ⟨rfl, rfl, rfl, Nat.le_refl _, fun _ _ _ => rfl⟩)
  | some ad => exact wpList_append_own w hgd s x t ho base e i z size bytes ht hi hz hsize hby hzs hsz v n xs hs hown ad m c news hx hl (hsrc ad rfl) h1 h63 hbytes hbase (fun v' w' k1 k2 _ => h v' w' k1 k2)
theorem nds_src {w : World} {B : Nat} {A : Option Addr} {es : List Nd} (h : Nds w B A es) : ∀ ad, A = some ad → ∀ j u, (cellsN es)[j]? = some u → w.cell? (ad.add j) = some u := by
  intro ad hA j u hu
  obtain ⟨nd, h1, h2⟩ := cellsN_get hu
  have hpos : 0 < es.length := by have := (List.getElem?_eq_some_iff.1 h1).1; omega
  obtain ⟨b, off, e, _, hc⟩ := h hpos
  rw [hA] at e
  injection e with e
  subst e
  have := hc _ nd h1 _ u h2
  rw [Addr.add_lit]
  rw [show off + j = off + j / 7 * 7 + j % 7 by omega]
  exact this
theorem cellsN_one {es : List Nd} : ∀ u ∈ cellsN es, u.oneCell' = true := by
  intro u hu
  obtain ⟨j, hj⟩ := List.mem_iff_getElem?.1 hu
  obtain ⟨nd, _, h2⟩ := cellsN_get hj
  have hm : j % 7 = 0 ∨ j % 7 = 1 ∨ j % 7 = 2 ∨ j % 7 = 3 ∨ j % 7 = 4 ∨ j % 7 = 5 ∨ j % 7 = 6 := by omega
  rcases hm with e | e | e | e | e | e | e <;> (rw [e] at h2; injection h2 with h2; subst h2; rfl)
theorem own_empty {w : World} {base size : Nat} {e : TypeId} (hb : base ≤ w.heap.size) : (w.alloc (.cells #[] e)).ownsRow base e size (.slice (some ⟨w.heap.size, 0, none⟩) 0 0) 0 [] :=
  World.ownsRow_made w #[] 0 hb (Nat.zero_le _) (by simp)
theorem fewV (v : V) (b : Bool) (w : World) (h : Raw v) (hb : decide (v.s.size ≤ 80) = b) :
    Calls Try.prog 14 #[.agg #[.int .i64 v.k, .int .i64 v.n, .string v.s]] w fun e w' => e = .returned (.bool b) ∧ Below w.heap.size w w' := by
  subst hb; exact few v.k v.n v.s w h.2.2
/-- Few of an expression: true where it is not too much -/
def FewP (es : List Nd) (w : World) (e : Ending) (w' : World) : Prop := ∃ b, e = .returned (.bool b) ∧ (b = true → es.length ≤ 80 ∧ ∀ n ∈ es, NearOK n) ∧ Below w.heap.size w w'
set_option maxHeartbeats 4000000 in
theorem few19 (es : List Nd) (A : Option Addr) (N c : Nat) (w : World) (hN : es.length = N) (hNm : N ≤ maxLen) (hraw : ∀ n ∈ es, RawN n) (hr : Nds w w.heap.size A es) :
    Calls Try.prog 13 #[.slice A N c] w (FewP es w) := by
  unfold maxLen at hNm
  have HN := Lib.hid hN
  have HRAW := Lib.hid hraw
  have HR := Lib.hid hr
  clear hN hraw hr
  go_enter Try.func13, Try.ntmps13
  go_wp2
  go_loopw [3] (fun i wr => ∃ k : Nat, k ≤ N ∧ i = .int .i64 k ∧ Below w.heap.size w wr ∧ Hid (∀ j n, j < k → es[j]? = some n → n.s.size ≤ 30 ∧ n.v.s.size ≤ 80)) (fun i _ => N - (intOf i).toNat)
  case atStart => exact ⟨0, Nat.zero_le _, rfl, Below.refl _ _, Lib.hid (fun j n h => absurd h (by omega))⟩
  case round =>
    obtain ⟨k, hk, rfl, hb, HJ⟩ := hrel
    rcases Nat.lt_or_ge k N with hlt | hge
    · have hd : decide ((k : Int) < (N : Int)) = true := by simp; omega
      have hd2 : decide (k < N) = true := by simp; omega
      have hkN : (k : Int) < (N : Int) := by omega
      obtain ⟨b, off, rfl, hlb, _⟩ := HR.out (by rw [HN.out]; omega)
      obtain ⟨nd, hnd⟩ := get_some HN.out hlt
      have HND := Lib.hid hnd
      have HRW := Lib.hid (HRAW.out nd (List.mem_of_getElem? hnd)).2.2.2.1
      have hsz := (HRAW.out nd (List.mem_of_getElem? hnd)).2.2.2.2
      unfold maxLen at hsz
      have qc := (HR.out.below hb).cells hnd
      clear hnd
      by_cases h30 : nd.s.size ≤ 30
      case neg =>
        have h3 : decide ((30 : Int) < (nd.s.size : Int)) = true := by simp; omega
        have h4 : decide (30 < nd.s.size) = true := by simp; omega
        clear h30
        go_wp2
        go_ret
        exact ⟨false, rfl, fun h => (by cases h), hb⟩
      have h3 : decide ((30 : Int) < (nd.s.size : Int)) = false := by simp; omega
      have h4 : decide (30 < nd.s.size) = false := by simp; omega
      obtain ⟨f, hf⟩ : ∃ f, decide (nd.v.s.size ≤ 80) = f := ⟨_, rfl⟩
      have HF := Lib.hid hf
      have H30 := Lib.hid h30
      clear hf h30
      go_wp2_with fail
      refine (fewV nd.v f _ HRW.out HF.out).mono ?_
      rintro e w3 ⟨rfl, hb3⟩
      have hb4 : Below w.heap.size w w3 := Below.trans hb (Below.mono hb3 hb.size)
      clear qc
      cases f with
      | false =>
        go_wp2
        go_ret
        exact ⟨false, rfl, fun h => (by cases h), hb4⟩
      | true =>
        have H80 := Lib.hid (show nd.v.s.size ≤ 80 by have := HF.out; simpa using this)
        clear HF
        go_wp2
        go_roundw
        case rel =>
          refine ⟨k + 1, by omega, by go_num, hb4, Lib.hid (fun j n hj hn => ?_)⟩
          by_cases hjk : j = k
          · subst hjk
            have := HND.out.symm.trans hn
            injection this with this
            subst this
            exact ⟨H30.out, H80.out⟩
          · exact HJ.out j n (by omega) hn
        case measure => simp [intOf]; omega
    · have hd : decide ((k : Int) < (N : Int)) = false := by simp; omega
      have hd2 : decide (k < N) = false := by simp; omega
      obtain ⟨f, hf⟩ : ∃ f, decide ((N : Int) ≤ 80) = f := ⟨_, rfl⟩
      have HF := Lib.hid hf
      have hf2 : decide (N ≤ 80) = f := by rw [← hf]; simp; omega
      go_wp2
      go_ret
      refine ⟨f, rfl, fun h => ?_, hb⟩
      subst h
      have h80 : N ≤ 80 := by simpa using hf2
      refine ⟨by rw [HN.out]; exact h80, fun n hn => ?_⟩
      obtain ⟨j, hj⟩ := List.mem_iff_getElem?.1 hn
      have hjl : j < N := by rw [← HN.out]; exact (List.getElem?_eq_some_iff.1 hj).1
      obtain ⟨h1, h2⟩ := HJ.out j n (by omega) hj
      exact ⟨HRAW.out n hn, h2, h1⟩
end Go.Proofs.Ytfgmlgflfagdjaa.ev

/- The walk of EvalAll. Printed by genw8.py. -/
namespace Go.Proofs.Ytfgmlgflfagdjaa.ev
open Go.ChangeShapes Go.WideShapes Go.ChangeAt Go.RowKit Go.Proofs.Ytfgmlgflfagdjaa.lib Go.Proofs.Ytfgmlgflfagdjaa.val Go.Proofs.Ytfgmlgflfagdjaa.lx Go.Proofs.Ytfgmlgflfagdjaa.ps
set_option linter.unusedVariables false

theorem few1p (es : List Nd) (A : Option Addr) (N c : Nat) (w : World) (hN : es.length = N) (hNm : N ≤ maxLen) (hraw : ∀ n ∈ es, RawN n) (hr : Nds w w.heap.size A es) (w' : World) (hb : Below w.heap.size w w') :
    Calls Try.prog 13 #[.slice A N c] w' (FewP es w') :=
  few19 es A N c w' hN hNm hraw (fun h => by
    obtain ⟨b, off, e, hlt, hc⟩ := (hr.below hb) h
    exact ⟨b, off, e, Nat.lt_of_lt_of_le hlt hb.size, hc⟩)
theorem nds_at {w w' : World} {A : Option Addr} {es : List Nd} (hr : Nds w w.heap.size A es) (hb : Below w.heap.size w w') : Nds w' w'.heap.size A es := fun h => by
  obtain ⟨b, off, e, hlt, hc⟩ := (hr.below hb) h
  exact ⟨b, off, e, Nat.lt_of_lt_of_le hlt hb.size, hc⟩
theorem vals_at {w w' : World} {A : Option Addr} {vs : List V} (hr : Vals w w.heap.size A vs) (hb : Below w.heap.size w w') : Vals w' w'.heap.size A vs := hvals5 hr hb
theorem neqR (k n : Int) (s : ByteArray) (k' n' : Int) (s' : ByteArray) (c : Bool) (hc : (!vEq k n s k' n' s') = c) (w : World) : (binOp .neq 30 (.agg #[.int .i64 k, .int .i64 n, .string s]) (.agg #[.int .i64 k', .int .i64 n', .string s'])).run Try.prog w = .ok (.bool c) w := by
  subst hc; exact neqV _ _ _ _ _ _ w
/-- a node turned -/
def nOp (x : Int) (n : Nd) : Nd := ⟨x, n.a, n.b, n.v, n.s⟩
def nAB (x y : Int) (n : Nd) : Nd := ⟨n.op, x, y, n.v, n.s⟩
def nV (v : V) (n : Nd) : Nd := ⟨n.op, n.a, n.b, v, n.s⟩
def nS (s : ByteArray) (n : Nd) : Nd := ⟨n.op, n.a, n.b, n.v, s⟩
theorem near_op {n : Nd} (h : NearOK n) {x : Int} (hx : ok64 x) : NearOK (nOp x n) := ⟨⟨hx, h.raw.2⟩, h.vs, h.s⟩
theorem near_ab {n : Nd} (h : NearOK n) {x y : Int} (hx : ok64 x) (hy : ok64 y) : NearOK (nAB x y n) := ⟨⟨h.raw.1, hx, hy, h.raw.2.2.2⟩, h.vs, h.s⟩
theorem near_v {n : Nd} (h : NearOK n) {v : V} (hv : Raw v) (hs : v.s.size ≤ 80) : NearOK (nV v n) := ⟨⟨h.raw.1, h.raw.2.1, h.raw.2.2.1, hv, h.raw.2.2.2.2⟩, hs, h.s⟩
theorem near_s {n : Nd} (h : NearOK n) {s : ByteArray} (hs : s.size ≤ 30) : NearOK (nS s n) := ⟨⟨h.raw.1, h.raw.2.1, h.raw.2.2.1, h.raw.2.2.2.1, Nat.le_trans hs (by decide)⟩, h.vs, hs⟩
theorem within19n (a : Int) (n : Nat) (w : World) (hn : 1 ≤ n) (hn2 : n ≤ 1000) (ha : ok64 a) :
    Calls Try.prog 17 #[.int .i64 a, .int .i64 n] w (SomeI n w) := by
  refine (within a n w (by omega) (by omega) ha.1 ha.2).mono ?_
  rintro e w' ⟨rfl, rfl⟩
  have h1 := Int.emod_nonneg a (by omega : (n : Int) ≠ 0)
  have h2 := Int.emod_lt_of_pos a (by omega : 0 < (n : Int))
  exact ⟨(a % n).toNat, by omega, by rw [Int.toNat_of_nonneg h1], rfl⟩
set_option maxRecDepth 1000000 in
set_option maxHeartbeats 16000000 in
theorem all_walk (A0 : Option Addr) (N c0 : Nat) (es : List Nd) (A1 : Option Addr) (n1 c1 : Nat) (zs : List Int) (A : Option Addr) (n c : Nat) (l : List V) (null : Int) (w : World)
    (hes : es.length = N) (hesm : N ≤ maxLen) (hesr : ∀ x ∈ es, RawN x) (hnds : Nds w w.heap.size A0 es) (hA0 : A0 = none → N = 0 ∧ c0 = 0)
    (hz : Ints w A1 zs) (hzn : zs.length = n1) (hzm : n1 ≤ maxLen) (hzb : ∀ z ∈ zs, -9223372036854775808 ≤ z ∧ z ≤ 9223372036854775807)
    (hl : l.length = n) (hm : n ≤ maxLen) (hraw : ∀ x ∈ l, Raw x) (hv : Vals w w.heap.size A l) (hnull : ok64 null) :
    Calls Try.prog 3 #[.slice A0 N c0, .slice A1 n1 c1, .slice A n c, .int .i64 null] w fun e w' => e = .returned (.bool true) ∧ Below w.heap.size w w' := by
  have HZ := Lib.hid (fun (W : World) (h : Below w.heap.size w W) => text18_ A1 n1 c1 zs W (hz.ext h) hzn hzm hzb)
  clear hz hzn hzm hzb
  have HFEW := Lib.hid (few1p es A0 N c0 w hes hesm hesr hnds)
  have HES := Lib.hid hes
  have HND := Lib.hid hnds
  have HA0 := Lib.hid hA0
  clear hes hesm hesr hnds hA0
  have HL := Lib.hid hl
  have HRAW := Lib.hid hraw
  have HV := Lib.hid hv
  clear hl hraw hv
  unfold maxLen at hm
  obtain ⟨i0, hi, hz0, hz1, hz2⟩ := info_parts (P := Try.prog) (e := 36) (z := .agg #[.int .i64 0, .int .i64 0, .int .i64 0, .int .i64 0, .int .i64 0, .string ⟨#[]⟩, .string ⟨#[]⟩]) (size := 7) (bytes := 72) (by kernel_rfl)
  have hu : Try.prog.underlying 23 = some (.slice 36) := by kernel_rfl
  go_enter Try.func3, Try.ntmps3
  go_wp2_with fail
  refine (known _).mono ?_
  rintro e w1 ⟨rfl, hb1⟩
  go_wp2_with fail
  refine (HFEW.out _ hb1).mono ?_
  rintro e w2 ⟨fw, rfl, hfw, hb2⟩
  have hb2' : Below w.heap.size w w2 := ev.bch0 hb1 hb2
  have HFW := Lib.hid hfw
  clear hfw HFEW
  cases fw with
  | false =>
    go_wp2
    go_ret
    exact ⟨rfl, hb2'⟩
  | true =>
  obtain ⟨hN80, hnear⟩ := HFW.out rfl
  rw [HES.out] at hN80
  have HNEAR := Lib.hid hnear
  clear hnear HFW
  by_cases hn6 : n ≤ 6
  case neg =>
    have hd : decide ((6 : Int) < (n : Int)) = true := by simp; omega
    have hd2 : decide (6 < n) = true := by simp; omega
    clear hn6
    go_wp2
    go_ret
    exact ⟨rfl, hb2'⟩
  have hd : decide ((6 : Int) < (n : Int)) = false := by simp; omega
  have hd2 : decide (6 < n) = false := by simp; omega
  go_wp2_with fail
  go_loopw [9] (fun i wr => ∃ k : Nat, k ≤ n ∧ i = .int .i64 k ∧ Below w2.heap.size w2 wr) (fun i _ => n - (intOf i).toNat)
  case atStart => exact ⟨0, by omega, rfl, Below.refl _ _⟩
  case round =>
    obtain ⟨k, hkn, rfl, hb⟩ := hrel
    rcases Nat.lt_or_ge k n with hlt | hge
    · have hd : decide ((k : Int) < (n : Int)) = true := by simp; omega
      have hd3 : decide (k < n) = true := by simp; omega
      have hk2 : (k : Int) < (n : Int) := by omega
      obtain ⟨b, off, rfl, hlb, hcell⟩ := HV.out (by rw [HL.out]; omega)
      obtain ⟨y, hy⟩ := get_some HL.out hlt
      have HY := Lib.hid (HRAW.out y (List.mem_of_getElem? hy))
      have hbb : Below w.heap.size w wr := ev.bch0 hb2' hb
      have q0 := (hbb.cell (p := ⟨b, off + k * 3, none⟩) (by exact hlb)).trans (hcell k y hy).1
      have q1 := (hbb.cell (p := ⟨b, off + k * 3 + 1, none⟩) (by exact hlb)).trans (hcell k y hy).2.1
      have q2 := (hbb.cell (p := ⟨b, off + k * 3 + 2, none⟩) (by exact hlb)).trans (hcell k y hy).2.2
      obtain ⟨f, hf⟩ : ∃ f, decide (y.s.size ≤ 80) = f := ⟨_, rfl⟩
      have HF := Lib.hid hf
      clear hy hcell hf
      go_wp2_with fail
      refine (fewV y f _ HY.out HF.out).mono ?_
      rintro e w5 ⟨rfl, hb5⟩
      clear q0 q1 q2
      cases f with
      | false =>
        go_wp2
        go_ret
        exact ⟨rfl, ev.bch0 hbb hb5⟩
      | true =>
        go_wp2
        go_roundw
        case rel => exact ⟨k + 1, by omega, by go_num, ev.bch0 hb hb5⟩
        case measure => simp [intOf]; omega
    · have hd : decide ((k : Int) < (n : Int)) = false := by simp; omega
      have hd3 : decide (k < n) = false := by simp; omega
      have hbb : Below w.heap.size w wr := ev.bch0 hb2' hb
      go_wp2_with fail
      refine (HZ.out _ hbb).mono ?_
      rintro e w3 ⟨s, hs, rfl, hb3⟩
      obtain ⟨⟨x, es2⟩, hR⟩ : ∃ R, exprL s.data.toList = R := ⟨_, rfl⟩
      have HX := Lib.hid (show Calls Try.prog 15 #[.string s] w3 (ExprP (x, es2) w3) by
        rw [← hR]; exact rexpr_ s s.data.toList ⟨rfl⟩ (by rw [Array.length_toList]; show s.size ≤ 100000; omega) w3)
      have HOK := Lib.hid (show es2.length ≤ 60 ∧ ∀ n ∈ es2, NdOK n by have := expr_ok s.data.toList; rw [hR] at this; exact this)
      clear hR hs
      go_wp2_with fail
      refine (HX.out).mono ?_
      rintro e w4 ⟨A3, m3, c3, rfl, rfl, hown, hb4⟩
      simp only at hown ⊢
      have hb4' : Below w.heap.size w w4 := ev.bch0 (ev.bch0 hbb hb3) hb4
      have HN3 := Lib.hid (nds_own hown rfl)
      clear hown
      have hsrc := nds_src (HND.out.below hb4')
      have HSRC := Lib.hid (fun ad (h : A0 = some ad) j u (hu : (cellsN es)[j]? = some u) => hsrc ad h j u hu)
      have HAN := Lib.hid (show A0 = none → N = 0 ∧ c0 = 0 ∧ cellsN es = [] from fun h => by
        obtain ⟨h1, h2⟩ := HA0.out h
        refine ⟨h1, h2, ?_⟩
        have : es = [] := List.eq_nil_of_length_eq_zero (by rw [HES.out]; exact h1)
        rw [this]; rfl)
      clear hsrc
      have hw40 : ∀ ad, A0 = some ad → 0 < N → ad.block < w4.heap.size := fun ad h hN => by
        obtain ⟨b, off, e, hlt, _⟩ := HND.out (by rw [HES.out]; exact hN)
        rw [h] at e
        injection e with e
        subst e
        exact Nat.lt_of_lt_of_le hlt hb4'.size
      have HW40 := Lib.hid hw40
      clear hw40
      go_wp2_with (at_builtin; refine wpList_append_nds rfl _ _ 23 rfl w4.heap.size 36 i0 (.agg #[.int .i64 0, .int .i64 0, .int .i64 0, .int .i64 0, .int .i64 0, .string ⟨#[]⟩, .string ⟨#[]⟩]) 7 72 hu hi hz0 hz1 hz2 rfl (by decide) _ 0 [] rfl (own_empty (Nat.le_refl _)) A0 N c0 (cellsN es) rfl HAN.out ?b1 ?b2 cellsN_one ?b3 ?b4 ?b5 ?_)
      case b1 =>
        intro ad h j u hu
        have hp : 0 < N := by
          have := (List.getElem?_eq_some_iff.1 hu).1
          rw [cellsN_len, HES.out] at this
          omega
        rw [World.cell?_alloc_lt w4 _ _ (by rw [block_of_add]; exact HW40.out ad h hp)]
        exact HSRC.out ad h j u hu
      case b2 => rw [cellsN_len, HES.out]
      case b3 => unfold maxLen; omega
      case b4 => omega
      case b5 => first | omega | (simp; done) | (simp; omega)
      intro v5 w5 hown5 hgrow5
      have hb5 : Below w4.heap.size w4 w5 := ((Below.refl _ _).alloc (Nat.le_refl _) _).grown hgrow5 (by simp) (fun g hg => by simp [Value.ownBlock] at hg; omega)
      obtain ⟨An, cn, rfl⟩ := own_sl hown5
      have hO5 : OwnNs w5 w4.heap.size An N cn es := ⟨HES.out, hown5, HNEAR.out⟩
      clear hown5 hgrow5 HSRC HAN HW40
      go_wp2_with fail
      obtain ⟨wo, rfl⟩ : ∃ x, x = wr := ⟨_, rfl⟩
      go_loopw [13] (fun i wr => ∃ (k : Nat) (near : List Nd), k ≤ N ∧ i = .int .i64 k ∧ OwnNs wr w4.heap.size An N cn near ∧ Below w4.heap.size w4 wr) (fun i _ => N - (intOf i).toNat)
      case atStart => exact ⟨0, es, Nat.zero_le _, rfl, hO5, hb5⟩
      case round =>
        obtain ⟨k, near, hkN, rfl, hO, hb6⟩ := hrel
        rcases Nat.lt_or_ge k N with hlt | hge
        · have hd : decide ((k : Int) < (N : Int)) = true := by simp; omega
          have hd4 : decide (k < N) = true := by simp; omega
          have hkN2 : (k : Int) < (N : Int) := by omega
          obtain ⟨g, rfl, hg, hgl⟩ := hO.some_ (by omega)
          obtain ⟨nd, hnd, hok⟩ := hO.get hlt
          have q := hO.cells hnd
          have f := hO.frozen k
          have HNDK := Lib.hid hnd
          have HOK2 := Lib.hid hok
          clear hnd hok
          go_wp2_with fail
          refine (within19n nd.op 16 _ (by omega) (by omega) HOK2.out.raw.1).mono ?_
          rintro e w6 ⟨r, hr, rfl, rfl⟩
          go_upto_region 16 with fail
          clear q f
          have hO1 := hO.set_ (j := 0) (v := .int .i64 (1 + (r : Int))) (nd' := nOp (1 + (r : Int)) nd) HNDK.out (by omega) rfl (near_op HOK2.out (by unfold ok64; omega))
          have hb7 : Below w4.heap.size w4 (wr.setCell ⟨g, k * 7, none⟩ (.int .i64 (1 + (r : Int)))) := hb6.setCell hg _
          rw [Nat.add_zero] at hO1
          obtain ⟨wA, hwA⟩ : ∃ x, wr.setCell ⟨g, k * 7, none⟩ (.int .i64 (1 + (r : Int))) = x := ⟨_, rfl⟩
          rw [hwA] at hO1 hb7 ⊢
          have hgA : g < wA.heap.size := by rw [← hwA]; simpa using hgl
          obtain ⟨nd1, hnd1⟩ : ∃ x, nOp (1 + (r : Int)) nd = x := ⟨_, rfl⟩
          have hk1 : (near.set k (nOp (1 + (r : Int)) nd))[k]? = some nd1 := by rw [List.getElem?_set_self (by have := hO.1; omega), hnd1]
          obtain ⟨near1, hnear1⟩ : ∃ x, near.set k (nOp (1 + (r : Int)) nd) = x := ⟨_, rfl⟩
          rw [hnear1] at hO1 hk1
          have hok1 : NearOK nd1 := hO1.2.2 nd1 (List.mem_of_getElem? hk1)
          clear hnear1 hnd1 hwA hO hb6 hgl HNDK HOK2 hr
          have HW1 := Lib.hid (fun (a : Int) (W : World) (ha : ok64 a) => (show Calls Try.prog 17 #[.int .i64 a, .int .i64 (IntKind.i64.wrap ((k : Int) + 1))] W (SomeI (k + 1) W) by rw [show IntKind.i64.wrap ((k : Int) + 1) = ((k + 1 : Nat) : Int) from IntWalk.i64_in _ ⟨by omega, by omega⟩]; exact within19n a (k + 1) W (by omega) (by omega) ha))
          have q := hO1.cells hk1
          have f := hO1.frozen k
          have HOK1 := Lib.hid hok1
          have HK1 := Lib.hid hk1
          clear hok1 hk1
          go_cut [12] from 73 to 96 (fun v wx => ∃ r1 r2 : Nat, v = .slice (some ⟨g, 0, none⟩) N cn ∧ r1 < k + 1 ∧ r2 < k + 1 ∧ wx = ((wA.setCell ⟨g, k * 7 + 1, none⟩ (.int .i64 (r1 : Int))).setCell ⟨g, k * 7 + 2, none⟩ (.int .i64 (r2 : Int))).drew)
          case first =>
            have hOd : OwnNs wA.drew w4.heap.size (some ⟨g, 0, none⟩) N cn near1 := hO1.ext (Below.refl _ _).drew
            have qd := hOd.cells HK1.out
            have fd := hOd.frozen k
            clear q f
            refine wp_region_tree (S := fun _ => True) (.take 0 (.take 1 (.take 2 (.take 3 (.take 4 (.take 5 (.take 6 (.take 7 (.take 9 (.take 10 (.take 12 (.take 13 (.take 14 (.take 15 (.take 17 (.take 18 (.two 8 16 (.two 11 16 (.one 16 (.one 19 (.take 20 (.take 21 (.one 22 (.take 23 (.take 24 (.one 25 .nil)))))))) (.one 11 (.one 19 (.take 20 (.take 21 (.one 22 (.take 23 (.take 24 (.one 25 .nil))))))))) (.one 8 (.one 11 (.one 19 (.take 20 (.take 21 (.one 22 (.take 23 (.take 24 (.one 25 .nil))))))))))))))))))))))))))
              (by kernel_rfl) (by kernel_rfl) (by kernel_rfl) (by decide) (by intro c a d v w h; cases d <;> exact h) trivial ?_
            repeat ((with_reducible show wpTree _ _ _ _ (.take _ _) _ _); (first | (refine wpTree_on (v := ?_) rfl rfl (wanted_free rfl) (fun w' hS => ?_) ?_; rotate_left; (focus (go_simp; (try with_reducible rfl); done)); try simp only [List.setIfInBounds_toArray, List.set_cons_zero, List.set_cons_succ]) | (refine wpTree_on (v := ?_) rfl rfl (wanted_yes rfl rfl rfl) (fun w' hS => ?_) ?_; rotate_left; (focus (go_simp; (try with_reducible rfl); done)); try simp only [List.setIfInBounds_toArray, List.set_cons_zero, List.set_cons_succ]) | (refine wpTree_off rfl rfl (wanted_no rfl rfl rfl) ?_; try simp only [List.setIfInBounds_toArray, List.set_cons_zero, List.set_cons_succ]) | (refine wpTree_off rfl rfl (wanted_undef rfl rfl rfl) ?_; try simp only [List.setIfInBounds_toArray, List.set_cons_zero, List.set_cons_succ])))
            refine wpTree_both rfl (wanted_free rfl) rfl (wanted_free rfl) (fun K hK => ?_) (fun K hK => ?_)
            · go_simp
              refine hK.out _ _ trivial ?_
              clear hK K
              repeat ((with_reducible show wpTree _ _ _ _ (.take _ _) _ _); (first | (refine wpTree_on (v := ?_) rfl rfl (wanted_free rfl) (fun w' hS => ?_) ?_; rotate_left; (focus (go_simp; (try with_reducible rfl); done)); try simp only [List.setIfInBounds_toArray, List.set_cons_zero, List.set_cons_succ]) | (refine wpTree_on (v := ?_) rfl rfl (wanted_yes rfl rfl rfl) (fun w' hS => ?_) ?_; rotate_left; (focus (go_simp; (try with_reducible rfl); done)); try simp only [List.setIfInBounds_toArray, List.set_cons_zero, List.set_cons_succ]) | (refine wpTree_off rfl rfl (wanted_no rfl rfl rfl) ?_; try simp only [List.setIfInBounds_toArray, List.set_cons_zero, List.set_cons_succ]) | (refine wpTree_off rfl rfl (wanted_undef rfl rfl rfl) ?_; try simp only [List.setIfInBounds_toArray, List.set_cons_zero, List.set_cons_succ])))
              refine wpTree_both rfl (wanted_free rfl) rfl (wanted_free rfl) (fun K hK => ?_) (fun K hK => ?_)
              · go_simp
                refine (HW1.out nd1.a _ HOK1.out.raw.2.1).mono ?_
                rintro e w6 ⟨r1, hr1, rfl, rfl⟩
                refine hK.out _ _ trivial ?_
                clear hK K
                repeat ((with_reducible show wpTree _ _ _ _ (.take _ _) _ _); (first | (refine wpTree_on (v := ?_) rfl rfl (wanted_free rfl) (fun w' hS => ?_) ?_; rotate_left; (focus (go_simp; (try with_reducible rfl); done)); try simp only [List.setIfInBounds_toArray, List.set_cons_zero, List.set_cons_succ]) | (refine wpTree_on (v := ?_) rfl rfl (wanted_yes rfl rfl rfl) (fun w' hS => ?_) ?_; rotate_left; (focus (go_simp; (try with_reducible rfl); done)); try simp only [List.setIfInBounds_toArray, List.set_cons_zero, List.set_cons_succ]) | (refine wpTree_off rfl rfl (wanted_no rfl rfl rfl) ?_; try simp only [List.setIfInBounds_toArray, List.set_cons_zero, List.set_cons_succ]) | (refine wpTree_off rfl rfl (wanted_undef rfl rfl rfl) ?_; try simp only [List.setIfInBounds_toArray, List.set_cons_zero, List.set_cons_succ])))
                refine wpTree_do rfl (wanted_free rfl) (fun K hK => ?_); go_simp
                refine hK.out _ _ trivial ?_
                clear hK K
                repeat ((with_reducible show wpTree _ _ _ _ (.take _ _) _ _); (first | (refine wpTree_on (v := ?_) rfl rfl (wanted_free rfl) (fun w' hS => ?_) ?_; rotate_left; (focus (go_simp; (try with_reducible rfl); done)); try simp only [List.setIfInBounds_toArray, List.set_cons_zero, List.set_cons_succ]) | (refine wpTree_on (v := ?_) rfl rfl (wanted_yes rfl rfl rfl) (fun w' hS => ?_) ?_; rotate_left; (focus (go_simp; (try with_reducible rfl); done)); try simp only [List.setIfInBounds_toArray, List.set_cons_zero, List.set_cons_succ]) | (refine wpTree_off rfl rfl (wanted_no rfl rfl rfl) ?_; try simp only [List.setIfInBounds_toArray, List.set_cons_zero, List.set_cons_succ]) | (refine wpTree_off rfl rfl (wanted_undef rfl rfl rfl) ?_; try simp only [List.setIfInBounds_toArray, List.set_cons_zero, List.set_cons_succ])))
                refine wpTree_do rfl (wanted_free rfl) (fun K hK => ?_); go_simp
                refine (HW1.out nd1.b _ HOK1.out.raw.2.2.1).mono ?_
                rintro e w6 ⟨r2, hr2, rfl, rfl⟩
                refine hK.out _ _ trivial ?_
                clear hK K
                repeat ((with_reducible show wpTree _ _ _ _ (.take _ _) _ _); (first | (refine wpTree_on (v := ?_) rfl rfl (wanted_free rfl) (fun w' hS => ?_) ?_; rotate_left; (focus (go_simp; (try with_reducible rfl); done)); try simp only [List.setIfInBounds_toArray, List.set_cons_zero, List.set_cons_succ]) | (refine wpTree_on (v := ?_) rfl rfl (wanted_yes rfl rfl rfl) (fun w' hS => ?_) ?_; rotate_left; (focus (go_simp; (try with_reducible rfl); done)); try simp only [List.setIfInBounds_toArray, List.set_cons_zero, List.set_cons_succ]) | (refine wpTree_off rfl rfl (wanted_no rfl rfl rfl) ?_; try simp only [List.setIfInBounds_toArray, List.set_cons_zero, List.set_cons_succ]) | (refine wpTree_off rfl rfl (wanted_undef rfl rfl rfl) ?_; try simp only [List.setIfInBounds_toArray, List.set_cons_zero, List.set_cons_succ])))
                refine wpTree_do rfl (wanted_free rfl) (fun K hK => ?_); go_simp
                refine hK.out _ _ trivial ?_
                clear hK K
                have hO2 := hO1.set_ (j := 1) (v := .int .i64 (r1 : Int)) (nd' := nAB (r1 : Int) nd1.b nd1) HK1.out (by omega) rfl (near_ab HOK1.out (by unfold ok64; omega) HOK1.out.raw.2.2.1)
                clear qd fd
                have q2 := (hO2.cells (k := k) (nd := nAB (r1 : Int) nd1.b nd1) (by rw [List.getElem?_set_self (by have := hO1.1; omega)])).2.2.1
                have f2 := (hO2.frozen k).2.2.1
                repeat ((with_reducible show wpTree _ _ _ _ (.take _ _) _ _); (first | (refine wpTree_on (v := ?_) rfl rfl (wanted_free rfl) (fun w' hS => ?_) ?_; rotate_left; (focus (go_simp; (try with_reducible rfl); done)); try simp only [List.setIfInBounds_toArray, List.set_cons_zero, List.set_cons_succ]) | (refine wpTree_on (v := ?_) rfl rfl (wanted_yes rfl rfl rfl) (fun w' hS => ?_) ?_; rotate_left; (focus (go_simp; (try with_reducible rfl); done)); try simp only [List.setIfInBounds_toArray, List.set_cons_zero, List.set_cons_succ]) | (refine wpTree_off rfl rfl (wanted_no rfl rfl rfl) ?_; try simp only [List.setIfInBounds_toArray, List.set_cons_zero, List.set_cons_succ]) | (refine wpTree_off rfl rfl (wanted_undef rfl rfl rfl) ?_; try simp only [List.setIfInBounds_toArray, List.set_cons_zero, List.set_cons_succ])))
                refine wpTree_do rfl (wanted_free rfl) (fun K hK => ?_); go_simp
                refine hK.out _ _ trivial ?_
                clear hK K q2 f2
                refine wpTree_end ?_
                go_wp2_with fail
                go_meet
                exact ⟨r1, r2, rfl, hr1, hr2, rfl⟩
              · go_simp
                refine hK.out _ _ trivial ?_
                clear hK K
                repeat ((with_reducible show wpTree _ _ _ _ (.take _ _) _ _); (first | (refine wpTree_on (v := ?_) rfl rfl (wanted_free rfl) (fun w' hS => ?_) ?_; rotate_left; (focus (go_simp; (try with_reducible rfl); done)); try simp only [List.setIfInBounds_toArray, List.set_cons_zero, List.set_cons_succ]) | (refine wpTree_on (v := ?_) rfl rfl (wanted_yes rfl rfl rfl) (fun w' hS => ?_) ?_; rotate_left; (focus (go_simp; (try with_reducible rfl); done)); try simp only [List.setIfInBounds_toArray, List.set_cons_zero, List.set_cons_succ]) | (refine wpTree_off rfl rfl (wanted_no rfl rfl rfl) ?_; try simp only [List.setIfInBounds_toArray, List.set_cons_zero, List.set_cons_succ]) | (refine wpTree_off rfl rfl (wanted_undef rfl rfl rfl) ?_; try simp only [List.setIfInBounds_toArray, List.set_cons_zero, List.set_cons_succ])))
                refine wpTree_do rfl (wanted_free rfl) (fun K hK => ?_); go_simp
                refine (HW1.out nd1.a _ HOK1.out.raw.2.1).mono ?_
                rintro e w6 ⟨r1, hr1, rfl, rfl⟩
                refine hK.out _ _ trivial ?_
                clear hK K
                repeat ((with_reducible show wpTree _ _ _ _ (.take _ _) _ _); (first | (refine wpTree_on (v := ?_) rfl rfl (wanted_free rfl) (fun w' hS => ?_) ?_; rotate_left; (focus (go_simp; (try with_reducible rfl); done)); try simp only [List.setIfInBounds_toArray, List.set_cons_zero, List.set_cons_succ]) | (refine wpTree_on (v := ?_) rfl rfl (wanted_yes rfl rfl rfl) (fun w' hS => ?_) ?_; rotate_left; (focus (go_simp; (try with_reducible rfl); done)); try simp only [List.setIfInBounds_toArray, List.set_cons_zero, List.set_cons_succ]) | (refine wpTree_off rfl rfl (wanted_no rfl rfl rfl) ?_; try simp only [List.setIfInBounds_toArray, List.set_cons_zero, List.set_cons_succ]) | (refine wpTree_off rfl rfl (wanted_undef rfl rfl rfl) ?_; try simp only [List.setIfInBounds_toArray, List.set_cons_zero, List.set_cons_succ])))
                refine wpTree_do rfl (wanted_free rfl) (fun K hK => ?_); go_simp
                refine (HW1.out nd1.b _ HOK1.out.raw.2.2.1).mono ?_
                rintro e w6 ⟨r2, hr2, rfl, rfl⟩
                refine hK.out _ _ trivial ?_
                clear hK K
                repeat ((with_reducible show wpTree _ _ _ _ (.take _ _) _ _); (first | (refine wpTree_on (v := ?_) rfl rfl (wanted_free rfl) (fun w' hS => ?_) ?_; rotate_left; (focus (go_simp; (try with_reducible rfl); done)); try simp only [List.setIfInBounds_toArray, List.set_cons_zero, List.set_cons_succ]) | (refine wpTree_on (v := ?_) rfl rfl (wanted_yes rfl rfl rfl) (fun w' hS => ?_) ?_; rotate_left; (focus (go_simp; (try with_reducible rfl); done)); try simp only [List.setIfInBounds_toArray, List.set_cons_zero, List.set_cons_succ]) | (refine wpTree_off rfl rfl (wanted_no rfl rfl rfl) ?_; try simp only [List.setIfInBounds_toArray, List.set_cons_zero, List.set_cons_succ]) | (refine wpTree_off rfl rfl (wanted_undef rfl rfl rfl) ?_; try simp only [List.setIfInBounds_toArray, List.set_cons_zero, List.set_cons_succ])))
                refine wpTree_do rfl (wanted_free rfl) (fun K hK => ?_); go_simp
                refine hK.out _ _ trivial ?_
                clear hK K
                have hO2 := hO1.set_ (j := 1) (v := .int .i64 (r1 : Int)) (nd' := nAB (r1 : Int) nd1.b nd1) HK1.out (by omega) rfl (near_ab HOK1.out (by unfold ok64; omega) HOK1.out.raw.2.2.1)
                clear qd fd
                have q2 := (hO2.cells (k := k) (nd := nAB (r1 : Int) nd1.b nd1) (by rw [List.getElem?_set_self (by have := hO1.1; omega)])).2.2.1
                have f2 := (hO2.frozen k).2.2.1
                repeat ((with_reducible show wpTree _ _ _ _ (.take _ _) _ _); (first | (refine wpTree_on (v := ?_) rfl rfl (wanted_free rfl) (fun w' hS => ?_) ?_; rotate_left; (focus (go_simp; (try with_reducible rfl); done)); try simp only [List.setIfInBounds_toArray, List.set_cons_zero, List.set_cons_succ]) | (refine wpTree_on (v := ?_) rfl rfl (wanted_yes rfl rfl rfl) (fun w' hS => ?_) ?_; rotate_left; (focus (go_simp; (try with_reducible rfl); done)); try simp only [List.setIfInBounds_toArray, List.set_cons_zero, List.set_cons_succ]) | (refine wpTree_off rfl rfl (wanted_no rfl rfl rfl) ?_; try simp only [List.setIfInBounds_toArray, List.set_cons_zero, List.set_cons_succ]) | (refine wpTree_off rfl rfl (wanted_undef rfl rfl rfl) ?_; try simp only [List.setIfInBounds_toArray, List.set_cons_zero, List.set_cons_succ])))
                refine wpTree_do rfl (wanted_free rfl) (fun K hK => ?_); go_simp
                refine hK.out _ _ trivial ?_
                clear hK K q2 f2
                refine wpTree_end ?_
                go_wp2_with fail
                go_meet
                exact ⟨r1, r2, rfl, hr1, hr2, rfl⟩
            · go_simp
              refine hK.out _ _ trivial ?_
              clear hK K
              repeat ((with_reducible show wpTree _ _ _ _ (.take _ _) _ _); (first | (refine wpTree_on (v := ?_) rfl rfl (wanted_free rfl) (fun w' hS => ?_) ?_; rotate_left; (focus (go_simp; (try with_reducible rfl); done)); try simp only [List.setIfInBounds_toArray, List.set_cons_zero, List.set_cons_succ]) | (refine wpTree_on (v := ?_) rfl rfl (wanted_yes rfl rfl rfl) (fun w' hS => ?_) ?_; rotate_left; (focus (go_simp; (try with_reducible rfl); done)); try simp only [List.setIfInBounds_toArray, List.set_cons_zero, List.set_cons_succ]) | (refine wpTree_off rfl rfl (wanted_no rfl rfl rfl) ?_; try simp only [List.setIfInBounds_toArray, List.set_cons_zero, List.set_cons_succ]) | (refine wpTree_off rfl rfl (wanted_undef rfl rfl rfl) ?_; try simp only [List.setIfInBounds_toArray, List.set_cons_zero, List.set_cons_succ])))
              refine wpTree_do rfl (wanted_free rfl) (fun K hK => ?_); go_simp
              refine hK.out _ _ trivial ?_
              clear hK K
              repeat ((with_reducible show wpTree _ _ _ _ (.take _ _) _ _); (first | (refine wpTree_on (v := ?_) rfl rfl (wanted_free rfl) (fun w' hS => ?_) ?_; rotate_left; (focus (go_simp; (try with_reducible rfl); done)); try simp only [List.setIfInBounds_toArray, List.set_cons_zero, List.set_cons_succ]) | (refine wpTree_on (v := ?_) rfl rfl (wanted_yes rfl rfl rfl) (fun w' hS => ?_) ?_; rotate_left; (focus (go_simp; (try with_reducible rfl); done)); try simp only [List.setIfInBounds_toArray, List.set_cons_zero, List.set_cons_succ]) | (refine wpTree_off rfl rfl (wanted_no rfl rfl rfl) ?_; try simp only [List.setIfInBounds_toArray, List.set_cons_zero, List.set_cons_succ]) | (refine wpTree_off rfl rfl (wanted_undef rfl rfl rfl) ?_; try simp only [List.setIfInBounds_toArray, List.set_cons_zero, List.set_cons_succ])))
              refine wpTree_do rfl (wanted_free rfl) (fun K hK => ?_); go_simp
              refine (HW1.out nd1.a _ HOK1.out.raw.2.1).mono ?_
              rintro e w6 ⟨r1, hr1, rfl, rfl⟩
              refine hK.out _ _ trivial ?_
              clear hK K
              repeat ((with_reducible show wpTree _ _ _ _ (.take _ _) _ _); (first | (refine wpTree_on (v := ?_) rfl rfl (wanted_free rfl) (fun w' hS => ?_) ?_; rotate_left; (focus (go_simp; (try with_reducible rfl); done)); try simp only [List.setIfInBounds_toArray, List.set_cons_zero, List.set_cons_succ]) | (refine wpTree_on (v := ?_) rfl rfl (wanted_yes rfl rfl rfl) (fun w' hS => ?_) ?_; rotate_left; (focus (go_simp; (try with_reducible rfl); done)); try simp only [List.setIfInBounds_toArray, List.set_cons_zero, List.set_cons_succ]) | (refine wpTree_off rfl rfl (wanted_no rfl rfl rfl) ?_; try simp only [List.setIfInBounds_toArray, List.set_cons_zero, List.set_cons_succ]) | (refine wpTree_off rfl rfl (wanted_undef rfl rfl rfl) ?_; try simp only [List.setIfInBounds_toArray, List.set_cons_zero, List.set_cons_succ])))
              refine wpTree_do rfl (wanted_free rfl) (fun K hK => ?_); go_simp
              refine (HW1.out nd1.b _ HOK1.out.raw.2.2.1).mono ?_
              rintro e w6 ⟨r2, hr2, rfl, rfl⟩
              refine hK.out _ _ trivial ?_
              clear hK K
              repeat ((with_reducible show wpTree _ _ _ _ (.take _ _) _ _); (first | (refine wpTree_on (v := ?_) rfl rfl (wanted_free rfl) (fun w' hS => ?_) ?_; rotate_left; (focus (go_simp; (try with_reducible rfl); done)); try simp only [List.setIfInBounds_toArray, List.set_cons_zero, List.set_cons_succ]) | (refine wpTree_on (v := ?_) rfl rfl (wanted_yes rfl rfl rfl) (fun w' hS => ?_) ?_; rotate_left; (focus (go_simp; (try with_reducible rfl); done)); try simp only [List.setIfInBounds_toArray, List.set_cons_zero, List.set_cons_succ]) | (refine wpTree_off rfl rfl (wanted_no rfl rfl rfl) ?_; try simp only [List.setIfInBounds_toArray, List.set_cons_zero, List.set_cons_succ]) | (refine wpTree_off rfl rfl (wanted_undef rfl rfl rfl) ?_; try simp only [List.setIfInBounds_toArray, List.set_cons_zero, List.set_cons_succ])))
              refine wpTree_do rfl (wanted_free rfl) (fun K hK => ?_); go_simp
              refine hK.out _ _ trivial ?_
              clear hK K
              have hO2 := hO1.set_ (j := 1) (v := .int .i64 (r1 : Int)) (nd' := nAB (r1 : Int) nd1.b nd1) HK1.out (by omega) rfl (near_ab HOK1.out (by unfold ok64; omega) HOK1.out.raw.2.2.1)
              clear qd fd
              have q2 := (hO2.cells (k := k) (nd := nAB (r1 : Int) nd1.b nd1) (by rw [List.getElem?_set_self (by have := hO1.1; omega)])).2.2.1
              have f2 := (hO2.frozen k).2.2.1
              repeat ((with_reducible show wpTree _ _ _ _ (.take _ _) _ _); (first | (refine wpTree_on (v := ?_) rfl rfl (wanted_free rfl) (fun w' hS => ?_) ?_; rotate_left; (focus (go_simp; (try with_reducible rfl); done)); try simp only [List.setIfInBounds_toArray, List.set_cons_zero, List.set_cons_succ]) | (refine wpTree_on (v := ?_) rfl rfl (wanted_yes rfl rfl rfl) (fun w' hS => ?_) ?_; rotate_left; (focus (go_simp; (try with_reducible rfl); done)); try simp only [List.setIfInBounds_toArray, List.set_cons_zero, List.set_cons_succ]) | (refine wpTree_off rfl rfl (wanted_no rfl rfl rfl) ?_; try simp only [List.setIfInBounds_toArray, List.set_cons_zero, List.set_cons_succ]) | (refine wpTree_off rfl rfl (wanted_undef rfl rfl rfl) ?_; try simp only [List.setIfInBounds_toArray, List.set_cons_zero, List.set_cons_succ])))
              refine wpTree_do rfl (wanted_free rfl) (fun K hK => ?_); go_simp
              refine hK.out _ _ trivial ?_
              clear hK K q2 f2
              refine wpTree_end ?_
              go_wp2_with fail
              go_meet
              exact ⟨r1, r2, rfl, hr1, hr2, rfl⟩
          obtain ⟨r1, r2, rfl, hr1, hr2, hwc⟩ := hcut
          clear q f HW1
          have hr1b : ok64 (r1 : Int) := by unfold ok64; omega
          have hr2b : ok64 (r2 : Int) := by unfold ok64; omega
          have hO2 := hO1.set_ (j := 1) (v := .int .i64 (r1 : Int)) (nd' := nAB (r1 : Int) nd1.b nd1) HK1.out (by omega) rfl (near_ab HOK1.out hr1b HOK1.out.raw.2.2.1)
          have hO3 := hO2.set_ (k := k) (j := 2) (v := .int .i64 (r2 : Int)) (nd := nAB (r1 : Int) nd1.b nd1) (nd' := nAB (r1 : Int) (r2 : Int) nd1) (by rw [List.getElem?_set_self (by have := hO1.1; omega)]) (by omega) rfl (near_ab HOK1.out hr1b hr2b)
          have hbC : Below w4.heap.size w4 wc := by rw [hwc]; exact ((hb7.setCell hg _).setCell hg _).drew
          have hOC : OwnNs wc w4.heap.size (some ⟨g, 0, none⟩) N cn ((near1.set k (nAB (r1 : Int) nd1.b nd1)).set k (nAB (r1 : Int) (r2 : Int) nd1)) := by rw [hwc]; exact hO3.ext (Below.refl _ _).drew
          have hgC : g < wc.heap.size := by rw [hwc]; simpa using hgA
          obtain ⟨nd2, hnd2⟩ : ∃ x, nAB (r1 : Int) (r2 : Int) nd1 = x := ⟨_, rfl⟩
          have hk2 : ((near1.set k (nAB (r1 : Int) nd1.b nd1)).set k (nAB (r1 : Int) (r2 : Int) nd1))[k]? = some nd2 := by rw [List.getElem?_set_self (by rw [List.length_set]; have := hO1.1; omega), hnd2]
          obtain ⟨near2, hnear2⟩ : ∃ x, (near1.set k (nAB (r1 : Int) nd1.b nd1)).set k (nAB (r1 : Int) (r2 : Int) nd1) = x := ⟨_, rfl⟩
          rw [hnear2] at hOC hk2
          have HOK2 := Lib.hid (hOC.2.2 nd2 (List.mem_of_getElem? hk2))
          have HK2 := Lib.hid hk2
          clear hnear2 hk2 hnd2 hO2 hO3 hwc hO1 hb7 hgA HOK1 HK1 hr1b hr2b hr1 hr2
          have q := hOC.cells HK2.out
          go_wp2_with fail
          clear q
          refine (goodr nd2.v _ HOK2.out.raw.2.2.2.1).mono ?_
          rintro e w6 ⟨rfl, hb8⟩
          have hy := good_g HOK2.out.raw.2.2.2.1
          obtain ⟨y, hye⟩ : ∃ y, gV nd2.v = y := ⟨_, rfl⟩
          rw [hye] at hy ⊢
          clear hye
          have hky : ok64 y.k := by have := hy.k4; unfold ok64; omega
          have HY := Lib.hid hy
          clear hy
          have hO6 := hOC.ext hb8
          have hb9 : Below w4.heap.size w4 w6 := ev.bch0 hbC hb8
          have hg6 : g < w6.heap.size := Nat.lt_of_lt_of_le hgC hb8.size
          clear hOC hbC hgC hb8
          have q := hO6.cells HK2.out
          have f := hO6.frozen k
          go_upto_region 18 with fail
          clear q f
          have hlen2 := hO6.1
          have hsy := HY.out.s60
          have hOa := hO6.set_ (j := 3) (v := .int .i64 y.k) (nd' := nV ⟨y.k, nd2.v.n, nd2.v.s⟩ nd2) HK2.out (by omega) rfl (near_v HOK2.out ⟨hky, HOK2.out.raw.2.2.2.1.2⟩ HOK2.out.vs)
          have hOb := hOa.set_ (k := k) (j := 4) (v := .int .i64 y.n) (nd := nV ⟨y.k, nd2.v.n, nd2.v.s⟩ nd2) (nd' := nV ⟨y.k, y.n, nd2.v.s⟩ nd2) (by rw [List.getElem?_set_self (by omega)]) (by omega) rfl (near_v HOK2.out ⟨hky, HY.out.n64, HOK2.out.raw.2.2.2.1.2.2⟩ HOK2.out.vs)
          have hOc := hOb.set_ (k := k) (j := 5) (v := .string y.s) (nd := nV ⟨y.k, y.n, nd2.v.s⟩ nd2) (nd' := nV y nd2) (by rw [List.getElem?_set_self (by rw [List.length_set]; omega)]) (by omega) rfl (near_v HOK2.out ⟨hky, HY.out.n64, Nat.le_trans hsy (by decide)⟩ (by omega))
          have hbD := ((hb9.setCell (p := ⟨g, k * 7 + 3, none⟩) hg (.int .i64 y.k)).setCell (p := ⟨g, k * 7 + 4, none⟩) hg (.int .i64 y.n)).setCell (p := ⟨g, k * 7 + 5, none⟩) hg (.string y.s)
          obtain ⟨nd3, hnd3⟩ : ∃ x, nV y nd2 = x := ⟨_, rfl⟩
          have hk3 : (((near2.set k (nV ⟨y.k, nd2.v.n, nd2.v.s⟩ nd2)).set k (nV ⟨y.k, y.n, nd2.v.s⟩ nd2)).set k (nV y nd2))[k]? = some nd3 := by rw [List.getElem?_set_self (by rw [List.length_set, List.length_set]; omega), hnd3]
          obtain ⟨near3, hnear3⟩ : ∃ x, ((near2.set k (nV ⟨y.k, nd2.v.n, nd2.v.s⟩ nd2)).set k (nV ⟨y.k, y.n, nd2.v.s⟩ nd2)).set k (nV y nd2) = x := ⟨_, rfl⟩
          rw [hnear3] at hOc hk3
          obtain ⟨wD, hwD⟩ : ∃ x, ((w6.setCell ⟨g, k * 7 + 3, none⟩ (.int .i64 y.k)).setCell ⟨g, k * 7 + 4, none⟩ (.int .i64 y.n)).setCell ⟨g, k * 7 + 5, none⟩ (.string y.s) = x := ⟨_, rfl⟩
          rw [hwD] at hOc hbD ⊢
          have hgD : g < wD.heap.size := by rw [← hwD]; simpa using hg6
          have HOK3 := Lib.hid (hOc.2.2 nd3 (List.mem_of_getElem? hk3))
          have HK3 := Lib.hid hk3
          clear hnear3 hnd3 hk3 hOa hOb hwD hO6 hb9 hg6 HOK2 HK2 HY hsy hlen2 hky
          have hs30 := HOK3.out.s
          have q := hOc.cells HK3.out
          go_wp2_with fail
          clear q
          obtain ⟨W9, hW_, hbW9, BS⟩ : ∃ W_, W_ = (wD.alloc (.cells #[.string ⟨#[97]⟩, .string ⟨#[116, 46, 98]⟩, .string ⟨#[99]⟩, .string ⟨#[98]⟩, .string ⟨#[117, 46, 98]⟩, .string ⟨#[122, 122]⟩] 9)) ∧ Below wD.heap.size wD W_ ∧ Blk W_ (wD.heap.size) 9 #[.string ⟨#[97]⟩, .string ⟨#[116, 46, 98]⟩, .string ⟨#[99]⟩, .string ⟨#[98]⟩, .string ⟨#[117, 46, 98]⟩, .string ⟨#[122, 122]⟩] :=
            ⟨_, rfl, ((Below.refl _ _).alloc (Nat.le_refl _) _), (blk_new_at wD (wD.heap.size) _ _ (by simp))⟩
          rw [← hW_]
          clear hW_
          refine (within19n _ 6 _ (by omega) (by omega) (by unfold ok64; omega)).mono ?_
          rintro e w7 ⟨m6, hm6, rfl, rfl⟩
          obtain ⟨t, ht, hts⟩ : ∃ t : ByteArray, W9.cell? ⟨wD.heap.size, m6, none⟩ = some (.string t) ∧ t.size ≤ 3 := by
            rw [BS.cell]
            have : m6 = 0 ∨ m6 = 1 ∨ m6 = 2 ∨ m6 = 3 ∨ m6 = 4 ∨ m6 = 5 := by omega
            rcases this with rfl | rfl | rfl | rfl | rfl | rfl <;> exact ⟨_, rfl, by decide⟩
          have hO9 := hOc.ext hbW9
          have hb10 : Below w4.heap.size w4 W9 := ev.bch0 hbD hbW9
          have hm62 : (m6 : Int) < 6 := by omega
          have q := (hO9.cells HK3.out).2.2.2.2.2.2
          have f := (hO9.frozen k).2.2.2.2.2.2
          clear BS hbW9
          go_wp2
          have hOe := hO9.set_ (j := 6) (v := .string t) (nd' := nS t nd3) HK3.out (by omega) rfl (near_s HOK3.out (by omega))
          have hbE := hb10.setCell (p := ⟨g, k * 7 + 6, none⟩) hg (.string t)
          go_roundw
          case rel => exact ⟨k + 1, _, by omega, by go_num, hOe, hbE⟩
          case measure => simp [intOf]; omega
        · have hd : decide ((k : Int) < (N : Int)) = false := by simp; omega
          have hd4 : decide (k < N) = false := by simp; omega
          have hb6' : Below w.heap.size w wr := ev.bch0 hb4' hb6
          have HV6 := Lib.hid (vals_at HV.out hb6')
          go_wp2_with fail
          refine (row_ l A n c null wr HL.out (by omega) HRAW.out HV6.out hnull).mono ?_
          rintro e w6 ⟨Ar, cr, vs, rfl, hvl, hvv, hrv, hb7⟩
          have HVL := Lib.hid hvl
          have HRV := Lib.hid hrv
          have hO6 := hO.ext hb7
          have hb8 : Below w4.heap.size w4 w6 := ev.bch0 hb6 hb7
          clear hvl hrv HV6 hO hb6
          go_wp2_with fail
          obtain ⟨W7, hW_, hbW7, BE⟩ : ∃ W_, W_ = (w6.alloc (.cells #[.slice A0 N c0, .slice A3 es2.length c3, .slice An N cn] 23)) ∧ Below w6.heap.size w6 W_ ∧ Blk W_ (w6.heap.size) 23 #[.slice A0 N c0, .slice A3 es2.length c3, .slice An N cn] :=
            ⟨_, rfl, ((Below.refl _ _).alloc (Nat.le_refl _) _), (blk_new_at w6 (w6.heap.size) _ _ (by simp))⟩
          rw [← hW_]
          clear hW_
          have hb9 : Below w4.heap.size w4 W7 := ev.bch0 hb8 hbW7
          have hbF : Below w.heap.size w W7 := ev.bch0 hb4' hb9
          have QE := Lib.hid (show ∀ j, j < 3 → ∃ (Aj : Option Addr) (Nj cj : Nat) (ej : List Nd), W7.cell? ⟨w6.heap.size, j, none⟩ = some (.slice Aj Nj cj) ∧ ej.length = Nj ∧ Nj ≤ 80 ∧ Nds W7 W7.heap.size Aj ej ∧ ∀ n ∈ ej, NdF n by
            intro j hj
            rw [BE.cell]
            have : j = 0 ∨ j = 1 ∨ j = 2 := by omega
            rcases this with rfl | rfl | rfl
            · exact ⟨_, _, _, es, rfl, HES.out, hN80, nds_at HND.out hbF, fun n hn => (HNEAR.out n hn).f⟩
            · exact ⟨_, _, _, es2, rfl, rfl, by have := HOK.out.1; omega, nds_at HN3.out hb9, fun n hn => NdF.of (HOK.out.2 n hn)⟩
            · exact ⟨_, _, _, near, rfl, hO6.1, hN80, nds_at hO6.nds hbW7, fun n hn => (hO6.2.2 n hn).f⟩)
          have HVV := Lib.hid (vals_at hvv hbW7)
          have hgl : w6.heap.size < W7.heap.size := BE.lt
          generalize w6.heap.size = gb at *
          clear BE hO6 hb8 hb9 hbW7 hvv hb7
          obtain ⟨wp, rfl⟩ : ∃ x, x = wr := ⟨_, rfl⟩
          go_loopw [16] (fun i wr => ∃ j : Nat, j ≤ 3 ∧ i = .int .i64 j ∧ Below W7.heap.size W7 wr) (fun i _ => 3 - (intOf i).toNat)
          case atStart => exact ⟨0, by omega, rfl, Below.refl _ _⟩
          case round =>
            obtain ⟨j, hj3, rfl, hbx⟩ := hrel
            rcases Nat.lt_or_ge j 3 with hlt | hge
            · have hd : decide ((j : Int) < 3) = true := by simp; omega
              have hj2 : (j : Int) < 3 := by omega
              obtain ⟨Aj, Nj, cj, ej, hcell, hej, hNj, hndj, hnf⟩ := QE.out j hlt
              have HEJ := Lib.hid hej
              have HNDJ := Lib.hid hndj
              have HNF := Lib.hid hnf
              obtain ⟨⟨pk, pe⟩, hp⟩ : ∃ p, KindV colF colG ej = p := ⟨_, rfl⟩
              have HP := Lib.hid hp
              obtain ⟨v, gg, hvg⟩ := evR_form (rowF vs) ej
              have HVG := Lib.hid hvg
              have qe : ∀ w', Below wr.heap.size wr w' → w'.cell? ⟨gb, j, none⟩ = some (.slice Aj Nj cj) := fun w' h => ((ev.bch0 hbx h).cell (by exact hgl)).trans hcell
              clear hej hndj hnf hp hvg hcell
              obtain ⟨vk, vn, vt⟩ := v
              simp only at HVG
              have e1 := fun W => neqR vk vn vt vk vn vt false (by simp [vEq, (val.beqBA vt vt).2 rfl]) W
              have hbr : Below wr.heap.size wr wr := Below.refl _ _
              have D := fun w' (h : Below wr.heap.size wr.drew w') => qe w' (ev.bch0 hbr (Below.trans (Below.refl _ _).drew h))
              go_wp2_with fail
              refine wp_region_one [(0, true), (1, true), (2, true), (3, true), (4, false), (5, false), (6, true), (7, true), (8, true), (9, true), (10, true)] (by kernel_rfl) (by kernel_rfl) (by kernel_rfl) (by decide) ?_
              repeat ((with_reducible show wpPerm _ _ _ _ ((_, true) :: _) _ _); (first | (refine wpPerm_on (v := ?_) rfl rfl (wanted_free rfl) (fun w' hS => ?_) ?_; rotate_left; (focus (go_simp; (try with_reducible rfl); done)); try simp only [List.setIfInBounds_toArray, List.set_cons_zero, List.set_cons_succ]) | (refine wpPerm_on (v := ?_) rfl rfl (wanted_yes rfl rfl rfl) (fun w' hS => ?_) ?_; rotate_left; (focus (go_simp; (try with_reducible rfl); done)); try simp only [List.setIfInBounds_toArray, List.set_cons_zero, List.set_cons_succ]) | (refine wpPerm_off rfl rfl (wanted_no rfl rfl rfl) ?_; try simp only [List.setIfInBounds_toArray, List.set_cons_zero, List.set_cons_succ]) | (refine wpPerm_off rfl rfl (wanted_undef rfl rfl rfl) ?_; try simp only [List.setIfInBounds_toArray, List.set_cons_zero, List.set_cons_succ])))
              clear D
              refine wpPerm_do rfl (wanted_free rfl) (fun K hK => ?_); go_simp
              refine (cols_ _).mono ?_
              rintro e wa24 ⟨gc, rfl, hcl, hlo, hba⟩
              refine hK.out _ _ (show Below wr.heap.size wr.drew wa24 from hba) ?_
              clear hK K
              repeat ((with_reducible show wpPerm _ _ _ _ ((_, true) :: _) _ _); (first | (refine wpPerm_on (v := ?_) rfl rfl (wanted_free rfl) (fun w' hS => ?_) ?_; rotate_left; (focus (go_simp; (try with_reducible rfl); done)); try simp only [List.setIfInBounds_toArray, List.set_cons_zero, List.set_cons_succ]) | (refine wpPerm_on (v := ?_) rfl rfl (wanted_yes rfl rfl rfl) (fun w' hS => ?_) ?_; rotate_left; (focus (go_simp; (try with_reducible rfl); done)); try simp only [List.setIfInBounds_toArray, List.set_cons_zero, List.set_cons_succ]) | (refine wpPerm_off rfl rfl (wanted_no rfl rfl rfl) ?_; try simp only [List.setIfInBounds_toArray, List.set_cons_zero, List.set_cons_succ]) | (refine wpPerm_off rfl rfl (wanted_undef rfl rfl rfl) ?_; try simp only [List.setIfInBounds_toArray, List.set_cons_zero, List.set_cons_succ])))
              refine wpPerm_do rfl (wanted_free rfl) (fun K hK => ?_); go_simp
              have hbb2 : Below wr.heap.size wr wa24 := Below.trans (Below.refl _ _).drew hba
              refine (kind4 ej Aj Nj cj _ (pk, pe) gc HP.out HEJ.out (nds_at HNDJ.out (ev.bch0 hbx (ev.bch0 hbr hbb2))) hcl HNF.out).mono ?_
              rintro e wb24 ⟨rfl, hbc⟩
              refine hK.out _ _ (show Below wr.heap.size wr.drew wb24 from Below.trans hba (Below.mono hbc hba.size)) ?_
              clear hK K
              unfold two
              repeat ((with_reducible show wpPerm _ _ _ _ ((_, true) :: _) _ _); (first | (refine wpPerm_on (v := ?_) rfl rfl (wanted_free rfl) (fun w' hS => ?_) ?_; rotate_left; (focus (go_simp; (try with_reducible rfl); done)); try simp only [List.setIfInBounds_toArray, List.set_cons_zero, List.set_cons_succ]) | (refine wpPerm_on (v := ?_) rfl rfl (wanted_yes rfl rfl rfl) (fun w' hS => ?_) ?_; rotate_left; (focus (go_simp; (try with_reducible rfl); done)); try simp only [List.setIfInBounds_toArray, List.set_cons_zero, List.set_cons_succ]) | (refine wpPerm_off rfl rfl (wanted_no rfl rfl rfl) ?_; try simp only [List.setIfInBounds_toArray, List.set_cons_zero, List.set_cons_succ]) | (refine wpPerm_off rfl rfl (wanted_undef rfl rfl rfl) ?_; try simp only [List.setIfInBounds_toArray, List.set_cons_zero, List.set_cons_succ])))
              refine wpPerm_done ?_
              have hbr : Below wr.heap.size wr wb24 := ev.bch0 hbr (ev.bch0 hbb2 hbc)
              clear hbb2 hba hbc hcl hlo
              have D := fun w' (h : Below wb24.heap.size wb24.drew w') => qe w' (ev.bch0 hbr (Below.trans (Below.refl _ _).drew h))
              go_wp2_with fail
              refine wp_region_one [(0, true), (1, true), (2, true), (3, true), (4, false), (5, false), (6, true), (7, true), (8, true), (9, true), (10, true)] (by kernel_rfl) (by kernel_rfl) (by kernel_rfl) (by decide) ?_
              repeat ((with_reducible show wpPerm _ _ _ _ ((_, true) :: _) _ _); (first | (refine wpPerm_on (v := ?_) rfl rfl (wanted_free rfl) (fun w' hS => ?_) ?_; rotate_left; (focus (go_simp; (try with_reducible rfl); done)); try simp only [List.setIfInBounds_toArray, List.set_cons_zero, List.set_cons_succ]) | (refine wpPerm_on (v := ?_) rfl rfl (wanted_yes rfl rfl rfl) (fun w' hS => ?_) ?_; rotate_left; (focus (go_simp; (try with_reducible rfl); done)); try simp only [List.setIfInBounds_toArray, List.set_cons_zero, List.set_cons_succ]) | (refine wpPerm_off rfl rfl (wanted_no rfl rfl rfl) ?_; try simp only [List.setIfInBounds_toArray, List.set_cons_zero, List.set_cons_succ]) | (refine wpPerm_off rfl rfl (wanted_undef rfl rfl rfl) ?_; try simp only [List.setIfInBounds_toArray, List.set_cons_zero, List.set_cons_succ])))
              clear D
              refine wpPerm_do rfl (wanted_free rfl) (fun K hK => ?_); go_simp
              refine (cols_ _).mono ?_
              rintro e wa25 ⟨gc, rfl, hcl, hlo, hba⟩
              refine hK.out _ _ (show Below wb24.heap.size wb24.drew wa25 from hba) ?_
              clear hK K
              repeat ((with_reducible show wpPerm _ _ _ _ ((_, true) :: _) _ _); (first | (refine wpPerm_on (v := ?_) rfl rfl (wanted_free rfl) (fun w' hS => ?_) ?_; rotate_left; (focus (go_simp; (try with_reducible rfl); done)); try simp only [List.setIfInBounds_toArray, List.set_cons_zero, List.set_cons_succ]) | (refine wpPerm_on (v := ?_) rfl rfl (wanted_yes rfl rfl rfl) (fun w' hS => ?_) ?_; rotate_left; (focus (go_simp; (try with_reducible rfl); done)); try simp only [List.setIfInBounds_toArray, List.set_cons_zero, List.set_cons_succ]) | (refine wpPerm_off rfl rfl (wanted_no rfl rfl rfl) ?_; try simp only [List.setIfInBounds_toArray, List.set_cons_zero, List.set_cons_succ]) | (refine wpPerm_off rfl rfl (wanted_undef rfl rfl rfl) ?_; try simp only [List.setIfInBounds_toArray, List.set_cons_zero, List.set_cons_succ])))
              refine wpPerm_do rfl (wanted_free rfl) (fun K hK => ?_); go_simp
              have hbb2 : Below wb24.heap.size wb24 wa25 := Below.trans (Below.refl _ _).drew hba
              refine (rkind4 ej Aj Nj cj _ (pk, pe) gc HP.out HEJ.out (by omega) (nds_at HNDJ.out (ev.bch0 hbx (ev.bch0 hbr hbb2))) hcl HNF.out).mono ?_
              rintro e wb25 ⟨rfl, hbc⟩
              refine hK.out _ _ (show Below wb24.heap.size wb24.drew wb25 from Below.trans hba (Below.mono hbc hba.size)) ?_
              clear hK K
              unfold two
              repeat ((with_reducible show wpPerm _ _ _ _ ((_, true) :: _) _ _); (first | (refine wpPerm_on (v := ?_) rfl rfl (wanted_free rfl) (fun w' hS => ?_) ?_; rotate_left; (focus (go_simp; (try with_reducible rfl); done)); try simp only [List.setIfInBounds_toArray, List.set_cons_zero, List.set_cons_succ]) | (refine wpPerm_on (v := ?_) rfl rfl (wanted_yes rfl rfl rfl) (fun w' hS => ?_) ?_; rotate_left; (focus (go_simp; (try with_reducible rfl); done)); try simp only [List.setIfInBounds_toArray, List.set_cons_zero, List.set_cons_succ]) | (refine wpPerm_off rfl rfl (wanted_no rfl rfl rfl) ?_; try simp only [List.setIfInBounds_toArray, List.set_cons_zero, List.set_cons_succ]) | (refine wpPerm_off rfl rfl (wanted_undef rfl rfl rfl) ?_; try simp only [List.setIfInBounds_toArray, List.set_cons_zero, List.set_cons_succ])))
              refine wpPerm_done ?_
              have hbr : Below wr.heap.size wr wb25 := ev.bch0 hbr (ev.bch0 hbb2 hbc)
              clear hbb2 hba hbc hcl hlo
              have D := fun w' (h : Below wb25.heap.size wb25.drew w') => qe w' (ev.bch0 hbr (Below.trans (Below.refl _ _).drew h))
              go_wp2_with fail
              refine wp_region_mix1 ⟨10, 21, fun g => .pointer (some ⟨g, 0, none⟩), .cells #[.int .i64 0, .int .i64 0, .string ⟨#[]⟩] 30⟩
                [(0, true), (1, true), (2, true), (3, true), (5, true)] [(4, false), (6, false), (7, true), (8, true), (9, true)] [(11, false), (12, true)] (by kernel_rfl) (by kernel_rfl) ?_
              repeat ((with_reducible show wpI _ _ _ _ _ ((_, true) :: _) _ _); (first | (refine wpI_on (v := ?_) rfl rfl (wanted_free rfl) (fun w' hS => ?_) ?_; rotate_left; (focus (go_simp; (try with_reducible rfl); done)); try simp only [List.setIfInBounds_toArray, List.set_cons_zero, List.set_cons_succ]) | (refine wpI_on (v := ?_) rfl rfl (wanted_yes rfl rfl rfl) (fun w' hS => ?_) ?_; rotate_left; (focus (go_simp; (try with_reducible rfl); done)); try simp only [List.setIfInBounds_toArray, List.set_cons_zero, List.set_cons_succ]) | (refine wpI_off rfl rfl (wanted_no rfl rfl rfl) ?_; try simp only [List.setIfInBounds_toArray, List.set_cons_zero, List.set_cons_succ]) | (refine wpI_off rfl rfl (wanted_undef rfl rfl rfl) ?_; try simp only [List.setIfInBounds_toArray, List.set_cons_zero, List.set_cons_succ])))
              refine wpI_done ⟨?_, ?_⟩
              · intro t ht
                simp only [List.mem_cons, List.not_mem_nil, or_false] at ht
                subst ht
                exact ⟨_, rfl, rfl, wanted_free rfl, fun w => by go_simp⟩
              clear D
              refine wpI_do rfl (wanted_free rfl) (fun wI hI hSI K hK => ?_); go_simp
              refine (cols_ _).mono ?_
              rintro e wa26 ⟨gc, rfl, hcl, hlo, hba⟩
              refine hK.out _ _ hba ?_
              clear hK K
              have hsa : Below wb25.heap.size wb25.drew wa26 := Below.trans hSI (Below.mono hba hSI.size)
              clear hI hSI
              refine wpI_do rfl (wanted_free rfl) (fun wI hI hSI K hK => ?_); go_simp
              have hsb : Below wb25.heap.size wb25 wI := Below.trans (Below.refl _ _).drew hSI
              refine (value4 ej Aj Nj cj _ _ vs Ar cr gc HVG.out HEJ.out (nds_at HNDJ.out (ev.bch0 hbx (ev.bch0 hbr hsb))) (hcl.ext hI) HVL.out HRV.out (vals_at HVV.out (ev.bch0 hbx (ev.bch0 hbr hsb))) HNF.out).mono ?_
              rintro e wb26 ⟨rfl, hbc⟩
              refine hK.out _ _ hbc ?_
              clear hK K
              repeat ((with_reducible show wpI _ _ _ _ _ ((_, true) :: _) _ _); (first | (refine wpI_on (v := ?_) rfl rfl (wanted_free rfl) (fun w' hS => ?_) ?_; rotate_left; (focus (go_simp; (try with_reducible rfl); done)); try simp only [List.setIfInBounds_toArray, List.set_cons_zero, List.set_cons_succ]) | (refine wpI_on (v := ?_) rfl rfl (wanted_yes rfl rfl rfl) (fun w' hS => ?_) ?_; rotate_left; (focus (go_simp; (try with_reducible rfl); done)); try simp only [List.setIfInBounds_toArray, List.set_cons_zero, List.set_cons_succ]) | (refine wpI_off rfl rfl (wanted_no rfl rfl rfl) ?_; try simp only [List.setIfInBounds_toArray, List.set_cons_zero, List.set_cons_succ]) | (refine wpI_off rfl rfl (wanted_undef rfl rfl rfl) ?_; try simp only [List.setIfInBounds_toArray, List.set_cons_zero, List.set_cons_succ])))
              refine wpI_done ?_
              intro g1 wf he hbf hlo1 hhi1 hat1
              have B26 : Blk wf g1 30 #[.int .i64 0, .int .i64 0, .string ⟨#[]⟩] := hat1
              clear hat1
              have q := B26.three (Below.refl _ _)
              have f := B26.free3
              refine wpPerm_do rfl (wanted_free rfl) (fun K hK => ?_); go_simp
              clear q f
              obtain ⟨wc26, hw, B26, hbw, hfar, hgw⟩ := B26.set3 (.int .i64 vk) (.int .i64 vn) (.string vt)
              rw [← hw]
              clear hw
              have hbf := Below.trans hbf (hbw _ hlo1)
              refine hK.out _ _ hbf ?_
              clear hK K
              repeat ((with_reducible show wpPerm _ _ _ _ ((_, true) :: _) _ _); (first | (refine wpPerm_on (v := ?_) rfl rfl (wanted_free rfl) (fun w' hS => ?_) ?_; rotate_left; (focus (go_simp; (try with_reducible rfl); done)); try simp only [List.setIfInBounds_toArray, List.set_cons_zero, List.set_cons_succ]) | (refine wpPerm_on (v := ?_) rfl rfl (wanted_yes rfl rfl rfl) (fun w' hS => ?_) ?_; rotate_left; (focus (go_simp; (try with_reducible rfl); done)); try simp only [List.setIfInBounds_toArray, List.set_cons_zero, List.set_cons_succ]) | (refine wpPerm_off rfl rfl (wanted_no rfl rfl rfl) ?_; try simp only [List.setIfInBounds_toArray, List.set_cons_zero, List.set_cons_succ]) | (refine wpPerm_off rfl rfl (wanted_undef rfl rfl rfl) ?_; try simp only [List.setIfInBounds_toArray, List.set_cons_zero, List.set_cons_succ])))
              refine wpPerm_done ?_
              have hbk : Below wb25.heap.size wb25 wc26 := Below.trans (Below.refl _ _).drew hbf
              have hbr : Below wr.heap.size wr wc26 := ev.bch0 hbr hbk
              clear hbk hbf hbw hfar hgw he hbc hI hsa hsb hcl hlo hba hlo1 hhi1
              have D := fun w' (h : Below wc26.heap.size wc26.drew w') => qe w' (ev.bch0 hbr (Below.trans (Below.refl _ _).drew h))
              go_wp2_with fail
              refine wp_region_mix1 ⟨10, 23, fun g => .pointer (some ⟨g, 0, none⟩), .cells #[.int .i64 0, .int .i64 0, .string ⟨#[]⟩] 30⟩
                [(0, true), (1, true), (2, true), (3, true), (5, true)] [(4, false), (6, false), (7, true), (8, true), (9, true)] [(11, false), (12, true)] (by kernel_rfl) (by kernel_rfl) ?_
              repeat ((with_reducible show wpI _ _ _ _ _ ((_, true) :: _) _ _); (first | (refine wpI_on (v := ?_) rfl rfl (wanted_free rfl) (fun w' hS => ?_) ?_; rotate_left; (focus (go_simp; (try with_reducible rfl); done)); try simp only [List.setIfInBounds_toArray, List.set_cons_zero, List.set_cons_succ]) | (refine wpI_on (v := ?_) rfl rfl (wanted_yes rfl rfl rfl) (fun w' hS => ?_) ?_; rotate_left; (focus (go_simp; (try with_reducible rfl); done)); try simp only [List.setIfInBounds_toArray, List.set_cons_zero, List.set_cons_succ]) | (refine wpI_off rfl rfl (wanted_no rfl rfl rfl) ?_; try simp only [List.setIfInBounds_toArray, List.set_cons_zero, List.set_cons_succ]) | (refine wpI_off rfl rfl (wanted_undef rfl rfl rfl) ?_; try simp only [List.setIfInBounds_toArray, List.set_cons_zero, List.set_cons_succ])))
              refine wpI_done ⟨?_, ?_⟩
              · intro t ht
                simp only [List.mem_cons, List.not_mem_nil, or_false] at ht
                subst ht
                exact ⟨_, rfl, rfl, wanted_free rfl, fun w => by go_simp⟩
              clear D
              refine wpI_do rfl (wanted_free rfl) (fun wI hI hSI K hK => ?_); go_simp
              refine (cols_ _).mono ?_
              rintro e wa27 ⟨gc, rfl, hcl, hlo, hba⟩
              refine hK.out _ _ hba ?_
              clear hK K
              have hsa : Below wc26.heap.size wc26.drew wa27 := Below.trans hSI (Below.mono hba hSI.size)
              clear hI hSI
              refine wpI_do rfl (wanted_free rfl) (fun wI hI hSI K hK => ?_); go_simp
              have hsb : Below wc26.heap.size wc26 wI := Below.trans (Below.refl _ _).drew hSI
              refine (rvalue4 ej Aj Nj cj _ _ vs Ar cr gc HVG.out HEJ.out (by omega) (nds_at HNDJ.out (ev.bch0 hbx (ev.bch0 hbr hsb))) (hcl.ext hI) HVL.out HRV.out (vals_at HVV.out (ev.bch0 hbx (ev.bch0 hbr hsb))) HNF.out).mono ?_
              rintro e wb27 ⟨rfl, hbc⟩
              refine hK.out _ _ hbc ?_
              clear hK K
              repeat ((with_reducible show wpI _ _ _ _ _ ((_, true) :: _) _ _); (first | (refine wpI_on (v := ?_) rfl rfl (wanted_free rfl) (fun w' hS => ?_) ?_; rotate_left; (focus (go_simp; (try with_reducible rfl); done)); try simp only [List.setIfInBounds_toArray, List.set_cons_zero, List.set_cons_succ]) | (refine wpI_on (v := ?_) rfl rfl (wanted_yes rfl rfl rfl) (fun w' hS => ?_) ?_; rotate_left; (focus (go_simp; (try with_reducible rfl); done)); try simp only [List.setIfInBounds_toArray, List.set_cons_zero, List.set_cons_succ]) | (refine wpI_off rfl rfl (wanted_no rfl rfl rfl) ?_; try simp only [List.setIfInBounds_toArray, List.set_cons_zero, List.set_cons_succ]) | (refine wpI_off rfl rfl (wanted_undef rfl rfl rfl) ?_; try simp only [List.setIfInBounds_toArray, List.set_cons_zero, List.set_cons_succ])))
              refine wpI_done ?_
              intro g1 wf he hbf hlo1 hhi1 hat1
              have B27 : Blk wf g1 30 #[.int .i64 0, .int .i64 0, .string ⟨#[]⟩] := hat1
              clear hat1
              have q := B27.three (Below.refl _ _)
              have f := B27.free3
              refine wpPerm_do rfl (wanted_free rfl) (fun K hK => ?_); go_simp
              clear q f
              obtain ⟨wc27, hw, B27, hbw, hfar, hgw⟩ := B27.set3 (.int .i64 vk) (.int .i64 vn) (.string vt)
              rw [← hw]
              clear hw
              have hbf := Below.trans hbf (hbw _ hlo1)
              refine hK.out _ _ hbf ?_
              clear hK K
              repeat ((with_reducible show wpPerm _ _ _ _ ((_, true) :: _) _ _); (first | (refine wpPerm_on (v := ?_) rfl rfl (wanted_free rfl) (fun w' hS => ?_) ?_; rotate_left; (focus (go_simp; (try with_reducible rfl); done)); try simp only [List.setIfInBounds_toArray, List.set_cons_zero, List.set_cons_succ]) | (refine wpPerm_on (v := ?_) rfl rfl (wanted_yes rfl rfl rfl) (fun w' hS => ?_) ?_; rotate_left; (focus (go_simp; (try with_reducible rfl); done)); try simp only [List.setIfInBounds_toArray, List.set_cons_zero, List.set_cons_succ]) | (refine wpPerm_off rfl rfl (wanted_no rfl rfl rfl) ?_; try simp only [List.setIfInBounds_toArray, List.set_cons_zero, List.set_cons_succ]) | (refine wpPerm_off rfl rfl (wanted_undef rfl rfl rfl) ?_; try simp only [List.setIfInBounds_toArray, List.set_cons_zero, List.set_cons_succ])))
              refine wpPerm_done ?_
              have hbk : Below wc26.heap.size wc26 wc27 := Below.trans (Below.refl _ _).drew hbf
              have hbr : Below wr.heap.size wr wc27 := ev.bch0 hbr hbk
              have B26 := B26.ext hbk
              clear hbk hbf hbw hfar hgw he hbc hI hsa hsb hcl hlo hba hlo1 hhi1
              have q26 := B26.three (Below.refl _ _)
              have q27 := B27.three (Below.refl _ _)
              go_wp2_with fail
              go_roundw
              case rel => exact ⟨j + 1, by omega, by go_num, ev.bch0 hbx hbr⟩
              case measure => simp [intOf]; omega
            · have hd : decide ((j : Int) < 3) = false := by simp; omega
              go_wp2
              go_ret
              exact ⟨rfl, ev.bch0 hbF hbx⟩
end Go.Proofs.Ytfgmlgflfagdjaa.ev
