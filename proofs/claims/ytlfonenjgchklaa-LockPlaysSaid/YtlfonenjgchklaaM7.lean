/- Contract: ringsOf. -/
import Derived.Test.YtlfonenjgchklaaM6
import Derived.Maps.RangeWalk
import Derived.Maps.GroupsBeside
import Derived.Maps.Views
namespace Go.Proofs.Ytlfonenjgchklaa.lk
open Go.ChangeShapes Go.WideShapes Go.ChangeAt Go.RowKit Go.Proofs.Ytlfonenjgchklaa.lib
set_option linter.unusedVariables false

theorem lawI : Maps.Keyed Try.prog 3 := Maps.int_keyed Try.underlying3
def intsOf : DataW Unit → List Int
  | .slice l _ => l.filterMap fun d => match d with | .lit (.int _ z) => some z | _ => none
  | _ => []
theorem intsOf_lits (zs : List Int) : intsOf (.slice (lits .i64 zs) []) = zs := by
  unfold intsOf lits
  induction zs with
  | nil => rfl
  | cons z r ih => simp only [List.map_cons, List.filterMap_cons]; exact congrArg (z :: ·) ih
def bd (z : Int) : Prop := -9223372036854775808 ≤ z ∧ z ≤ 9223372036854775807
theorem bd_wf {z : Int} (h : bd z) : (Lit.int .i64 z).wf = true := by
  unfold bd at h
  simp [Lit.wf, IntKind.min, IntKind.max, IntKind.signed, IntKind.bits]; omega
/-- whom the sessions of ws that are z are held up by -/
def edges (ws hs : List Hd) (z : Int) : List Int := (ws.filter fun o => o.s == z).flatMap fun o => (hs.filter (agB o)).map Hd.s
/-- the map of who is held up by whom reads as F -/
def Gr (w : World) (b base n : Nat) (F : Int → List Int) : Prop := ∃ D : DataW Unit, w.ownsGroups Try.prog 3 base 3 .i64 b n D ∧ Maps.IsMap D ∧ ∀ z, bd z → intsOf (D.atKey (.int .i64 z) .nil) = F z
theorem wp_lookup_run {P : Program} {w : World} {o : Oper} {a : Act} {K : Act → World → Prop} {Q : Exit → Act → World → Prop} (m x : Operand) (t : TypeId) (ho : o.op = Op.lookup t m x false) (vm vx : Value) (hm : a.eval m = vm) (hx : a.eval x = vx) (v' : Value)
    (hr : (Instr.lookup t vm vx false).run P w = .ok v' w) (h : K (a.put o.dst v') w) : o.wp P a w K Q := by
  unfold Oper.wp
  simp [execOp, ho, hm, hx, hr, Result.andThen]
  exact h
theorem wp_mapUpdate_run {P : Program} {w w' : World} {o : Oper} {a : Act} {K : Act → World → Prop} {Q : Exit → Act → World → Prop} (m x v : Operand) (t : TypeId) (ho : o.op = Op.mapUpdate t m x v) (vm vx vv : Value) (hm : a.eval m = vm) (hx : a.eval x = vx) (hv : a.eval v = vv)
    (hr : (Instr.mapUpdate t vm vx vv).run P w = .ok () w') (h : K (a.put o.dst undef) w') : o.wp P a w K Q := by
  unfold Oper.wp
  simp [execOp, ho, hm, hx, hv, hr, Result.andThen]
  exact h
theorem intsOf_row {w : World} {base : Nat} {e : TypeId} {v : Value} {zs : List Int} (h : w.ownsInts base e .i64 v zs) : intsOf (rowDatum .i64 v zs) = zs := by
  rcases h.1.2 with ⟨rfl, h0⟩ | ⟨g, cap, cur, rfl, _⟩
  · have : zs = [] := List.length_eq_zero_iff.1 h0
    subst this
    rfl
  · exact intsOf_lits zs
theorem Gr.congr {w : World} {b base n : Nat} {F F' : Int → List Int} (h : Gr w b base n F) (he : ∀ z, F z = F' z) : Gr w b base n F' := by
  obtain ⟨D, h1, h2, h3⟩ := h
  exact ⟨D, h1, h2, fun z hz => (h3 z hz).trans (he z)⟩
theorem Gr.ext {w w' : World} {b base n : Nat} {F : Int → List Int} (h : Gr w b base n F) (hb : Below w.heap.size w w') : Gr w' b base n F := by
  obtain ⟨D, h1, h2, h3⟩ := h
  exact ⟨D, h1.kept (row := none) ⟨hb.os, hb.tape, hb.output, hb.size, fun k hk _ => hb.block k hk⟩ (by simp) (h1.rowsAbove (fun j hj => by cases hj)), h2, h3⟩
/-- .. one block below the rows may turn -/
theorem Gr.kept {w w' : World} {b base n g : Nat} {F : Int → List Int} (h : Gr w b base n F) (hg : w.grownBy w' (some g)) (hb : b ≠ g) (hgb : g < base) : Gr w' b base n F := by
  obtain ⟨D, h1, h2, h3⟩ := h
  exact ⟨D, h1.kept hg (fun e => hb (by injection e)) (h1.rowsAbove (fun j hj => by injection hj with hj; omega)), h2, h3⟩
/-- one more behind s -/
theorem gr_put {w w2 w3 : World} {b base n : Nat} {F : Int → List Int} {D : DataW Unit} {s y : Int} {v v' : Value} {zs : List Int} (hm : Maps.IsMap D) (hF : ∀ z, bd z → intsOf (D.atKey (.int .i64 z) .nil) = F z) (hs : bd s)
    (hat : D.atKey (.int .i64 s) .nil = rowDatum .i64 v zs) (ho : w.ownsInts base 3 .i64 v zs) (ho' : w3.ownsInts base 3 .i64 v' (zs ++ [y])) (h : w2.ownsGroups Try.prog 3 base 3 .i64 b n (D.put (.int .i64 s) (rowDatum .i64 v' (zs ++ [y])))) :
    Gr w2 b base n (fun z => F z ++ (if s = z then [y] else [])) := by
  refine ⟨_, h, hm.put _ _, fun z hz => ?_⟩
  have hkey := lawI.key (Maps.keyOf_int_mk Try.underlying3 (bd_wf hs))
  have hzs : zs = F s := by rw [← hF s hs, hat, intsOf_row ho]
  show _ = F z ++ (if s = z then [y] else [])
  by_cases e : s = z
  · subst e
    rw [Maps.atKey_put_same hm hkey, if_pos rfl, intsOf_row ho', hzs]
  · rw [Maps.atKey_put_other (fun h => e (by injection h with h1 h2; exact h2.symm)), if_neg e, List.append_nil, hF z hz]
theorem Gr.made {w : World} {b base : Nat} (h : w.heap[b]? = some (.map #[] 0)) (hb : b < base) : Gr w b base 0 (fun _ => []) :=
  ⟨.map [], ⟨#[], 0, h, ⟨by simp, MapKept.stamped_empty 0, by simp⟩, Nat.le_refl _, rfl, hb, by simp, by simp⟩, Maps.isMap_empty, fun z _ => rfl⟩
theorem edges_snoc (ws hs : List Hd) (k : Nat) (x : Hd) (z : Int) (h : ws[k]? = some x) : edges (ws.take (k + 1)) hs z = edges (ws.take k) hs z ++ (if x.s = z then (hs.filter (agB x)).map Hd.s else []) := by
  have e : ws.take (k + 1) = ws.take k ++ [x] := by
    rw [List.take_add_one, h]; rfl
  unfold edges
  rw [e, List.filter_append, List.flatMap_append]
  congr 1
  by_cases hx : x.s = z
  · simp [hx]
  · simp [hx]
def half (hs : List Hd) (x : Hd) (j : Nat) (z : Int) : List Int := if x.s = z then ((hs.take j).filter (agB x)).map Hd.s else []
theorem half_yes (hs : List Hd) (x y : Hd) (j : Nat) (z : Int) (h : hs[j]? = some y) (ha : agB x y = true) : half hs x (j + 1) z = half hs x j z ++ (if x.s = z then [y.s] else []) := by
  have e : hs.take (j + 1) = hs.take j ++ [y] := by
    rw [List.take_add_one, h]; rfl
  unfold half
  rw [e, List.filter_append, List.filter_cons_of_pos ha]
  by_cases hx : x.s = z <;> simp [hx]
theorem half_no (hs : List Hd) (x y : Hd) (j : Nat) (z : Int) (h : hs[j]? = some y) (ha : agB x y = false) : half hs x (j + 1) z = half hs x j z := by
  have e : hs.take (j + 1) = hs.take j ++ [y] := by
    rw [List.take_add_one, h]; rfl
  unfold half
  rw [e, List.filter_append, List.filter_cons_of_neg (by simp [ha])]
  simp
theorem zeroInts (w : World) : (zeroValue 66).run Try.prog w = .ok (.slice none 0 0) w := by kernel_rfl
/-- a row of numbers is no block of another kind -/
theorem own_ne_t {w : World} {base g n : Nat} {t : TypeId} {v : Value} {xs : List Value} {cs : Array Value} (h : w.ownsRow base 3 1 v n xs) (hB : Blk w g t cs) (ht : 3 ≠ t) : some g ≠ v.ownBlock := by
  rcases h.2 with ⟨rfl, _⟩ | ⟨g', cap, cur, rfl, _, hgg, _⟩
  · simp [Value.ownBlock]
  · intro e
    simp [Value.ownBlock] at e
    subst e
    unfold Blk at hB
    rw [hB] at hgg
    injection hgg with h1
    injection h1 with h2 h3
    exact ht h3.symm
/-- what every world of a round meets -/
structure SR (g b bx by_ N : Nat) (x y : Hd) (w : World) : Prop where
  rg : Blk w g 79 #[.map (some b), .int .i64 0]
  x : Blk w bx 30 x.arr
  y : Blk w by_ 30 y.arr
  n : N ≤ w.heap.size
/-- the map is in block b, the rings in block g, at whatever count -/
def Rg (w : World) (g b : Nat) : Prop := ∃ z : Int, Blk w g 79 #[.map (some b), .int .i64 z]
/-- the rings in block g, from base0 on: who is held up by whom is F -/
def RgR (w : World) (g base0 : Nat) (F : Int → List Int) : Prop := ∃ b base m z, Blk w g 79 #[.map (some b), .int .i64 z] ∧ base0 ≤ b ∧ b < g ∧ g < base ∧ base ≤ w.heap.size ∧ m ≤ 1000000 ∧ Gr w b base m F
def RgP (F : Int → List Int) (w : World) (e : Ending) (w' : World) : Prop := ∃ g, e = .returned (.pointer (some ⟨g, 0, none⟩)) ∧ RgR w' g w.heap.size F ∧ Below w.heap.size w w'
set_option maxHeartbeats 2000000 in
theorem rings_ (L : Lk) (v : Value) (w : World) (hL : LkR w v L) (h1 : L.hs.length ≤ 1000) (h2 : L.ws.length ≤ 1000) (hbd : ∀ o ∈ L.hs, bd o.s) (hbd' : ∀ o ∈ L.ws, bd o.s) :
    Calls Try.prog 28 #[v] w (RgP (edges L.ws L.hs) w) := by
  obtain ⟨A, n, c, A', n', c', rfl, e1, r1, e2, r2⟩ := hL
  have hmm := fun W => run_makeMap (P := Try.prog) 72 W
  have hn : n ≤ 1000 := by omega
  have hn' : n' ≤ 1000 := by omega
  have E1 := Lib.hid e1
  have E2 := Lib.hid e2
  have HB := Lib.hid hbd
  have HB' := Lib.hid hbd'
  clear e1 e2 h1 h2 hbd hbd'
  go_enter Try.func28, Try.ntmps28
  go_wp2_with fail
  obtain ⟨W, hW_, hbW, B1, hM, B3⟩ : ∃ W_, W_ = ((w.alloc (.cells #[.slice A n c, .slice A' n' c'] 26)).alloc (.map #[] 0)).alloc (.cells #[.map (some (w.heap.size + 1)), .int .i64 0] 79) ∧ Below w.heap.size w W_ ∧
      Blk W_ w.heap.size 26 #[.slice A n c, .slice A' n' c'] ∧ W_.heap[w.heap.size + 1]? = some (.map #[] 0) ∧ Blk W_ (w.heap.size + 1 + 1) 79 #[.map (some (w.heap.size + 1)), .int .i64 0] := by
    refine ⟨_, rfl, (((Below.refl _ _).alloc (Nat.le_refl _) _).alloc (by simp) _).alloc (by simp; omega) _, ((Blk.new _ _ _).alloc _).alloc _, ?_, blk_new_at _ _ _ _ (by simp)⟩
    rw [Below.heap_alloc _ _ _ (by simp)]
    have := heap_alloc_new (w.alloc (.cells #[.slice A n c, .slice A' n' c'] 26)) (.map #[] 0)
    simpa using this
  rw [← hW_]
  clear hW_ hmm
  have hG := Gr.made hM (base := w.heap.size + 1 + 1 + 1) (by omega)
  have hWs : w.heap.size + 1 + 1 + 1 ≤ W.heap.size := B3.lt
  clear hM
  go_loopw [14] (fun i wr => ∃ (k m : Nat), i = .int .i64 k ∧ k ≤ n' ∧ m ≤ k * 1000 ∧ Below w.heap.size w wr ∧ w.heap.size + 1 + 1 + 1 ≤ wr.heap.size ∧ Blk wr w.heap.size 26 #[.slice A n c, .slice A' n' c'] ∧ Blk wr (w.heap.size + 1 + 1) 79 #[.map (some (w.heap.size + 1)), .int .i64 0] ∧
      Gr wr (w.heap.size + 1) (w.heap.size + 1 + 1 + 1) m (edges (L.ws.take k) L.hs)) (fun i _ => n' - (intOf i).toNat)
  case atStart => exact ⟨0, 0, rfl, Nat.zero_le _, Nat.zero_le _, hbW, hWs, B1, B3, hG.congr (fun z => by simp [edges])⟩
  case round =>
    obtain ⟨k, m, rfl, hk, hm, hbw, hsz, C1, C3, hGr⟩ := hrel
    clear hbW B1 B3 hG hWs
    rcases Nat.lt_or_ge k n' with hlt | hge
    · have hd : decide ((k : Int) < (n' : Int)) = true := by simp; omega
      obtain ⟨x, hx⟩ : ∃ x, L.ws[k]? = some x := ⟨_, List.getElem?_eq_getElem (by rw [E2.out]; exact hlt)⟩
      obtain ⟨g', rfl, hg'⟩ := r2.some_ (by rw [E2.out]; omega)
      have q := (r2.ext hbw).at_ hx
      have hxb : bd x.s := HB'.out x (List.mem_of_getElem? hx)
      have HX := Lib.hid hx
      clear hx
      have q1 := fun o => (C1.alloc o).cell 0
      go_wp2_with fail
      clear q1 q
      have hAx : Below wr.heap.size wr (wr.alloc (.cells #[.int .i64 x.s, .string x.t, .bool x.x] 30)) := (Below.refl _ _).alloc (Nat.le_refl _) _
      have CX0 : Blk (wr.alloc (.cells #[.int .i64 x.s, .string x.t, .bool x.x] 30)) wr.heap.size 30 x.arr := Blk.new _ _ _
      generalize hWx : wr.alloc (.cells #[.int .i64 x.s, .string x.t, .bool x.x] 30) = wx at *
      clear hWx
      have C3x := C3.ext hAx
      have C1x := C1.ext hAx
      have hGx := hGr.ext hAx
      have hbx := Below.trans hbw (Below.mono hAx hbw.size)
      have hszx : w.heap.size + 1 + 1 + 1 ≤ wx.heap.size := Nat.le_trans hsz hAx.size
      have hbxl := CX0.lt
      generalize hbx_ : wr.heap.size = bx at *
      go_loopw [21] (fun i wq => ∃ (j p : Nat), i = .int .i64 j ∧ j ≤ n ∧ p ≤ m + j ∧ Below w.heap.size w wq ∧ wx.heap.size ≤ wq.heap.size ∧ Blk wq w.heap.size 26 #[.slice A n c, .slice (some ⟨g', 0, none⟩) n' c'] ∧ Blk wq (w.heap.size + 1 + 1) 79 #[.map (some (w.heap.size + 1)), .int .i64 0] ∧ Blk wq bx 30 x.arr ∧
        Gr wq (w.heap.size + 1) (w.heap.size + 1 + 1 + 1) p (fun z => edges (L.ws.take k) L.hs z ++ half L.hs x j z)) (fun i _ => n - (intOf i).toNat)
      case atStart => exact ⟨0, m, rfl, Nat.zero_le _, by omega, hbx, Nat.le_refl _, C1x, C3x, CX0, hGx.congr (fun z => by simp [half])⟩
      case round =>
        obtain ⟨j, p, rfl, hj, hp, hbq, hszq, Q1, Q3, QX, hQ⟩ := hrel
        rcases Nat.lt_or_ge j n with hltj | hgej
        · have hdj : decide ((j : Int) < (n : Int)) = true := by simp; omega
          obtain ⟨y, hy⟩ : ∃ y, L.hs[j]? = some y := ⟨_, List.getElem?_eq_getElem (by rw [E1.out]; exact hltj)⟩
          obtain ⟨gA, rfl, hgA⟩ := r1.some_ (by rw [E1.out]; omega)
          have q := (r1.ext hbq).at_ hy
          have hyb : bd y.s := HB.out y (List.mem_of_getElem? hy)
          have HY := Lib.hid hy
          clear hy
          have qx := fun o => (QX.alloc o).three (Below.refl _ _)
          go_wp2_with fail
          refine (against_ x y _).mono ?_
          rintro e w2 ⟨rfl, hb2⟩
          have hAy : Below wr.heap.size wr (wr.alloc (.cells #[.int .i64 y.s, .string y.t, .bool y.x] 30)) := (Below.refl _ _).alloc (Nat.le_refl _) _
          have hxy := Below.trans hAy (Below.mono hb2 hAy.size)
          have CY : Blk w2 wr.heap.size 30 y.arr := (Blk.new _ _ _).ext hb2
          clear q qx hAy hb2
          have Q1 := Q1.ext hxy
          have Q3 := Q3.ext hxy
          have QX := QX.ext hxy
          have hQ := hQ.ext hxy
          have hbq2 := Below.trans hbq (Below.mono hxy hbq.size)
          have hszq2 := Nat.le_trans hszq hxy.size
          have hcy := CY.lt
          clear hxy
          obtain ⟨a, ha⟩ : ∃ a, agB x y = a := ⟨_, rfl⟩
          rw [ha]
          have HA := Lib.hid ha
          clear ha
          cases a with
          | true =>
            go_wp2_with fail
            have hS0 : SR (w.heap.size + 1 + 1) (w.heap.size + 1) bx wr.heap.size w2.heap.size x y w2.drew := ⟨Q3, QX, CY, Nat.le_refl _⟩
            have hSx : ∀ w1 w2', Ext w1 w2' → SR (w.heap.size + 1 + 1) (w.heap.size + 1) bx wr.heap.size w2.heap.size x y w1 → SR (w.heap.size + 1 + 1) (w.heap.size + 1) bx wr.heap.size w2.heap.size x y w2' := fun w1 w2' he h => ⟨h.rg.ext he, h.x.ext he, h.y.ext he, Nat.le_trans h.n he.size⟩
            have D := fun w' (h : SR (w.heap.size + 1 + 1) (w.heap.size + 1) bx wr.heap.size w2.heap.size x y w') => (show w'.cell? ⟨w.heap.size + 1 + 1, 0, none⟩ = some (.map (some (w.heap.size + 1))) ∧ w'.cell? ⟨bx, 0, none⟩ = some (.int .i64 x.s) ∧ w'.cell? ⟨wr.heap.size, 0, none⟩ = some (.int .i64 y.s) from ⟨h.rg.cell 0, h.x.cell 0, h.y.cell 0⟩)
            obtain ⟨i0, hi, hz0, hz1, hz2⟩ := info_parts (P := Try.prog) (e := 3) (z := .int .i64 0) (size := 1) (bytes := 8) (by kernel_rfl)
            refine wp_region_mixS1 (S := SR (w.heap.size + 1 + 1) (w.heap.size + 1) bx wr.heap.size w2.heap.size x y) ⟨15, 43, fun g => .slice (some ⟨g, 0, none⟩) 1 1, .cells #[.int .i64 y.s] 3⟩
              [(0, true), (1, true), (2, true), (3, true), (4, true), (5, true), (6, true), (7, true), (8, true), (9, true), (10, true), (11, true), (13, true), (14, true)] [(12, false)] [(16, false), (17, false)] (by kernel_rfl) (by kernel_rfl) hS0 hSx (fun _ h => h.n) ?_
            repeat ((with_reducible show wpI _ _ _ _ _ ((_, true) :: _) _ _); (first | (refine wpI_on (v := ?_) rfl rfl (wanted_free rfl) (fun w' hS => ?_) ?_; rotate_left; (focus (go_simp; (try with_reducible rfl); done)); try simp only [List.setIfInBounds_toArray, List.set_cons_zero, List.set_cons_succ]) | (refine wpI_on (v := ?_) rfl rfl (wanted_yes rfl rfl rfl) (fun w' hS => ?_) ?_; rotate_left; (focus (go_simp; (try with_reducible rfl); done)); try simp only [List.setIfInBounds_toArray, List.set_cons_zero, List.set_cons_succ]) | (refine wpI_off rfl rfl (wanted_no rfl rfl rfl) ?_; try simp only [List.setIfInBounds_toArray, List.set_cons_zero, List.set_cons_succ]) | (refine wpI_off rfl rfl (wanted_undef rfl rfl rfl) ?_; try simp only [List.setIfInBounds_toArray, List.set_cons_zero, List.set_cons_succ])))
            refine wpI_done ⟨?_, ?_⟩
            · intro u hu
              simp only [List.mem_cons, List.not_mem_nil, or_false] at hu
              subst hu
              exact ⟨_, rfl, rfl, wanted_free rfl, fun w => by go_simp⟩
            clear D
            refine wpI_do rfl (wanted_free rfl) (fun wI hI hSI K hK => ?_)
            obtain ⟨D, hD1, hD2, hD3⟩ := hQ.ext (w' := wI) (Below.trans (Below.refl _ _).drew hI)
            obtain ⟨v, zs, hrun, hat, hoi, hzl, hback⟩ := hD1.at lawI Try.underlying72 (zeroInts _) (by unfold maxLen; omega) (Maps.keyOf_int_mk Try.underlying3 (bd_wf hxb))
            refine wp_lookup_run _ _ _ rfl _ _ rfl rfl _ hrun ?_
            refine hK.out _ _ (Below.refl _ _) ?_
            clear hK K hrun
            go_simp
            refine wpI_done ?_
            intro g1 wf he hS hlo1 hhi1 hat1
            try simp only [List.setIfInBounds_toArray, List.set_cons_zero, List.set_cons_succ]
            have hg1 : Blk wf g1 3 #[.int .i64 y.s] := hat1
            clear hat1
            have hszI : w2.heap.size ≤ wI.heap.size := hI.size
            have hszf : wI.heap.size ≤ wf.heap.size := he.size
            have hof := own_ext hoi.1 he
            obtain ⟨v', w3, hr, h2, h3, h4, h5⟩ := run_append_own_at (P := Try.prog) (w := wf) (w.heap.size + 1 + 1 + 1) 66 66 3 i0 _ 1 8 Try.underlying66 hi hz0 hz1 hz2 rfl (by decide) v zs.length (zs.map (.int .i64)) hof ⟨g1, 0, none⟩ 1 1 [.int .i64 y.s] rfl
              (by
                intro j u hj
                match j, hj with
                | 0, hj =>
                  simp at hj
                  subst hj
                  exact hg1.cell 0) (by intro u hu; simp at hu; subst hu; rfl) (by unfold maxLen; omega) (by omega) (by omega)
            have e3 : ∀ g t (cs : Array Value), Blk wf g t cs → 3 ≠ t → Blk w3 g t cs := fun g t cs hB ht => hB.grown h3 (own_ne_t hof hB ht)
            refine wpPerm_do rfl (wanted_free rfl) (fun K hK => ?_)
            refine Lib.wp_append_run _ _ _ _ _ rfl _ _ rfl rfl v' w3 hr ?_
            refine hK.out _ _ ⟨e3 _ _ _ hS.rg (by decide), e3 _ _ _ hS.x (by decide), e3 _ _ _ hS.y (by decide), by have := h3.size; omega⟩ ?_
            clear hK K hr
            have hown' : w3.ownsInts (w.heap.size + 1 + 1 + 1) 3 .i64 v' (zs ++ [y.s]) := ⟨by simpa using h2, fun z hz => by
              rcases List.mem_append.1 hz with hz | hz
              · exact hoi.2 z hz
              · simp at hz; subst hz; exact bd_wf hyb⟩
            have hIf : wI.grownBy wf v.ownBlock := ⟨he.os, he.tape, he.output, he.size, fun k hk _ => he.block k hk⟩
            obtain ⟨w4, hrun4, r1', r2'⟩ := hback w3 v' (zs ++ [y.s]) (World.grownBy.trans hIf h3) hown' (by simp; omega) (by
              rcases h5 with h5 | h5
              · exact .inl h5
              · exact .inr ⟨_, h5, he.size⟩)
            have hGn := gr_put hD2 hD3 hxb hat hoi hown' r1'
            have e4 : ∀ g t (cs : Array Value), g ≠ w.heap.size + 1 → Blk w3 g t cs → Blk w4 g t cs := fun g t cs hne hB => hB.grown r2' (by simpa using hne)
            have hbxw : w.heap.size + 1 + 1 + 1 ≤ bx := by omega
            refine wpPerm_do rfl (wanted_free rfl) (fun K hK => ?_)
            refine wp_mapUpdate_run _ _ _ _ rfl _ _ _ rfl rfl rfl hrun4 ?_
            have Q1' : Blk w4 w.heap.size 26 #[.slice (some ⟨gA, 0, none⟩) n c, .slice (some ⟨g', 0, none⟩) n' c'] := e4 _ _ _ (by omega) (e3 _ _ _ ((Q1.ext (Below.trans (Below.refl _ _).drew hI)).ext he) (by decide))
            have Q3' := e4 _ _ _ (by omega) (e3 _ _ _ hS.rg (by decide))
            have QX' := e4 _ _ _ (by omega) (e3 _ _ _ hS.x (by decide))
            have hs4 : wx.heap.size ≤ w4.heap.size := by have := h3.size; have := r2'.size; omega
            have hb4 : Below w.heap.size w w4 := ((Below.trans (Below.trans hbq2.drew (Below.mono hI hbq2.size)) (Below.mono he (by have := hbq2.size; omega))).grown h3 (by have := hbq2.size; omega) (fun k hk => by have := (hof.lt k hk).1; omega)).grown r2' (by have := hbq2.size; have := h3.size; omega) (fun k hk => by injection hk with hk; omega)
            refine hK.out _ _ ⟨Q3', QX', e4 _ _ _ (by omega) (e3 _ _ _ hS.y (by decide)), by have := h3.size; have := r2'.size; omega⟩ (wpPerm_done ?_)
            clear hK K hrun4 hback e3 e4 hS hIf
            go_simp
            go_wp2
            go_roundw
            case rel =>
              exact ⟨j + 1, p + 1, by go_num, by omega, by omega, hb4, hs4, Q1', Q3', QX', hGn.congr (fun z => by rw [half_yes L.hs x y j z HY.out HA.out, List.append_assoc])⟩
            case measure => simp [intOf]; omega
          | false =>
            go_wp2
            go_roundw
            case rel =>
              exact ⟨j + 1, p, by go_num, by omega, by omega, hbq2, hszq2, Q1, Q3, QX, hQ.congr (fun z => by rw [half_no L.hs x y j z HY.out HA.out])⟩
            case measure => simp [intOf]; omega
        · have hdj : decide ((j : Int) < (n : Int)) = false := by simp; omega
          have hjn : j = n := by omega
          have htk : L.hs.take j = L.hs := List.take_of_length_le (by rw [E1.out, hjn]; exact Nat.le_refl _)
          have hQ2 : Gr _ _ _ p (edges (L.ws.take (k + 1)) L.hs) := hQ.congr (fun z => by rw [edges_snoc L.ws L.hs k x z HX.out]; unfold half; rw [htk])
          clear htk hjn
          go_wp2
          exact ⟨⟨k + 1, p, by go_num, by omega, by omega, hbq, Nat.le_trans hszx hszq, Q1, Q3, hQ2⟩, by simp [intOf]; omega⟩
    · have hd : decide ((k : Int) < (n' : Int)) = false := by simp; omega
      have hkn : k = n' := by omega
      have htk : L.ws.take k = L.ws := List.take_of_length_le (by rw [E2.out, hkn]; exact Nat.le_refl _)
      rw [htk] at hGr
      clear htk hkn
      go_wp2
      go_ret
      exact ⟨_, rfl, ⟨_, _, m, 0, C3, by omega, by omega, by omega, hsz, by omega, hGr⟩, hbw⟩
end Go.Proofs.Ytlfonenjgchklaa.lk
