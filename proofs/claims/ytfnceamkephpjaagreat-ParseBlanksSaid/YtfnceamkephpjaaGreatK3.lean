/- Contract: put. -/
import Derived.Test.YtfnceamkephpjaaGreatK2
import Derived.Laws.AppendOwn
import Derived.Deep.AppendLies
import Derived.Maps.AppendAt
namespace Go.Proofs.YtfnceamkephpjaaGreat.lx
open Go.ChangeShapes Go.WideShapes Go.ChangeAt Go.RowKit Go.Proofs.YtfnceamkephpjaaGreat.lib
set_option linter.unusedVariables false

def cellsW (ws : List Wd) : List Value := ws.flatMap fun x => [.int .i64 x.k, .int .i64 x.n, .string ⟨x.s.toArray⟩]
set_option maxRecDepth 100000 in
theorem cellsW_snoc (ws : List Wd) (x : Wd) : cellsW (ws ++ [x]) = cellsW ws ++ [.int .i64 x.k, .int .i64 x.n, .string ⟨x.s.toArray⟩] := by simp [cellsW]
set_option maxRecDepth 100000 in
theorem drop_mk (l : List UInt8) (n : Nat) (h : n ≤ l.length) : (ByteArray.mk l.toArray).extract n l.length = ⟨(l.drop n).toArray⟩ := by
  apply ByteArray.ext
  rw [ByteArray.data_extract]
  simp
  exact List.take_of_length_le (by simp)
set_option maxRecDepth 100000 in
theorem own_ext {w w' : World} {base : Nat} {e : TypeId} {size n : Nat} {v : Value} {xs : List Value} (h : w.ownsRow base e size v n xs) (hb : Below w.heap.size w w') : w'.ownsRow base e size v n xs := by
  refine h.kept (w' := w') (row := none) ⟨hb.os, hb.tape, hb.output, hb.size, fun k hk _ => hb.block k hk⟩ ?_
  cases ho : v.ownBlock with
  | none => exact .inl rfl
  | some b => exact .inr (by simp)
set_option maxRecDepth 100000 in
/-- a store into another block of another kind -/
theorem own_far {w : World} {base : Nat} {e t : TypeId} {size n g : Nat} {v : Value} {xs : List Value} {cs : Array Value} (h : w.ownsRow base e size v n xs) (hb : Blk w g t cs) (hne : e ≠ t) (i : Nat) (u : Value) : (w.setCell ⟨g, i, none⟩ u).ownsRow base e size v n xs := by
  have h1 := own_ne h hb hne
  refine h.kept (row := some g) ⟨by simp [World.setCell], by simp [World.setCell], by simp [World.setCell], by simp [World.setCell], fun k hk hkg => Below.heap_setCell w _ u k (fun e => hkg (by rw [e]))⟩ (.inr (Ne.symm h1))
set_option maxRecDepth 100000 in
theorem three_at {w : World} {g : Nat} {t : TypeId} {x y z : Value} (h : Blk w g t #[x, y, z]) : ∀ j u, [x, y, z][j]? = some u → w.cell? ((⟨g, 0, none⟩ : Addr).add j) = some u := by
  intro j u hj
  have hj3 : j < 3 := (List.getElem?_eq_some_iff.1 hj).1
  have e : (⟨g, 0, none⟩ : Addr).add j = ⟨g, j, none⟩ := by unfold Addr.add; split <;> simp_all
  rw [e, h.cell]
  match j, hj3, hj with
  | 0, _, hj => exact hj
  | 1, _, hj => exact hj
  | 2, _, hj => exact hj
def PutP (g base : Nat) (l : List UInt8) (ws : List Wd) (w : World) (r : Ending) (w' : World) : Prop :=
  r = .returned (.tuple #[]) ∧ ∃ out, Blk w' g 81 (wk l out 0 0) ∧ w'.ownsRow base 57 3 out ws.length (cellsW ws) ∧ Below base w w'

set_option maxRecDepth 100000 in
set_option maxHeartbeats 2000000 in
theorem put_ (g base n : Nat) (l : List UInt8) (ws : List Wd) (x : Wd) (out : Value) (w : World) (h : Blk w g 81 (wk l out 0 0)) (ho : w.ownsRow base 57 3 out ws.length (cellsW ws))
    (hn : n ≤ l.length) (hl : l.length ≤ 100000) (hw : ws.length ≤ 100000) (hbg : base ≤ g) (hbw : base ≤ w.heap.size) :
    Calls Tryz.prog 40 #[.pointer (some ⟨g, 0, none⟩), .agg #[.int .i64 x.k, .int .i64 x.n, .string ⟨x.s.toArray⟩], .int .i64 n] w (PutP g base (l.drop n) (ws ++ [x]) w) := by
  obtain ⟨xk, xn, xs⟩ := x
  obtain ⟨N, hN⟩ : ∃ N, ws.length = N := ⟨_, rfl⟩
  rw [hN] at ho hw
  have HN := Lib.hid hN
  clear hN
  have hglt := h.lt
  have hne := own_ne ho h (by decide)
  have HO := Lib.hid ho
  clear ho
  obtain ⟨i0, hi, hz0, hz1, hz2⟩ := info_parts (P := Tryz.prog) (e := 57) (z := .agg #[.int .i64 0, .int .i64 0, .string ⟨#[]⟩]) (size := 3) (bytes := 32) (by kernel_rfl)
  go_enter Tryz.func40, Tryz.ntmps40
  go_wp2_with fail
  obtain ⟨W, hW_, hbW, B1⟩ : ∃ W_, W_ = (w.alloc (.cells #[.int .i64 xk, .int .i64 xn, .string ⟨xs.toArray⟩] 57)) ∧ Below w.heap.size w W_ ∧ Blk W_ (w.heap.size) 57 #[.int .i64 xk, .int .i64 xn, .string ⟨xs.toArray⟩] :=
    ⟨_, rfl, ((Below.refl _ _).alloc (Nat.le_refl _) _), (blk_new_at w (w.heap.size) _ _ (by simp))⟩
  rw [← hW_]
  clear hW_
  have hws := hbW.size
  have hW := h.ext hbW
  unfold wk at hW
  have q1 := six hW (Below.refl _ _)
  have D := fun w' (hS : Blk w' w.heap.size 57 #[.int .i64 xk, .int .i64 xn, .string ⟨xs.toArray⟩]) => Blk.three hS (Below.refl _ _)
  refine wp_region_tree (S := fun w' => Blk w' w.heap.size 57 #[.int .i64 xk, .int .i64 xn, .string ⟨xs.toArray⟩]) (.take 0 (.take 1 (.take 2 (.take 3 (.take 5 (.two 4 6 (.one 6 (.one 7 (.take 8 (.take 9 (.one 10 .nil))))) (.one 4 (.one 7 (.take 8 (.take 9 (.one 10 .nil)))))))))))
    (by kernel_rfl) (by kernel_rfl) (by kernel_rfl) (by decide) (by intro c a d v w h; cases d <;> exact h) B1 ?_
  repeat ((with_reducible show wpTree _ _ _ _ (.take _ _) _ _); (first | (refine wpTree_on (v := ?_) rfl rfl (wanted_free rfl) (fun w' hS => ?_) ?_; rotate_left; (focus (go_simp; (try with_reducible rfl); done)); try simp only [List.setIfInBounds_toArray, List.set_cons_zero, List.set_cons_succ]) | (refine wpTree_on (v := ?_) rfl rfl (wanted_yes rfl rfl rfl) (fun w' hS => ?_) ?_; rotate_left; (focus (go_simp; (try with_reducible rfl); done)); try simp only [List.setIfInBounds_toArray, List.set_cons_zero, List.set_cons_succ]) | (refine wpTree_off rfl rfl (wanted_no rfl rfl rfl) ?_; try simp only [List.setIfInBounds_toArray, List.set_cons_zero, List.set_cons_succ]) | (refine wpTree_off rfl rfl (wanted_undef rfl rfl rfl) ?_; try simp only [List.setIfInBounds_toArray, List.set_cons_zero, List.set_cons_succ])))
  refine wpTree_both rfl (wanted_free rfl) rfl (wanted_free rfl) (fun K hK => ?_) (fun K hK => ?_)
  · go_simp
    refine hK.out _ _ B1 ?_
    clear hK K
    refine wpTree_do rfl (wanted_free rfl) (fun K hK => ?_); go_simp
    refine hK.out _ _ (Blk.drew (B1.alloc _)) ?_
    clear hK K
    have B2 : Blk ((W.alloc (.cells #[.int .i64 xk, .int .i64 xn, .string ⟨xs.toArray⟩] 57)).drew) W.heap.size 57 #[.int .i64 xk, .int .i64 xn, .string ⟨xs.toArray⟩] := Blk.drew (Blk.new W _ _)
    have hb2 : Below w.heap.size w ((W.alloc (.cells #[.int .i64 xk, .int .i64 xn, .string ⟨xs.toArray⟩] 57)).drew) := (hbW.alloc hbW.size _).drew
    have hG2 : Blk ((W.alloc (.cells #[.int .i64 xk, .int .i64 xn, .string ⟨xs.toArray⟩] 57)).drew) g 81 #[.string ⟨l.toArray⟩, out, .int .u32 0, .int .i32 0, .int .u32 0, .int .i64 0] := Blk.drew (hW.alloc _)
    have B1' : Blk ((W.alloc (.cells #[.int .i64 xk, .int .i64 xn, .string ⟨xs.toArray⟩] 57)).drew) w.heap.size 57 #[.int .i64 xk, .int .i64 xn, .string ⟨xs.toArray⟩] := Blk.drew (B1.alloc _)
    generalize hw2 : ((W.alloc (.cells #[.int .i64 xk, .int .i64 xn, .string ⟨xs.toArray⟩] 57)).drew) = w2 at *
    have hgw : W.heap.size < w2.heap.size := B2.lt
    clear hw2
    refine wpTree_do rfl (wanted_free rfl) (fun K hK => ?_)
    refine wp_append_own _ (.tmp 10) (.tmp 12) 47 rfl base 57 i0 _ 3 32 Tryz.underlying47 hi hz0 hz1 hz2 rfl (by decide) out N (cellsW ws) rfl (own_ext HO.out hb2) ⟨W.heap.size, 0, none⟩ 1 1
      [.int .i64 xk, .int .i64 xn, .string ⟨xs.toArray⟩] rfl rfl (three_at B2) (by intro u hu; simp at hu; rcases hu with rfl | rfl | rfl <;> rfl) (by unfold maxLen; omega) (by omega) (by omega) (fun v' w3 h2 h3 h4 => ?_)
    obtain ⟨gv, cv, rfl, hgv, hgv2⟩ := h2.form (by omega)
    clear h4
    have hlo := fun k hk => (HO.out.lt k hk).2
    have hB1 : some w.heap.size ≠ out.ownBlock := fun e => by have := hlo _ e.symm; omega
    have B1w := B1'.grown h3 hB1
    have hGw := hG2.grown h3 hne
    have hb3 : Below base w w3 := (Below.mono hb2 hbw).grown h3 (by have := hb2.size; omega) (fun k hk => (HO.out.lt k hk).1)
    refine hK.out _ _ B1w ?_
    clear hK K hlo D
    have D := fun w' (hS : Blk w' w.heap.size 57 #[.int .i64 xk, .int .i64 xn, .string ⟨xs.toArray⟩]) => Blk.three hS (Below.refl _ _)
    repeat ((with_reducible show wpTree _ _ _ _ (.take _ _) _ _); (first | (refine wpTree_on (v := ?_) rfl rfl (wanted_free rfl) (fun w' hS => ?_) ?_; rotate_left; (focus (go_simp; (try with_reducible rfl); done))) | (refine wpTree_on (v := ?_) rfl rfl (wanted_yes rfl rfl rfl) (fun w' hS => ?_) ?_; rotate_left; (focus (go_simp; (try with_reducible rfl); done))) | (refine wpTree_off rfl rfl (wanted_no rfl rfl rfl) ?_) | (refine wpTree_off rfl rfl (wanted_undef rfl rfl rfl) ?_)))
    clear D q1
    have q1 := six hGw (Below.refl _ _)
    have f1 := hGw.frozen 1
    refine wpTree_do rfl (wanted_free rfl) (fun K hK => ?_); go_simp
    clear q1 f1
    have hG4 : Blk (w3.setCell ⟨g, 1, none⟩ (.slice (some ⟨gv, 0, none⟩) (N + 1) cv)) g 81 #[.string ⟨l.toArray⟩, (.slice (some ⟨gv, 0, none⟩) (N + 1) cv), .int .u32 0, .int .i32 0, .int .u32 0, .int .i64 0] := by simpa using hGw.set_ 1 (.slice (some ⟨gv, 0, none⟩) (N + 1) cv)
    have own4 : (w3.setCell ⟨g, 1, none⟩ (.slice (some ⟨gv, 0, none⟩) (N + 1) cv)).ownsRow base 57 3 (.slice (some ⟨gv, 0, none⟩) (N + 1) cv) (N + 1) (cellsW ws ++ [.int .i64 xk, .int .i64 xn, .string ⟨xs.toArray⟩]) := own_far h2 hGw (by decide) 1 (.slice (some ⟨gv, 0, none⟩) (N + 1) cv)
    have hb4 : Below base w (w3.setCell ⟨g, 1, none⟩ (.slice (some ⟨gv, 0, none⟩) (N + 1) cv)) := hb3.setCell hbg _
    have B1x := B1w.far (p := ⟨g, 1, none⟩) (show w.heap.size ≠ g by omega) (.slice (some ⟨gv, 0, none⟩) (N + 1) cv)
    refine hK.out _ _ B1x (wpTree_end ?_)
    clear hK K
    generalize w3.setCell ⟨g, 1, none⟩ (.slice (some ⟨gv, 0, none⟩) (N + 1) cv) = w4 at *
    have q1 := six hG4 (Below.refl _ _)
    have f0 := hG4.frozen 0
    have hsz : (ByteArray.mk l.toArray).size = l.length := size_mk l
    have hd1 : decide ((n : Int) ≤ (l.length : Int)) = true := by simp; omega
    go_wp2
    clear q1 f0
    have hG5 := hG4.set_ 0 (.string ⟨(l.drop n).toArray⟩)
    have own5 := own_far own4 hG4 (by decide) 0 (.string ⟨(l.drop n).toArray⟩)
    have hb5 := hb4.setCell (p := ⟨g, 0, none⟩) hbg (.string ⟨(l.drop n).toArray⟩)
    rw [drop_mk l n hn]
    go_end0
    refine ⟨rfl, .slice (some ⟨gv, 0, none⟩) (N + 1) cv, by simpa [wk] using hG5, ?_, hb5⟩
    rw [cellsW_snoc, List.length_append, HN.out]
    exact own5
  · go_simp
    refine hK.out _ _ (Blk.drew (B1.alloc _)) ?_
    clear hK K
    have q2 := six (Blk.drew (hW.alloc (.cells #[.int .i64 xk, .int .i64 xn, .string ⟨xs.toArray⟩] 57))) (Below.refl _ _)
    refine wpTree_do rfl (wanted_free rfl) (fun K hK => ?_); go_simp
    clear q2
    refine hK.out _ _ (Blk.drew (B1.alloc _)) ?_
    clear hK K
    have B2 : Blk ((W.alloc (.cells #[.int .i64 xk, .int .i64 xn, .string ⟨xs.toArray⟩] 57)).drew) W.heap.size 57 #[.int .i64 xk, .int .i64 xn, .string ⟨xs.toArray⟩] := Blk.drew (Blk.new W _ _)
    have hb2 : Below w.heap.size w ((W.alloc (.cells #[.int .i64 xk, .int .i64 xn, .string ⟨xs.toArray⟩] 57)).drew) := (hbW.alloc hbW.size _).drew
    have hG2 : Blk ((W.alloc (.cells #[.int .i64 xk, .int .i64 xn, .string ⟨xs.toArray⟩] 57)).drew) g 81 #[.string ⟨l.toArray⟩, out, .int .u32 0, .int .i32 0, .int .u32 0, .int .i64 0] := Blk.drew (hW.alloc _)
    have B1' : Blk ((W.alloc (.cells #[.int .i64 xk, .int .i64 xn, .string ⟨xs.toArray⟩] 57)).drew) w.heap.size 57 #[.int .i64 xk, .int .i64 xn, .string ⟨xs.toArray⟩] := Blk.drew (B1.alloc _)
    generalize hw2 : ((W.alloc (.cells #[.int .i64 xk, .int .i64 xn, .string ⟨xs.toArray⟩] 57)).drew) = w2 at *
    have hgw : W.heap.size < w2.heap.size := B2.lt
    clear hw2
    refine wpTree_do rfl (wanted_free rfl) (fun K hK => ?_)
    refine wp_append_own _ (.tmp 10) (.tmp 12) 47 rfl base 57 i0 _ 3 32 Tryz.underlying47 hi hz0 hz1 hz2 rfl (by decide) out N (cellsW ws) rfl (own_ext HO.out hb2) ⟨W.heap.size, 0, none⟩ 1 1
      [.int .i64 xk, .int .i64 xn, .string ⟨xs.toArray⟩] rfl rfl (three_at B2) (by intro u hu; simp at hu; rcases hu with rfl | rfl | rfl <;> rfl) (by unfold maxLen; omega) (by omega) (by omega) (fun v' w3 h2 h3 h4 => ?_)
    obtain ⟨gv, cv, rfl, hgv, hgv2⟩ := h2.form (by omega)
    clear h4
    have hlo := fun k hk => (HO.out.lt k hk).2
    have hB1 : some w.heap.size ≠ out.ownBlock := fun e => by have := hlo _ e.symm; omega
    have B1w := B1'.grown h3 hB1
    have hGw := hG2.grown h3 hne
    have hb3 : Below base w w3 := (Below.mono hb2 hbw).grown h3 (by have := hb2.size; omega) (fun k hk => (HO.out.lt k hk).1)
    refine hK.out _ _ B1w ?_
    clear hK K hlo D
    have D := fun w' (hS : Blk w' w.heap.size 57 #[.int .i64 xk, .int .i64 xn, .string ⟨xs.toArray⟩]) => Blk.three hS (Below.refl _ _)
    repeat ((with_reducible show wpTree _ _ _ _ (.take _ _) _ _); (first | (refine wpTree_on (v := ?_) rfl rfl (wanted_free rfl) (fun w' hS => ?_) ?_; rotate_left; (focus (go_simp; (try with_reducible rfl); done))) | (refine wpTree_on (v := ?_) rfl rfl (wanted_yes rfl rfl rfl) (fun w' hS => ?_) ?_; rotate_left; (focus (go_simp; (try with_reducible rfl); done))) | (refine wpTree_off rfl rfl (wanted_no rfl rfl rfl) ?_) | (refine wpTree_off rfl rfl (wanted_undef rfl rfl rfl) ?_)))
    clear D q1
    have q1 := six hGw (Below.refl _ _)
    have f1 := hGw.frozen 1
    refine wpTree_do rfl (wanted_free rfl) (fun K hK => ?_); go_simp
    clear q1 f1
    have hG4 : Blk (w3.setCell ⟨g, 1, none⟩ (.slice (some ⟨gv, 0, none⟩) (N + 1) cv)) g 81 #[.string ⟨l.toArray⟩, (.slice (some ⟨gv, 0, none⟩) (N + 1) cv), .int .u32 0, .int .i32 0, .int .u32 0, .int .i64 0] := by simpa using hGw.set_ 1 (.slice (some ⟨gv, 0, none⟩) (N + 1) cv)
    have own4 : (w3.setCell ⟨g, 1, none⟩ (.slice (some ⟨gv, 0, none⟩) (N + 1) cv)).ownsRow base 57 3 (.slice (some ⟨gv, 0, none⟩) (N + 1) cv) (N + 1) (cellsW ws ++ [.int .i64 xk, .int .i64 xn, .string ⟨xs.toArray⟩]) := own_far h2 hGw (by decide) 1 (.slice (some ⟨gv, 0, none⟩) (N + 1) cv)
    have hb4 : Below base w (w3.setCell ⟨g, 1, none⟩ (.slice (some ⟨gv, 0, none⟩) (N + 1) cv)) := hb3.setCell hbg _
    have B1x := B1w.far (p := ⟨g, 1, none⟩) (show w.heap.size ≠ g by omega) (.slice (some ⟨gv, 0, none⟩) (N + 1) cv)
    refine hK.out _ _ B1x (wpTree_end ?_)
    clear hK K
    generalize w3.setCell ⟨g, 1, none⟩ (.slice (some ⟨gv, 0, none⟩) (N + 1) cv) = w4 at *
    have q1 := six hG4 (Below.refl _ _)
    have f0 := hG4.frozen 0
    have hsz : (ByteArray.mk l.toArray).size = l.length := size_mk l
    have hd1 : decide ((n : Int) ≤ (l.length : Int)) = true := by simp; omega
    go_wp2
    clear q1 f0
    have hG5 := hG4.set_ 0 (.string ⟨(l.drop n).toArray⟩)
    have own5 := own_far own4 hG4 (by decide) 0 (.string ⟨(l.drop n).toArray⟩)
    have hb5 := hb4.setCell (p := ⟨g, 0, none⟩) hbg (.string ⟨(l.drop n).toArray⟩)
    rw [drop_mk l n hn]
    go_end0
    refine ⟨rfl, .slice (some ⟨gv, 0, none⟩) (N + 1) cv, by simpa [wk] using hG5, ?_, hb5⟩
    rw [cellsW_snoc, List.length_append, HN.out]
    exact own5
end Go.Proofs.YtfnceamkephpjaaGreat.lx
