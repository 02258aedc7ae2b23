/-
  TableRanges: FOR EVERY INPUT the law returns true, and what was handed in reads as it did.
-/
import Derived.Test.YtalfacbkofgdjaaRangesWalk
namespace Go.Proofs.Ytalfacbkofgdjaa.lawTableRanges
open Go.ChangeShapes Go.WideShapes Go.ChangeAt Go.RowKit Go.Joins
open Go.ChangeMaps (open_string shut_string)
open Go.Proofs.Ytalfacbkofgdjaa.lib
set_option linter.unusedVariables false

theorem own : ownKnob Try.prog.godebug = none := by kernel_rfl
theorem laid : laidOutB Try.prog = true := by kernel_rfl
theorem parOk : (Try.f5.params.toList.all fun t => Try.prog.readableRec t && decide (t < Try.prog.types.size)) = true := by kernel_rfl
theorem cellsV : Try.prog.cellsOf 39 = 3 := by kernel_rfl

set_option maxRecDepth 100000 in
theorem contract (H : Type) (enc : TypeId × Value → H) (W : World) (base : Nat) (args : Array Value) (ds gs : List (DataW H)) (before : List MemPlace)
    (hval : ∀ (j : Nat) t v, Try.f5.params[j]? = some t → args[j]? = some v → Value.okWide Try.prog W .any base t v)
    (hW : DataW.Whole enc Try.prog Try.f5.params.toList Rows.tableRangesSpec.vars false W args.toList ds gs before) :
    Calls Try.prog 5 args W fun e W' => ∃ v, e = .returned v ∧ Rows.tableRangesSpec.post enc Try.prog Try.f5 false true false false W args v W' := by
  have hW' := hW
  obtain ⟨p, q, hA0, hV, rfl, hfz, hnd⟩ := hW
  have hA : DataW.TrodAll enc Try.prog W 0 (fun _ => true) true Try.f5.params.toList args.toList ds p := hA0
  rw [Try.params5] at hA hval
  obtain ⟨v0, vs0, d0, ds0, p0, q0, hargs, rfl, rfl, h0, r0⟩ := trodAll_cons hA
  obtain ⟨v1, vs1, d1, ds1, p1, q1, rfl, rfl, rfl, h1, r1⟩ := trodAll_cons r0
  obtain ⟨v2, vs2, d2, ds2, p2, q2, rfl, rfl, rfl, h2, r2⟩ := trodAll_cons r1
  obtain ⟨v3, vs3, d3, ds3, p3, q3, rfl, rfl, rfl, h3, r3⟩ := trodAll_cons r2
  obtain ⟨v4, vs4, d4, ds4, p4, q4, rfl, rfl, rfl, h4, r4⟩ := trodAll_cons r3
  obtain ⟨v5, vs5, d5, ds5, p5, q5, rfl, rfl, rfl, h5, r5⟩ := trodAll_cons r4
  obtain ⟨rfl, rfl, rfl⟩ := trodAll_nil r5
  obtain rfl : args = #[v0, v1, v2, v3, v4, v5] := by cases args; simp_all
  obtain ⟨rfl, rfl⟩ := trodVars_none hV
  obtain ⟨s0, A0, n0, c0, l0, key0, only0, rfl, hs0, hC0, hn0, hp0, hk0⟩ := tb.sch_arg (hval 0 24 v0 rfl rfl) h0
  obtain ⟨A1, n1, c1, l1, rfl, hR1, hl1, hm1, hz1⟩ := tb.ints_row (hval 1 25 v1 rfl rfl) h1
  obtain ⟨c0, c1, c2, y0, y1, y2, m2, rfl, rfl, rfl, hy0, hy1, hy2⟩ := open_agg3 Try.underlying39 (by kernel_rfl) cellsV (hval 2 39 v2 rfl rfl) h2
  obtain ⟨k2, e0, rfl, wk2⟩ := DataW.trod_int Try.underlying3 hy0
  obtain ⟨n2, e1, rfl, wn2⟩ := DataW.trod_int Try.underlying3 hy1
  obtain ⟨s2, e2, rfl, hs2⟩ := DataW.trod_string Try.underlying9 hy2
  simp only [List.cons.injEq, and_true] at e0 e1 e2
  subst e0 e1 e2
  have wk2 := bd64 wk2
  have wn2 := bd64 wn2
  obtain ⟨c0, c1, c2, y0, y1, y2, m3, rfl, rfl, rfl, hy0, hy1, hy2⟩ := open_agg3 Try.underlying39 (by kernel_rfl) cellsV (hval 3 39 v3 rfl rfl) h3
  obtain ⟨k3, e0, rfl, wk3⟩ := DataW.trod_int Try.underlying3 hy0
  obtain ⟨n3, e1, rfl, wn3⟩ := DataW.trod_int Try.underlying3 hy1
  obtain ⟨s3, e2, rfl, hs3⟩ := DataW.trod_string Try.underlying9 hy2
  simp only [List.cons.injEq, and_true] at e0 e1 e2
  subst e0 e1 e2
  have wk3 := bd64 wk3
  have wn3 := bd64 wn3
  obtain ⟨x4, rfl, rfl, rfl, wx4⟩ := open_int Try.underlying3 (hval 4 3 v4 rfl rfl) h4
  have wx4 := bd64 wx4
  obtain ⟨x5, rfl, rfl, rfl, wx5⟩ := open_int Try.underlying3 (hval 5 3 v5 rfl rfl) h5
  have wx5 := bd64 wx5
  clear hA0
  simp only [List.append_nil] at hW'
  refine (tb.ranges_walk s0 A0 n0 c0 l0 key0 only0 A1 n1 c1 l1 k2 n2 s2 k3 n3 s3 x4 x5 W hs0 hC0 hn0 hp0 hk0 hR1 hl1 hm1 hz1 ⟨wk2, wn2, hs2⟩ ⟨wk3, wn3, hs3⟩ wx4 wx5).mono fun e W' ⟨he, hb⟩ => ?_
  subst he
  exact ⟨_, rfl, post_law laid (parsOk parOk) rfl Try.underlying4 rfl rfl hW' hb⟩

set_option maxRecDepth 100000 in
theorem lifted (os : Os) (started : os.Started) (H : Type) (enc : TypeId × Value → H) :
    ReturnsInHanded {} Try.checked os 5 .any (Rows.tableRangesSpec.pre6 enc Try.prog Try.f5 Rows.tableRangesRow.domain false) (Rows.tableRangesSpec.post enc Try.prog Try.f5 false true false false) := by
  refine returnsInHanded_of_change (C := Try.checked) own started (by kernel_rfl) Try.func5
    (ChangeSpec.witness6 (enc := enc) (C := Try.checked) false ⟨#[], #[.agg #[.string ByteArray.empty, .slice none 0 0, .int .i64 0, .bool false], .slice none 0 0, .agg #[.int .i64 0, .int .i64 0, .string ByteArray.empty], .agg #[.int .i64 0, .int .i64 0, .string ByteArray.empty], .int .i64 0, .int .i64 0], []⟩ 8 (by kernel_rfl) (by kernel_rfl) (by kernel_rfl) (by kernel_rfl)) ?_
  intro W base args ds gs before hval hW _ _
  exact contract H enc W base args ds gs before hval hW

theorem over : Rows.tableRangesRow.holds Try.pinned (OpenSpec.ofChange Rows.tableRangesSpec) :=
  OpenClaim.holds_of_wide 5 Try.f5 rfl rfl rfl rfl rfl rfl rfl ⟨rfl, rfl, rfl, rfl, rfl⟩ rfl rfl rfl rfl rfl (by kernel_rfl) Try.func5 (by kernel_rfl)
    (of_decide_eq_true (by kernel_rfl)) (by unfold Func.isWrapper; first | (rw [if_pos (by decide +kernel)]; kernel_rfl) | (rw [if_neg (by decide +kernel)]; exact ⟨rfl, rfl⟩))
    (fun os started H enc _ => lifted os started H enc)

theorem proved : Rows.TableRangesSaid :=
  over
end Go.Proofs.Ytalfacbkofgdjaa.lawTableRanges
