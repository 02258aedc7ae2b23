/-
  ValueOrder: FOR EVERY INPUT the law returns true, and what was handed in reads as it did.
-/
import Derived.Test.YtofihlpekljkeaaRRRROrderWalk
namespace Go.Proofs.YtofihlpekljkeaaRRRR.lawValueOrder
open Go.ChangeShapes Go.WideShapes Go.ChangeAt Go.RowKit Go.Joins
open Go.ChangeMaps (open_string shut_string)
open Go.Proofs.YtofihlpekljkeaaRRRR.lib
set_option linter.unusedVariables false

theorem own : ownKnob Try.prog.godebug = none := by kernel_rfl
theorem laid : laidOutB Try.prog = true := by kernel_rfl
theorem parOk : (Try.f3.params.toList.all fun t => Try.prog.readableRec t && decide (t < Try.prog.types.size)) = true := by kernel_rfl
theorem cellsV : Try.prog.cellsOf 23 = 3 := by kernel_rfl

theorem contract (H : Type) (enc : TypeId × Value → H) (W : World) (base : Nat) (args : Array Value) (ds gs : List (DataW H)) (before : List MemPlace)
    (hval : ∀ (j : Nat) t v, Try.f3.params[j]? = some t → args[j]? = some v → Value.okWide Try.prog W .any base t v)
    (hW : DataW.Whole enc Try.prog Try.f3.params.toList Rows.valueOrderSpec.vars false W args.toList ds gs before) :
    Calls Try.prog 3 args W fun e W' => ∃ v, e = .returned v ∧ Rows.valueOrderSpec.post enc Try.prog Try.f3 false true false false W args v W' := by
  have hW' := hW
  obtain ⟨p, q, hA0, hV, rfl, hfz, hnd⟩ := hW
  have hA : DataW.TrodAll enc Try.prog W 0 (fun _ => true) true Try.f3.params.toList args.toList ds p := hA0
  rw [Try.params3] at hA hval
  obtain ⟨v0, vs0, d0, ds0, p0, q0, hargs, rfl, rfl, h0, r0⟩ := trodAll_cons hA
  obtain ⟨v1, vs1, d1, ds1, p1, q1, rfl, rfl, rfl, h1, r1⟩ := trodAll_cons r0
  obtain ⟨v2, vs2, d2, ds2, p2, q2, rfl, rfl, rfl, h2, r2⟩ := trodAll_cons r1
  obtain ⟨rfl, rfl, rfl⟩ := trodAll_nil r2
  obtain rfl : args = #[v0, v1, v2] := by cases args; simp_all
  obtain ⟨rfl, rfl⟩ := trodVars_none hV
  obtain ⟨c0, c1, c2, y0, y1, y2, m0, rfl, rfl, rfl, hy0, hy1, hy2⟩ := open_agg3 Try.underlying23 (by kernel_rfl) cellsV (hval 0 23 v0 rfl rfl) h0
  obtain ⟨k0, e0, rfl, wk0⟩ := DataW.trod_int Try.underlying3 hy0
  obtain ⟨n0, e1, rfl, wn0⟩ := DataW.trod_int Try.underlying3 hy1
  obtain ⟨s0, e2, rfl, hs0⟩ := DataW.trod_string Try.underlying9 hy2
  simp only [List.cons.injEq, and_true] at e0 e1 e2
  subst e0 e1 e2
  have wk0 := bd64 wk0
  have wn0 := bd64 wn0
  obtain ⟨c0, c1, c2, y0, y1, y2, m1, rfl, rfl, rfl, hy0, hy1, hy2⟩ := open_agg3 Try.underlying23 (by kernel_rfl) cellsV (hval 1 23 v1 rfl rfl) h1
  obtain ⟨k1, e0, rfl, wk1⟩ := DataW.trod_int Try.underlying3 hy0
  obtain ⟨n1, e1, rfl, wn1⟩ := DataW.trod_int Try.underlying3 hy1
  obtain ⟨s1, e2, rfl, hs1⟩ := DataW.trod_string Try.underlying9 hy2
  simp only [List.cons.injEq, and_true] at e0 e1 e2
  subst e0 e1 e2
  have wk1 := bd64 wk1
  have wn1 := bd64 wn1
  obtain ⟨c0, c1, c2, y0, y1, y2, m2, rfl, rfl, rfl, hy0, hy1, hy2⟩ := open_agg3 Try.underlying23 (by kernel_rfl) cellsV (hval 2 23 v2 rfl rfl) h2
  obtain ⟨k2, e0, rfl, wk2⟩ := DataW.trod_int Try.underlying3 hy0
  obtain ⟨n2, e1, rfl, wn2⟩ := DataW.trod_int Try.underlying3 hy1
  obtain ⟨s2, e2, rfl, hs2⟩ := DataW.trod_string Try.underlying9 hy2
  simp only [List.cons.injEq, and_true] at e0 e1 e2
  subst e0 e1 e2
  have wk2 := bd64 wk2
  have wn2 := bd64 wn2
  clear hA0
  simp only [List.append_nil] at hW'
  refine (val.order_walk k0 n0 k1 n1 k2 n2 s0 s1 s2 W hs0 hs1 hs2 wk0 wn0 wk1 wn1 wk2 wn2).mono fun e W' ⟨he, hb⟩ => ?_
  subst he
  exact ⟨_, rfl, post_law laid (parsOk parOk) rfl Try.underlying4 rfl rfl hW' hb⟩

set_option maxRecDepth 100000 in
theorem lifted (os : Os) (started : os.Started) (H : Type) (enc : TypeId × Value → H) :
    ReturnsInHanded {} Try.checked os 3 .any (Rows.valueOrderSpec.pre6 enc Try.prog Try.f3 Rows.valueOrderRow.domain false) (Rows.valueOrderSpec.post enc Try.prog Try.f3 false true false false) := by
  refine returnsInHanded_of_change (C := Try.checked) own started (by kernel_rfl) Try.func3
    (ChangeSpec.witness6 (enc := enc) (C := Try.checked) false ⟨#[], #[.agg #[.int .i64 0, .int .i64 0, .string ByteArray.empty], .agg #[.int .i64 0, .int .i64 0, .string ByteArray.empty], .agg #[.int .i64 0, .int .i64 0, .string ByteArray.empty]], []⟩ 8 (by kernel_rfl) (by kernel_rfl) (by kernel_rfl) (by kernel_rfl)) ?_
  intro W base args ds gs before hval hW _ _
  exact contract H enc W base args ds gs before hval hW

theorem over : Rows.valueOrderRow.holds Try.pinned (OpenSpec.ofChange Rows.valueOrderSpec) :=
  OpenClaim.holds_of_wide 3 Try.f3 rfl rfl rfl rfl rfl rfl rfl ⟨rfl, rfl, rfl, rfl, rfl⟩ rfl rfl rfl rfl rfl (by kernel_rfl) Try.func3 (by kernel_rfl)
    (of_decide_eq_true (by kernel_rfl)) (by unfold Func.isWrapper; first | (rw [if_pos (by decide +kernel)]; kernel_rfl) | (rw [if_neg (by decide +kernel)]; exact ⟨rfl, rfl⟩))
    (fun os started H enc _ => lifted os started H enc)

theorem proved : Rows.ValueOrderSaid :=
  over
end Go.Proofs.YtofihlpekljkeaaRRRR.lawValueOrder
