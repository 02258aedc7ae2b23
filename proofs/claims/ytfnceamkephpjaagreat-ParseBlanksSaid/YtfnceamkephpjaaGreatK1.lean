/- Contracts: sync.Once done by one goroutine, at a word walker's block; fail. -/
import Derived.Test.YtfnceamkephpjaaGreatL2
import Derived.Tactics
import Derived.Tactics2
import Derived.Defers
import Derived.Laws.Pointers
import Derived.Laws.LoneSync
import Derived.RegionTactic
import Derived.RegionCalls
import Derived.ChangeAlike
import Derived.OwnWalk
namespace Go.Proofs.YtfnceamkephpjaaGreat.lx
open Go.ChangeShapes Go.WideShapes Go.ChangeAt Go.RowKit Go.Proofs.YtfnceamkephpjaaGreat.lib
set_option linter.unusedVariables false

set_option maxRecDepth 100000 in
theorem disable (w : World) : (callFunc 83 #[]).run Tryz.prog w = .ok (.value (.tuple #[])) w := run_call_mark0 Tryz.func83 (by kernel_rfl) (by kernel_rfl) (by kernel_rfl) .disable (by kernel_rfl) w
set_option maxRecDepth 100000 in
theorem enable (w : World) : (callFunc 85 #[]).run Tryz.prog w = .ok (.value (.tuple #[])) w := run_call_mark0 Tryz.func85 (by kernel_rfl) (by kernel_rfl) (by kernel_rfl) .enable (by kernel_rfl) w
set_option maxRecDepth 100000 in
theorem acquire (a : Addr) (w : World) : (callFunc 86 #[.pointer (some a)]).run Tryz.prog w = .ok (.value (.tuple #[])) w := run_call_marked Tryz.func86 (by kernel_rfl) (by kernel_rfl) (by kernel_rfl) .acquire (by kernel_rfl) a w
set_option maxRecDepth 100000 in
theorem releaseMerge (a : Addr) (w : World) : (callFunc 88 #[.pointer (some a)]).run Tryz.prog w = .ok (.value (.tuple #[])) w := run_call_marked Tryz.func88 (by kernel_rfl) (by kernel_rfl) (by kernel_rfl) .releaseMerge (by kernel_rfl) a w

set_option maxRecDepth 100000 in
theorem store_deferred (a : Addr) (x : Value) (u : FrameMode) (w : World) (hc : w.cell? a = some x) (hz : w.frozen? a = false) :
    CallsD Tryz.prog 71 #[.pointer (some a), .bool true] u w fun e u' w' => u' = u ∧ (e = .returned (.tuple #[]) ∧ w' = w.drew.setCell a (.int .u32 1)) := by
  have hc' : w.drew.cell? a = some x := by go_simp
  have hz' : w.drew.frozen? a = false := by go_simp
  have hst := run_call_store (P := Tryz.prog) Tryz.func78 (by kernel_rfl) (by kernel_rfl) (by kernel_rfl) (by kernel_rfl) (k := .u32) (y := 1) hc' hz'
  go_enter_d Tryz.func71, Tryz.ntmps71
  go_wp2
  go_region_calls
  all_goals (go_end0; exact ⟨rfl, rfl⟩)

set_option maxRecDepth 100000 in
theorem unlock_deferred (a : Addr) (u : FrameMode) (w : World) (hc : w.cell? a = some (.int .i32 1)) (hz : w.frozen? a = false) :
    CallsD Tryz.prog 70 #[.pointer (some a)] u w fun e u' w' => u' = u ∧ (e = .returned (.tuple #[]) ∧ w' = w.setCell a (.int .i32 0)) := by
  have hd := disable
  have he := enable
  have hr := releaseMerge
  have hadd := run_call_add (P := Tryz.prog) Tryz.func89 (by kernel_rfl) (by kernel_rfl) (by kernel_rfl) .i32 (by kernel_rfl) (y := -1) (s := 0) hc hz (by simp [go_sem]; rfl)
  have hcv := run_convert_to_unsafe (P := Tryz.prog) (src := 124) (dst := 128) Tryz.underlying124 Tryz.underlying128 (by kernel_rfl) hc
  go_enter_d Tryz.func70, Tryz.ntmps70
  go_wp2
  go_end0
  go_wp2
  go_end0
  exact ⟨rfl, rfl⟩

set_option maxRecDepth 100000 in
theorem lock_free (a : Addr) (w : World) (hc : w.cell? a = some (.int .i32 0)) (hz : w.frozen? a = false) :
    Calls Tryz.prog 69 #[.pointer (some a)] w fun e w' => e = .returned (.tuple #[]) ∧ w' = w.setCell a (.int .i32 1) := by
  have hd := disable
  have he := enable
  have ha := acquire
  have hcas := run_call_cas_hit (P := Tryz.prog) Tryz.func84 (by kernel_rfl) (by kernel_rfl) (by kernel_rfl) .i32 (by kernel_rfl) (y := 1) hc hz
  have hc' : (w.setCell a (.int .i32 1)).cell? a = some (.int .i32 1) := World.cell?_setCell_same w a _ hc
  have hcv := run_convert_to_unsafe (P := Tryz.prog) (src := 124) (dst := 128) Tryz.underlying124 Tryz.underlying128 (by kernel_rfl) hc'
  go_enter Tryz.func69, Tryz.ntmps69
  go_wp2
  first | go_end0 | (simp only [Exit.inBlock, Exit.then]; refine bodyPost_ret (results_none rfl _ _ _) rfl ?_) | refine bodyPost_ret (results_none rfl _ _ _) rfl ?_
  go_wp2
  go_end0
  exact ⟨rfl, rfl⟩

set_option maxRecDepth 100000 in
set_option maxHeartbeats 1600000 in
set_option maxRecDepth 100000 in
theorem slow_any (b pe pl : Nat) (hpb : b ≠ pl) (hpe : b ≠ pe) (e : Int) (x5 : Value) (w : World) (hp : w.cell? ⟨pl, 0, none⟩ = some (.pointer (some ⟨b, 0, none⟩))) (he : w.cell? ⟨pe, 0, none⟩ = some (.int .i64 e))
    (h0 : w.cell? ⟨b, 2, none⟩ = some (.int .u32 0)) (h1 : w.cell? ⟨b, 3, none⟩ = some (.int .i32 0)) (h3 : w.cell? ⟨b, 5, none⟩ = some x5)
    (f0 : w.frozen? ⟨b, 2, none⟩ = false) (f1 : w.frozen? ⟨b, 3, none⟩ = false) (f3 : w.frozen? ⟨b, 5, none⟩ = false) :
    Calls Tryz.prog 60 #[.pointer (some ⟨b, 2, none⟩), .func (.func 37) #[] #[.pointer (some ⟨pe, 0, none⟩), .pointer (some ⟨pl, 0, none⟩)]] w fun r w' => r = .returned (.tuple #[]) ∧
      w' = (((w.setCell ⟨b, 3, none⟩ (.int .i32 1)).setCell ⟨b, 5, none⟩ (.int .i64 e)).drew.setCell ⟨b, 2, none⟩ (.int .u32 1)).setCell ⟨b, 3, none⟩ (.int .i32 0) := by
  have hl := run_call_load (P := Tryz.prog) Tryz.func68 (by kernel_rfl) (by kernel_rfl) (by kernel_rfl) .u32 (by kernel_rfl) (w := w.setCell ⟨b, 3, none⟩ (.int .i32 1)) (a := ⟨b, 2, none⟩) (x := 0) ((World.cell?_setCell_other _ ⟨b, 3, none⟩ ⟨b, 2, none⟩ _ (by simp)).trans h0)
  have hp1 : (w.setCell ⟨b, 3, none⟩ (.int .i32 1)).cell? ⟨pl, 0, none⟩ = some (.pointer (some ⟨b, 0, none⟩)) := (World.cell?_setCell_other _ ⟨b, 3, none⟩ ⟨pl, 0, none⟩ _ (by simp)).trans hp
  have he1 : (w.setCell ⟨b, 3, none⟩ (.int .i32 1)).cell? ⟨pe, 0, none⟩ = some (.int .i64 e) := (World.cell?_setCell_other _ ⟨b, 3, none⟩ ⟨pe, 0, none⟩ _ (by simp)).trans he
  have h31 : (w.setCell ⟨b, 3, none⟩ (.int .i32 1)).cell? ⟨b, 5, none⟩ = some x5 := (World.cell?_setCell_other _ ⟨b, 3, none⟩ ⟨b, 5, none⟩ _ (by simp)).trans h3
  have hnot : ∀ (x : Bool) (w : World), (Op.unary .not (.bool x)).run Tryz.prog w = .ok (.bool (!x)) w := fun _ _ => rfl
  go_enter_defers Tryz.func60, Tryz.ntmps60
  go_wp2_with (go_at_call 69; refine (lock_free ⟨b, 3, none⟩ _ (by go_simp) (by go_simp)).mono ?_; rintro e w' ⟨rfl, rfl⟩)
  go_wp2
  go_end0
  go_wp2
  refine leaves_cons (f := 71) (args := #[.pointer (some ⟨b, 2, none⟩), .bool true]) (by simp) (by simp [go_sem]) ?_
  refine (store_deferred ⟨b, 2, none⟩ (.int .u32 0) .returning _ ?_ (by simp [f0])).mono ?_
  · exact (World.cell?_setCell_other _ ⟨b, 5, none⟩ ⟨b, 2, none⟩ _ (by simp)).trans ((World.cell?_setCell_other _ ⟨b, 3, none⟩ ⟨b, 2, none⟩ _ (by simp)).trans h0)
  rintro e u' w'' ⟨rfl, rfl, rfl⟩
  refine leaves_cons (f := 70) (args := #[.pointer (some ⟨b, 3, none⟩)]) (by simp [settle]) (by simp [go_sem]) ?_
  refine (unlock_deferred ⟨b, 3, none⟩ _ _ ?_ (by simp [f1])).mono ?_
  · refine (World.cell?_setCell_other _ ⟨b, 2, none⟩ ⟨b, 3, none⟩ _ (by simp)).trans ?_
    rw [World.cell?_drew]
    exact (World.cell?_setCell_other _ ⟨b, 5, none⟩ ⟨b, 3, none⟩ _ (by simp)).trans (World.cell?_setCell_same w _ _ h1)
  rintro e u' w'' ⟨rfl, rfl, rfl⟩
  simp [Leaves, settle, results, Tryz.results60]

set_option maxRecDepth 100000 in
set_option maxHeartbeats 1600000 in
set_option maxRecDepth 100000 in
theorem do_first (b pe pl : Nat) (hpb : b ≠ pl) (hpe : b ≠ pe) (e : Int) (x5 : Value) (w : World) (hp : w.cell? ⟨pl, 0, none⟩ = some (.pointer (some ⟨b, 0, none⟩))) (he : w.cell? ⟨pe, 0, none⟩ = some (.int .i64 e))
    (h0 : w.cell? ⟨b, 2, none⟩ = some (.int .u32 0)) (h1 : w.cell? ⟨b, 3, none⟩ = some (.int .i32 0)) (h3 : w.cell? ⟨b, 5, none⟩ = some x5)
    (f0 : w.frozen? ⟨b, 2, none⟩ = false) (f1 : w.frozen? ⟨b, 3, none⟩ = false) (f3 : w.frozen? ⟨b, 5, none⟩ = false) :
    Calls Tryz.prog 36 #[.pointer (some ⟨b, 2, none⟩), .func (.func 37) #[] #[.pointer (some ⟨pe, 0, none⟩), .pointer (some ⟨pl, 0, none⟩)]] w fun r w' => r = .returned (.tuple #[]) ∧
      w' = (((w.setCell ⟨b, 3, none⟩ (.int .i32 1)).setCell ⟨b, 5, none⟩ (.int .i64 e)).drew.setCell ⟨b, 2, none⟩ (.int .u32 1)).setCell ⟨b, 3, none⟩ (.int .i32 0) := by
  have hl := run_call_load (P := Tryz.prog) Tryz.func68 (by kernel_rfl) (by kernel_rfl) (by kernel_rfl) .u32 (by kernel_rfl) h0
  have hnot : ∀ (x : Bool) (w : World), (Op.unary .not (.bool x)).run Tryz.prog w = .ok (.bool (!x)) w := fun _ _ => rfl
  go_enter Tryz.func36, Tryz.ntmps36
  go_wp2_with (first | (go_at_call 60; refine (slow_any b pe pl hpb hpe e x5 _ hp he h0 h1 h3 f0 f1 f3).mono ?_; rintro e w' ⟨rfl, rfl⟩) | (go_at_call 59; go_in))
  go_end0
  exact ⟨rfl, rfl⟩
end Go.Proofs.YtfnceamkephpjaaGreat.lx
