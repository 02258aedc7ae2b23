/- Contract: Value's deferred closure; Value. -/
import Derived.Test.YtfgmlgflfagdjaaE9
import Derived.Defers
import Derived.Recover
namespace Go.Proofs.Ytfgmlgflfagdjaa.ev
open Go.ChangeShapes Go.WideShapes Go.ChangeAt Go.RowKit Go.Proofs.Ytfgmlgflfagdjaa.lib Go.Proofs.Ytfgmlgflfagdjaa.val
set_option linter.unusedVariables false

theorem assert_hit (v : Value) (w : World) : (Instr.typeAssert (.iface 41 v) 20 41 true).run Try.prog w = .ok (.tuple #[v, .bool true]) w := by
  have hu : Try.prog.underlying 41 = some (.int .i64) := by kernel_rfl
  simp [Instr.typeAssert, run_underlying hu, go_sem]
theorem assert_nil (w : World) : (Instr.typeAssert .nilIface 20 41 true).run Try.prog w = .ok (.tuple #[.int .i64 0, .bool false]) w := by
  have hu : Try.prog.underlying 41 = some (.int .i64) := by kernel_rfl
  obtain ⟨i0, hi, hz0, hz1, hz2⟩ := info_parts (P := Try.prog) (e := 41) (z := .int .i64 0) (size := 1) (bytes := 8) (by kernel_rfl)
  simp [Instr.typeAssert, run_underlying hu, go_sem, zeroValue, typeInfo, hi, hz0]

set_option maxRecDepth 1000000 in
set_option maxHeartbeats 1000000 in
theorem catch_panicking (g h : Nat) (x : Int) (y0 y1 y2 z : Value) (older : List PanicEntry) (w : World) (h1 : Blk w g 30 #[y0, y1, y2]) (h2 : Blk w h 41 #[z]) (hne : g ≠ h) :
    CallsD Try.prog 38 #[.pointer (some ⟨g, 0, none⟩), .pointer (some ⟨h, 0, none⟩)] (.panicking ({ v := .iface 41 (.int .i64 x), recovered := false } :: older)) w fun e u' w' =>
      e = .returned (.tuple #[]) ∧ u' = .panicking ({ v := .iface 41 (.int .i64 x), recovered := true } :: older) ∧
        Blk w' g 30 #[.int .i64 0, .int .i64 0, .string ⟨#[]⟩] ∧ Blk w' h 41 #[.int .i64 x] ∧ ∀ B, B ≤ g → B ≤ h → Below B w w' := by
  have q1 := h1.three (Below.refl _ _)
  have q2 := h2.cell 0
  have f1 := h1.free3
  have f2 := h2.frozen 0
  refine callsD_of_wpS Try.func38 rfl fun c₀ cs hu => ?_
  have hta := assert_hit (.int .i64 x)
  apply wpS_seq
  apply wpS_region
  simp [wpOpsS, go_sem, recoverD, hu, Try.ntmps38, Exit.thenS, hta, Array.replicate, List.replicate]
  refine wpS_of_wp ?_
  go_wp2
  obtain ⟨w1, hw1, B1, hb1, hfar, _⟩ := h1.set3 (.int .i64 0) (.int .i64 0) (.string ⟨#[]⟩)
  rw [← hw1]
  have k1 := B1.far (p := ⟨h, 0, none⟩) hne (.int .i64 x)
  have k2 : Blk (w1.setCell ⟨h, 0, none⟩ (.int .i64 x)) h 41 #[.int .i64 x] := by simpa using (hfar h _ _ (Ne.symm hne) h2).set_ 0 (.int .i64 x)
  clear q1 q2 f1 f2 hta hw1
  simp [bodyPostS, results, Try.results38, k1, k2]
  exact fun B hB1 hB2 => (hb1 B hB1).setCell hB2 _

set_option maxRecDepth 1000000 in
theorem catch_idle (g h : Nat) (w : World) :
    CallsD Try.prog 38 #[.pointer (some ⟨g, 0, none⟩), .pointer (some ⟨h, 0, none⟩)] .returning w fun e u' w' => e = .returned (.tuple #[]) ∧ u' = .returning ∧ w' = w := by
  refine callsD_of_wpS Try.func38 rfl fun c₀ cs hu => ?_
  have hta := assert_nil
  apply wpS_seq
  apply wpS_region
  simp [wpOpsS, go_sem, recoverD, hu, Try.ntmps38, Exit.thenS, hta, Array.replicate, List.replicate]
  refine wpS_of_wp ?_
  go_wp2
  cases c₀
  simp_all [bodyPostS, results, Try.results38]

def nodeV (vs : List V) (n : Nd) : Option V := if n.op = 1 then some n.v else if n.op ≤ 5 then pairV n.op (vs.getD n.a.toNat nul) (vs.getD n.a.toNat nul) else pairV n.op (vs.getD n.a.toNat nul) (vs.getD n.b.toNat nul)
def valsV : List Nd → List V → Option (List V)
  | [], vs => some vs
  | n :: r, vs => (nodeV vs n).bind fun v => valsV r (vs ++ [v])
/-- a node that may be worked out, where k are known -/
def Fine (k : Nat) (n : Nd) : Prop := n.op = 1 ∧ ok64 n.v.n ∨ (3 ≤ n.op ∧ n.op ≤ 16 ∧ 0 ≤ n.a ∧ n.a < k ∧ (6 ≤ n.op → 0 ≤ n.b ∧ n.b < k))
def nodeE : Option V → Ending
  | some v => .returned (.agg #[.int .i64 v.k, .int .i64 v.n, .string v.s])
  | none => .panicked [{ v := .iface 41 (.int .i64 11), recovered := false }]
theorem getV (l : List V) (i : Nat) (h : i < l.length) : l[i]? = some (l.getD i nul) := by simp [h]
theorem okD (l : List V) (h : ∀ v ∈ l, ok64 v.n) (i : Nat) (hi : i < l.length) : ok64 (l.getD i nul).n := h _ (List.mem_of_getElem? (getV l i hi))

theorem node (n : Nd) (l : List V) (m c B : Nat) (A : Option Addr) (C R : Value) (w : World) (hf : Fine m n) (hm : l.length = m) (hm2 : m < 1000) (hL : Vals w B A l) (hB : B ≤ w.heap.size) (hok : ∀ v ∈ l, ok64 v.n) :
    Calls Try.prog 39 #[.agg #[.int .i64 n.op, .int .i64 n.a, .int .i64 n.b, .int .i64 n.v.k, .int .i64 n.v.n, .string n.v.s, .string n.s], .slice A m c, C, R] w fun e w' => e = nodeE (nodeV l n) ∧ Below w.heap.size w w' := by
  obtain ⟨op, a, b, ⟨vk, vn, vs⟩, s⟩ := n
  rcases hf with ⟨h1, _⟩ | ⟨h3, h16, ha, ham, hb⟩
  · obtain rfl : op = 1 := h1
    exact node_val 1 a b vk vn vs s _ C R w rfl
  · simp only at h3 h16 ha ham hb
    have hx := getV l a.toNat (by omega)
    have hx2 := okD l hok a.toNat (by omega)
    obtain ⟨ia, rfl⟩ : ∃ ia : Nat, a = ia := ⟨a.toNat, by omega⟩
    simp only [Int.toNat_natCast] at hx hx2
    by_cases h5 : op ≤ 5
    · have e : nodeV l ⟨op, ia, b, ⟨vk, vn, vs⟩, s⟩ = pairV op (l.getD ia nul) (l.getD ia nul) := by unfold nodeV; rw [if_neg (by simp only; omega), if_pos (by exact h5)]; rfl
      rw [e]
      cases hp : pairV op (l.getD ia nul) (l.getD ia nul) with
      | some r => exact node_one op vk vn b ia m c B vs s l _ r A C R w ⟨h3, h5⟩ hm hm2 hL hB hx hx2 hp
      | none => exact node_oneo op vk vn b ia m c B vs s l _ A C R w ⟨h3, h5⟩ hm hm2 hL hB hx hx2 hp
    · obtain ⟨hb1, hb2⟩ := hb (by omega)
      have hy := getV l b.toNat (by omega)
      have hy2 := okD l hok b.toNat (by omega)
      obtain ⟨ib, rfl⟩ : ∃ ib : Nat, b = ib := ⟨b.toNat, by omega⟩
      simp only [Int.toNat_natCast] at hy hy2
      have e : nodeV l ⟨op, ia, ib, ⟨vk, vn, vs⟩, s⟩ = pairV op (l.getD ia nul) (l.getD ib nul) := by unfold nodeV; rw [if_neg (by simp only; omega), if_neg (by simp only; omega)]; rfl
      rw [e]
      cases hp : pairV op (l.getD ia nul) (l.getD ib nul) with
      | some r => exact node_two op vk vn ib ia m c B vs s l _ _ r A C R w ⟨by omega, h16⟩ hm hm2 hL hB hx hy hy2 hx2 hp
      | none => exact node_twoo op vk vn ib ia m c B vs s l _ _ A C R w ⟨by omega, h16⟩ hm hm2 hL hB hx hy hy2 hx2 hp
end Go.Proofs.Ytfgmlgflfagdjaa.ev
