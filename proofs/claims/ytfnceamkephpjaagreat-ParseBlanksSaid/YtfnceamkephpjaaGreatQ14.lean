/- Statements: what begins with which word. Printed by genq14.py. -/
import Derived.Test.YtfnceamkephpjaaGreatQ13
namespace Go.Proofs.YtfnceamkephpjaaGreat.pg
open Go.ChangeShapes Go.WideShapes Go.ChangeAt Go.RowKit Go.Proofs.YtfnceamkephpjaaGreat.lib Go.Proofs.YtfnceamkephpjaaGreat.lx
set_option linter.unusedVariables false

def stmtM (g b7 b8 : Nat) : List (List UInt8 × Value) := [([99, 114, 101, 97, 116, 101], Value.func (.func 25) #[.pointer (some ⟨g, 0, none⟩)] #[]), ([100, 114, 111, 112], Value.func (.func 26) #[.pointer (some ⟨g, 0, none⟩)] #[]), ([105, 110, 115, 101, 114, 116], Value.func (.func 27) #[.pointer (some ⟨g, 0, none⟩)] #[]), ([117, 112, 100, 97, 116, 101], Value.func (.func 28) #[.pointer (some ⟨g, 0, none⟩)] #[]), ([100, 101, 108, 101, 116, 101], Value.func (.func 29) #[.pointer (some ⟨g, 0, none⟩)] #[]), ([115, 101, 108, 101, 99, 116], Value.func (.func 30) #[.pointer (some ⟨g, 0, none⟩)] #[]), ([98, 101, 103, 105, 110], Value.func (.func 24) #[] #[.pointer (some ⟨b7, 0, none⟩)]), ([99, 111, 109, 109, 105, 116], Value.func (.func 24) #[] #[.pointer (some ⟨b8, 0, none⟩)]), ([114, 111, 108, 108, 98, 97, 99, 107], Value.func (.func 31) #[.pointer (some ⟨g, 0, none⟩)] #[]), ([115, 97, 118, 101, 112, 111, 105, 110, 116], Value.func (.func 32) #[.pointer (some ⟨g, 0, none⟩)] #[])]
set_option maxRecDepth 100000 in
theorem st1_ (k : Int) (w : World) : Calls Tryz.prog 23 #[.int .i64 k] w fun e w' => ∃ bx, e = .returned (.func (.func 24) #[] #[.pointer (some ⟨bx, 0, none⟩)]) ∧ w'.cell? ⟨bx, 0, none⟩ = some (.int .i64 k) ∧ w.heap.size ≤ bx ∧ bx < w'.heap.size ∧ Below w.heap.size w w' := by
  have hmf : ∀ (fn : Fn) (first cap : Array Value) (w : World), (Instr.makeFunc fn first cap).run Tryz.prog w = .ok (.func fn first cap) w := fun _ _ _ _ => rfl
  go_enter Tryz.func23, Tryz.ntmps23
  go_wp2
  go_ret
  exact ⟨_, rfl, (Blk.new w _ _).cell 0, Nat.le_refl _, by simp, (Below.refl _ _).alloc (Nat.le_refl _) _⟩
/-- a box keeps its cell while another block grows -/
theorem box_grown {w w' : World} {bx m : Nat} {x : Value} (h : w.cell? ⟨bx, 0, none⟩ = some x) (hl : bx < w.heap.size) (hg : w.grownBy w' (some m)) (hne : bx ≠ m) : w'.cell? ⟨bx, 0, none⟩ = some x ∧ bx < w'.heap.size :=
  ⟨(World.cell?_of_block (hg.block bx hl (by simpa using hne))).trans h, Nat.lt_of_lt_of_le hl hg.size⟩
set_option maxRecDepth 100000 in
set_option maxHeartbeats 4000000 in
theorem statements_ (g : Nat) (w : World) : Calls Tryz.prog 12 #[.pointer (some ⟨g, 0, none⟩)] w fun e w' => ∃ m b7 b8, e = .returned (.map (some m)) ∧ MapAt w' m (stmtM g b7 b8) ∧ w.heap.size ≤ m ∧ w'.cell? ⟨b7, 0, none⟩ = some (.int .i64 7) ∧ w'.cell? ⟨b8, 0, none⟩ = some (.int .i64 8) ∧ w.heap.size ≤ b7 ∧ w.heap.size ≤ b8 ∧ b7 < w'.heap.size ∧ b8 < w'.heap.size ∧ Below w.heap.size w w' := by
  have hmm := @run_makeMap Tryz.prog
  have hmf : ∀ (fn : Fn) (first cap : Array Value) (w : World), (Instr.makeFunc fn first cap).run Tryz.prog w = .ok (.func fn first cap) w := fun _ _ _ _ => rfl
  go_enter Tryz.func12, Tryz.ntmps12
  go_wp2_with (first | ((with_reducible show wpList _ _ _ (Oper.mk _ (Op.insert _ _ _ _) _ _ _ _ :: _) _ _); refine wpList_put_lit rfl _ _ _ 55 (.inl rfl) 9 53 Tryz.underlying55 Tryz.underlying9 w.heap.size [([99, 114, 101, 97, 116, 101], Value.func (.func 25) #[.pointer (some ⟨g, 0, none⟩)] #[]), ([100, 114, 111, 112], Value.func (.func 26) #[.pointer (some ⟨g, 0, none⟩)] #[]), ([105, 110, 115, 101, 114, 116], Value.func (.func 27) #[.pointer (some ⟨g, 0, none⟩)] #[]), ([117, 112, 100, 97, 116, 101], Value.func (.func 28) #[.pointer (some ⟨g, 0, none⟩)] #[]), ([100, 101, 108, 101, 116, 101], Value.func (.func 29) #[.pointer (some ⟨g, 0, none⟩)] #[]), ([115, 101, 108, 101, 99, 116], Value.func (.func 30) #[.pointer (some ⟨g, 0, none⟩)] #[]), ([98, 101, 103, 105, 110], Value.func (.func 24) #[] #[.pointer (some ⟨b7, 0, none⟩)]), ([99, 111, 109, 109, 105, 116], Value.func (.func 24) #[] #[.pointer (some ⟨b8, 0, none⟩)]), ([114, 111, 108, 108, 98, 97, 99, 107], Value.func (.func 31) #[.pointer (some ⟨g, 0, none⟩)] #[])] rfl hM9 [115, 97, 118, 101, 112, 111, 105, 110, 116] (Value.func (.func 32) #[.pointer (some ⟨g, 0, none⟩)] #[]) rfl rfl (by rfl) ?_; intro v10 hM10 hg10) | ((with_reducible show wpList _ _ _ (Oper.mk _ (Op.insert _ _ _ _) _ _ _ _ :: _) _ _); refine wpList_put_lit rfl _ _ _ 55 (.inl rfl) 9 53 Tryz.underlying55 Tryz.underlying9 w.heap.size [([99, 114, 101, 97, 116, 101], Value.func (.func 25) #[.pointer (some ⟨g, 0, none⟩)] #[]), ([100, 114, 111, 112], Value.func (.func 26) #[.pointer (some ⟨g, 0, none⟩)] #[]), ([105, 110, 115, 101, 114, 116], Value.func (.func 27) #[.pointer (some ⟨g, 0, none⟩)] #[]), ([117, 112, 100, 97, 116, 101], Value.func (.func 28) #[.pointer (some ⟨g, 0, none⟩)] #[]), ([100, 101, 108, 101, 116, 101], Value.func (.func 29) #[.pointer (some ⟨g, 0, none⟩)] #[]), ([115, 101, 108, 101, 99, 116], Value.func (.func 30) #[.pointer (some ⟨g, 0, none⟩)] #[]), ([98, 101, 103, 105, 110], Value.func (.func 24) #[] #[.pointer (some ⟨b7, 0, none⟩)]), ([99, 111, 109, 109, 105, 116], Value.func (.func 24) #[] #[.pointer (some ⟨b8, 0, none⟩)])] rfl hM8 [114, 111, 108, 108, 98, 97, 99, 107] (Value.func (.func 31) #[.pointer (some ⟨g, 0, none⟩)] #[]) rfl rfl (by rfl) ?_; intro v9 hM9 hg9) | ((with_reducible show wpList _ _ _ (Oper.mk _ (Op.insert _ _ _ _) _ _ _ _ :: _) _ _); refine wpList_put_lit rfl _ _ _ 55 (.inl rfl) 9 53 Tryz.underlying55 Tryz.underlying9 w.heap.size [([99, 114, 101, 97, 116, 101], Value.func (.func 25) #[.pointer (some ⟨g, 0, none⟩)] #[]), ([100, 114, 111, 112], Value.func (.func 26) #[.pointer (some ⟨g, 0, none⟩)] #[]), ([105, 110, 115, 101, 114, 116], Value.func (.func 27) #[.pointer (some ⟨g, 0, none⟩)] #[]), ([117, 112, 100, 97, 116, 101], Value.func (.func 28) #[.pointer (some ⟨g, 0, none⟩)] #[]), ([100, 101, 108, 101, 116, 101], Value.func (.func 29) #[.pointer (some ⟨g, 0, none⟩)] #[]), ([115, 101, 108, 101, 99, 116], Value.func (.func 30) #[.pointer (some ⟨g, 0, none⟩)] #[]), ([98, 101, 103, 105, 110], Value.func (.func 24) #[] #[.pointer (some ⟨b7, 0, none⟩)])] rfl hM7 [99, 111, 109, 109, 105, 116] (Value.func (.func 24) #[] #[.pointer (some ⟨b8, 0, none⟩)]) rfl rfl (by rfl) ?_; intro v8 hM8 hg8) | ((with_reducible show wpList _ _ _ (Oper.mk _ (Op.insert _ _ _ _) _ _ _ _ :: _) _ _); refine wpList_put_lit rfl _ _ _ 55 (.inl rfl) 9 53 Tryz.underlying55 Tryz.underlying9 w.heap.size [([99, 114, 101, 97, 116, 101], Value.func (.func 25) #[.pointer (some ⟨g, 0, none⟩)] #[]), ([100, 114, 111, 112], Value.func (.func 26) #[.pointer (some ⟨g, 0, none⟩)] #[]), ([105, 110, 115, 101, 114, 116], Value.func (.func 27) #[.pointer (some ⟨g, 0, none⟩)] #[]), ([117, 112, 100, 97, 116, 101], Value.func (.func 28) #[.pointer (some ⟨g, 0, none⟩)] #[]), ([100, 101, 108, 101, 116, 101], Value.func (.func 29) #[.pointer (some ⟨g, 0, none⟩)] #[]), ([115, 101, 108, 101, 99, 116], Value.func (.func 30) #[.pointer (some ⟨g, 0, none⟩)] #[])] rfl hM6 [98, 101, 103, 105, 110] (Value.func (.func 24) #[] #[.pointer (some ⟨b7, 0, none⟩)]) rfl rfl (by rfl) ?_; intro v7 hM7 hg7) | ((with_reducible show wpList _ _ _ (Oper.mk _ (Op.insert _ _ _ _) _ _ _ _ :: _) _ _); refine wpList_put_lit rfl _ _ _ 55 (.inl rfl) 9 53 Tryz.underlying55 Tryz.underlying9 w.heap.size [([99, 114, 101, 97, 116, 101], Value.func (.func 25) #[.pointer (some ⟨g, 0, none⟩)] #[]), ([100, 114, 111, 112], Value.func (.func 26) #[.pointer (some ⟨g, 0, none⟩)] #[]), ([105, 110, 115, 101, 114, 116], Value.func (.func 27) #[.pointer (some ⟨g, 0, none⟩)] #[]), ([117, 112, 100, 97, 116, 101], Value.func (.func 28) #[.pointer (some ⟨g, 0, none⟩)] #[]), ([100, 101, 108, 101, 116, 101], Value.func (.func 29) #[.pointer (some ⟨g, 0, none⟩)] #[])] rfl hM5 [115, 101, 108, 101, 99, 116] (Value.func (.func 30) #[.pointer (some ⟨g, 0, none⟩)] #[]) rfl rfl (by rfl) ?_; intro v6 hM6 hg6) | ((with_reducible show wpList _ _ _ (Oper.mk _ (Op.insert _ _ _ _) _ _ _ _ :: _) _ _); refine wpList_put_lit rfl _ _ _ 55 (.inl rfl) 9 53 Tryz.underlying55 Tryz.underlying9 w.heap.size [([99, 114, 101, 97, 116, 101], Value.func (.func 25) #[.pointer (some ⟨g, 0, none⟩)] #[]), ([100, 114, 111, 112], Value.func (.func 26) #[.pointer (some ⟨g, 0, none⟩)] #[]), ([105, 110, 115, 101, 114, 116], Value.func (.func 27) #[.pointer (some ⟨g, 0, none⟩)] #[]), ([117, 112, 100, 97, 116, 101], Value.func (.func 28) #[.pointer (some ⟨g, 0, none⟩)] #[])] rfl hM4 [100, 101, 108, 101, 116, 101] (Value.func (.func 29) #[.pointer (some ⟨g, 0, none⟩)] #[]) rfl rfl (by rfl) ?_; intro v5 hM5 hg5) | ((with_reducible show wpList _ _ _ (Oper.mk _ (Op.insert _ _ _ _) _ _ _ _ :: _) _ _); refine wpList_put_lit rfl _ _ _ 55 (.inl rfl) 9 53 Tryz.underlying55 Tryz.underlying9 w.heap.size [([99, 114, 101, 97, 116, 101], Value.func (.func 25) #[.pointer (some ⟨g, 0, none⟩)] #[]), ([100, 114, 111, 112], Value.func (.func 26) #[.pointer (some ⟨g, 0, none⟩)] #[]), ([105, 110, 115, 101, 114, 116], Value.func (.func 27) #[.pointer (some ⟨g, 0, none⟩)] #[])] rfl hM3 [117, 112, 100, 97, 116, 101] (Value.func (.func 28) #[.pointer (some ⟨g, 0, none⟩)] #[]) rfl rfl (by rfl) ?_; intro v4 hM4 hg4) | ((with_reducible show wpList _ _ _ (Oper.mk _ (Op.insert _ _ _ _) _ _ _ _ :: _) _ _); refine wpList_put_lit rfl _ _ _ 55 (.inl rfl) 9 53 Tryz.underlying55 Tryz.underlying9 w.heap.size [([99, 114, 101, 97, 116, 101], Value.func (.func 25) #[.pointer (some ⟨g, 0, none⟩)] #[]), ([100, 114, 111, 112], Value.func (.func 26) #[.pointer (some ⟨g, 0, none⟩)] #[])] rfl hM2 [105, 110, 115, 101, 114, 116] (Value.func (.func 27) #[.pointer (some ⟨g, 0, none⟩)] #[]) rfl rfl (by rfl) ?_; intro v3 hM3 hg3) | ((with_reducible show wpList _ _ _ (Oper.mk _ (Op.insert _ _ _ _) _ _ _ _ :: _) _ _); refine wpList_put_lit rfl _ _ _ 55 (.inl rfl) 9 53 Tryz.underlying55 Tryz.underlying9 w.heap.size [([99, 114, 101, 97, 116, 101], Value.func (.func 25) #[.pointer (some ⟨g, 0, none⟩)] #[])] rfl hM1 [100, 114, 111, 112] (Value.func (.func 26) #[.pointer (some ⟨g, 0, none⟩)] #[]) rfl rfl (by rfl) ?_; intro v2 hM2 hg2) | ((with_reducible show wpList _ _ _ (Oper.mk _ (Op.insert _ _ _ _) _ _ _ _ :: _) _ _); refine wpList_put_lit rfl _ _ _ 55 (.inl rfl) 9 53 Tryz.underlying55 Tryz.underlying9 w.heap.size [] rfl (MapAt.new _) [99, 114, 101, 97, 116, 101] (Value.func (.func 25) #[.pointer (some ⟨g, 0, none⟩)] #[]) rfl rfl (by rfl) ?_; intro v1 hM1 hg1) | (refine (st1_ 7 _).mono ?_; rintro e c7 ⟨b7, rfl, hc7, hl7, hh7, hb7⟩; have hM6 := hM6.ext hb7) | (refine (st1_ 8 _).mono ?_; rintro e c8 ⟨b8, rfl, hc8, hl8, hh8, hb8⟩; have hM7 := hM7.ext hb8))
  have k0 : Below w.heap.size w (w.alloc (.map #[] 0)) := (Below.refl w.heap.size w).alloc (Nat.le_refl _) (.map #[] 0)
  have k1 := k0.grown hg1 k0.size (by intro k hk; injection hk with hk; omega)
  have k2 := k1.grown hg2 k1.size (by intro k hk; injection hk with hk; omega)
  have k3 := k2.grown hg3 k2.size (by intro k hk; injection hk with hk; omega)
  have k4 := k3.grown hg4 k3.size (by intro k hk; injection hk with hk; omega)
  have k5 := k4.grown hg5 k4.size (by intro k hk; injection hk with hk; omega)
  have k6 := k5.grown hg6 k5.size (by intro k hk; injection hk with hk; omega)
  have kc7 := Below.trans k6 (Below.mono hb7 k6.size)
  have k7 := kc7.grown hg7 kc7.size (by intro k hk; injection hk with hk; omega)
  have kc8 := Below.trans k7 (Below.mono hb8 k7.size)
  have k8 := kc8.grown hg8 kc8.size (by intro k hk; injection hk with hk; omega)
  have k9 := k8.grown hg9 k8.size (by intro k hk; injection hk with hk; omega)
  have k10 := k9.grown hg10 k9.size (by intro k hk; injection hk with hk; omega)
  have m6 := hM6.lt
  have n6 := k6.size
  have n7 := k7.size
  have y0 : (w.alloc (.map #[] 0)).heap.size = w.heap.size + 1 := by simp
  have y1 := hg1.size
  have y2 := hg2.size
  have y3 := hg3.size
  have y4 := hg4.size
  have y5 := hg5.size
  have y6 := hg6.size
  have z6 : w.heap.size < v6.heap.size := by omega
  have a7 := box_grown hc7 hh7 hg7 (by omega)
  have a7' : c8.cell? ⟨b7, 0, none⟩ = some (.int .i64 7) ∧ b7 < c8.heap.size := ⟨(hb8.cell (p := ⟨b7, 0, none⟩) a7.2).trans a7.1, Nat.lt_of_lt_of_le a7.2 hb8.size⟩
  have z7 : v6.heap.size ≤ v7.heap.size := Nat.le_trans hb7.size hg7.size
  have a8 := box_grown a7'.1 a7'.2 hg8 (by omega)
  have a9 := box_grown a8.1 a8.2 hg9 (by omega)
  have a10 := box_grown a9.1 a9.2 hg10 (by omega)
  have d8 := box_grown hc8 hh8 hg8 (by omega)
  have d9 := box_grown d8.1 d8.2 hg9 (by omega)
  have d10 := box_grown d9.1 d9.2 hg10 (by omega)
  have R := Lib.hid (show ∃ m b7 b8, Ending.returned (.map (some w.heap.size)) = .returned (.map (some m)) ∧ MapAt v10 m (stmtM g b7 b8) ∧ w.heap.size ≤ m ∧ v10.cell? ⟨b7, 0, none⟩ = some (.int .i64 7) ∧ v10.cell? ⟨b8, 0, none⟩ = some (.int .i64 8) ∧ w.heap.size ≤ b7 ∧ w.heap.size ≤ b8 ∧ b7 < v10.heap.size ∧ b8 < v10.heap.size ∧ Below w.heap.size w v10 from ⟨w.heap.size, b7, b8, rfl, hM10, Nat.le_refl _, a10.1, d10.1, by omega, by omega, a10.2, d10.2, k10⟩)
  clear hmm hmf hM1 hM2 hM3 hM4 hM5 hM6 hM7 hM8 hM9 hM10
  refine bodyPost_ret (v := .map (some w.heap.size)) ?_ rfl R.out
  simp [results, Tryz.results12, go_sem]
  try rfl
theorem zeroF (w : World) : (zeroValue 53).run Tryz.prog w = .ok .nilFunc w := by kernel_rfl
/-- what the first word leads to -/
inductive Lk (W : List Wd) (g b7 b8 : Nat) (s : List UInt8) : Value × Bool → Prop
  | rule (fs : Nat) (f : List Wd → Pp → St × Pp) (hd : doP W s = some (f W)) (hc : StmC fs (fun g => #[.pointer (some ⟨g, 0, none⟩)]) f) (he : ∀ args w, (callFunc fs args).run Tryz.prog w = .ok (.enter fs args) w) : Lk W g b7 b8 s (.func (.func fs) #[.pointer (some ⟨g, 0, none⟩)] #[], true)
  | bare (k : Int) (bx : Nat) (hd : doP W s = some (bareP k)) (hx : (k = 7 ∧ bx = b7) ∨ (k = 8 ∧ bx = b8)) : Lk W g b7 b8 s (.func (.func 24) #[] #[.pointer (some ⟨bx, 0, none⟩)], true)
  | none (hd : doP W s = .none) : Lk W g b7 b8 s (.nilFunc, false)
theorem look_ (W : List Wd) (g b7 b8 : Nat) (s : List UInt8) : Lk W g b7 b8 s (mlook (stmtM g b7 b8) s .nilFunc) := by
  by_cases h0 : s = [99, 114, 101, 97, 116, 101]
  · subst h0
    exact .rule 25 createP rfl create_ (enters_of Tryz.func25 (by kernel_rfl) rfl)
  by_cases h1 : s = [100, 114, 111, 112]
  · subst h1
    exact .rule 26 dropP rfl drop_ (enters_of Tryz.func26 (by kernel_rfl) rfl)
  by_cases h2 : s = [105, 110, 115, 101, 114, 116]
  · subst h2
    exact .rule 27 insertP rfl insert_ (enters_of Tryz.func27 (by kernel_rfl) rfl)
  by_cases h3 : s = [117, 112, 100, 97, 116, 101]
  · subst h3
    exact .rule 28 updateP rfl update_ (enters_of Tryz.func28 (by kernel_rfl) rfl)
  by_cases h4 : s = [100, 101, 108, 101, 116, 101]
  · subst h4
    exact .rule 29 delP rfl del_ (enters_of Tryz.func29 (by kernel_rfl) rfl)
  by_cases h5 : s = [115, 101, 108, 101, 99, 116]
  · subst h5
    exact .rule 30 selP rfl sel_ (enters_of Tryz.func30 (by kernel_rfl) rfl)
  by_cases h6 : s = [98, 101, 103, 105, 110]
  · subst h6
    exact .bare 7 _ rfl (.inl ⟨rfl, rfl⟩)
  by_cases h7 : s = [99, 111, 109, 109, 105, 116]
  · subst h7
    exact .bare 8 _ rfl (.inr ⟨rfl, rfl⟩)
  by_cases h8 : s = [114, 111, 108, 108, 98, 97, 99, 107]
  · subst h8
    exact .rule 31 rollP rfl roll_ (enters_of Tryz.func31 (by kernel_rfl) rfl)
  by_cases h9 : s = [115, 97, 118, 101, 112, 111, 105, 110, 116]
  · subst h9
    exact .rule 32 saveP rfl save_ (enters_of Tryz.func32 (by kernel_rfl) rfl)
  have hn : mlook (stmtM g b7 b8) s .nilFunc = (.nilFunc, false) := by
    unfold mlook stmtM
    rw [List.find?_cons_of_neg (by simpa using fun e => h0 e.symm), List.find?_cons_of_neg (by simpa using fun e => h1 e.symm), List.find?_cons_of_neg (by simpa using fun e => h2 e.symm), List.find?_cons_of_neg (by simpa using fun e => h3 e.symm), List.find?_cons_of_neg (by simpa using fun e => h4 e.symm), List.find?_cons_of_neg (by simpa using fun e => h5 e.symm), List.find?_cons_of_neg (by simpa using fun e => h6 e.symm), List.find?_cons_of_neg (by simpa using fun e => h7 e.symm), List.find?_cons_of_neg (by simpa using fun e => h8 e.symm), List.find?_cons_of_neg (by simpa using fun e => h9 e.symm)]
    rfl
  rw [hn]
  refine .none ?_
  unfold doP
  rw [if_neg h0, if_neg h1, if_neg h2, if_neg h3, if_neg h4, if_neg h5, if_neg h6, if_neg h7, if_neg h8, if_neg h9]
end Go.Proofs.YtfnceamkephpjaaGreat.pg
