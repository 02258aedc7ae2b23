/- What an expression that compares two values of one kind is worth. -/
import Derived.Test.YtfgmlgflfagdjaaMO1
import Derived.Test.YtfgmlgflfagdjaaCmp
namespace Go.Proofs.Ytfgmlgflfagdjaa.ev
open Go.ChangeShapes Go.WideShapes Go.ChangeAt Go.RowKit Go.Proofs.Ytfgmlgflfagdjaa.lib Go.Proofs.Ytfgmlgflfagdjaa.val
set_option linter.unusedVariables false

theorem bs_beq (s : ByteArray) : (s == s) = true := by
  first | exact beq_self_eq_true _ | (rw [beq_toListBytes]; simp) | (rw [← beq_toListBytes]; simp) | (show (s.data == s.data) = true; simp)
theorem chk_text (s : ByteArray) (h : s.size ≤ 60) : chk 3 0 s = 0 := by
  have e : vEq 3 0 s 3 (bareN 3 0) (bareS 3 s) = true := by
    unfold vEq bareN bareS
    rw [if_neg (by omega), if_pos rfl, bs_beq]; rfl
  unfold chk
  rw [if_neg (by omega), if_neg (by rw [e]; simp), if_neg (by omega)]
/-- a number or a text, as the law lays it -/
def Plain (u : V) : Prop := (u.k = 2 ∧ u.s = ByteArray.empty) ∨ (u.k = 3 ∧ u.n = 0 ∧ u.s.size ≤ 40)
theorem Plain.chk {u : V} (h : Plain u) : chk u.k u.n u.s = 0 := by
  rcases h with ⟨h1, h2⟩ | ⟨h1, h2, h3⟩
  · rw [h1, h2]; exact chk_int _
  · rw [h1, h2]; exact chk_text _ (by omega)
theorem Plain.size {u : V} (h : Plain u) : u.s.size ≤ 40 := by
  rcases h with ⟨h1, h2⟩ | ⟨h1, h2, h3⟩
  · rw [h2]; decide
  · exact h3
theorem cmp_same {u v : V} (hu : Plain u) (hv : Plain v) (hk : u.k = v.k) : cmpV u v = rcmpV u v := by
  unfold cmpV rcmpV or3
  have h0 : ord v.k v.k = 0 := by simp [ord]
  rw [hk, if_pos h0, if_neg (show ¬ (v.k ≠ v.k) by simp)]
  rcases hu with ⟨h1, h2⟩ | ⟨h1, h2, h3⟩
  · rcases hv with ⟨g1, g2⟩ | ⟨g1, _⟩
    · rw [if_pos (show v.k ≠ 3 by omega), h2, g2]
      by_cases h : ord u.n v.n = 0
      · rw [if_pos h, h]; rfl
      · rw [if_neg h]
    · omega
  · rcases hv with ⟨g1, g2⟩ | ⟨g1, g2, g3⟩
    · omega
    · rw [if_neg (show ¬ (v.k ≠ 3) by omega), h2, g2, if_pos (show ord 0 0 = 0 by simp [ord])]
theorem kind_plain {u : V} (h : Plain u) (ks : List Int) : kindN (fun _ => (0, 0)) (fun _ => 0) ks (nv u) = (u.k, 0) := by
  unfold kindN nv
  rw [if_neg (show ¬ partsV 1 = -1 by decide), if_pos rfl]
  exact Prod.ext rfl h.chk
theorem evCmp (op : Int) {u v : V} (hop : 8 ≤ op ∧ op ≤ 13) (hu : Plain u) (hv : Plain v) (hk : u.k = v.k) : EvV [nv u, nv v, nb op 0 1] = .tuple #[.agg #[.int .i64 1, .int .i64 (if opcode op (rcmpV u v) 0 then 1 else 0), .string ⟨#[]⟩], .int .i64 0] := by
  have hk0 : u.k ≠ 0 := by rcases hu with ⟨h, _⟩ | ⟨h, _⟩ <;> omega
  have hm : madeV op u.k v.k = (1, 0) := by
    unfold madeV fitsV
    rw [if_neg (by omega), if_pos hop, if_neg hk0, if_neg (show ¬ (op = 4 ∨ 14 ≤ op) by omega), if_pos (by simp [hk])]
  have hkb : kindN (fun _ => (0, 0)) (fun _ => 0) [u.k, v.k] (nb op 0 1) = (1, 0) := by
    have hp : partsV op = 2 := by unfold partsV; rw [if_neg (by omega), if_neg (by omega), if_pos (by omega)]
    unfold kindN nb
    simp only [hp]
    rw [if_neg (by decide), if_neg (by omega), if_neg (by omega), if_neg (by simp), if_neg (by omega), if_neg (by simp)]
    exact hm
  have hkv : KindV (fun _ => (0, 0)) (fun _ => 0) [nv u, nv v, nb op 0 1] = (1, 0) := by
    unfold KindV
    rw [if_neg (by simp)]
    simp only [kindsV, kind_plain hu, kind_plain hv, if_true, List.nil_append, List.cons_append, hkb]
    rfl
  have h2 : nodeV [u, v] (nb op 0 1) = some (tru (opcode op (rcmpV u v) 0)) := by
    unfold nodeV nb
    simp only
    rw [if_neg (by omega), if_neg (by omega)]
    show pairV op u v = _
    unfold pairV
    rw [if_neg (by omega), if_neg (by omega), if_neg (by omega), if_neg (by omega), if_pos (.inr hop), cmp_same hu hv hk]
    have : ∀ c n : Int, opcode op c n = opcode op c 0 := by intro c n; simp only [opcode, if_neg (show ¬ op = 3 by omega)]
    rw [this _ u.n]
  have h1 : ∀ vs v, nodeV vs (nv v) = some v := fun _ _ => rfl
  unfold EvV
  rw [hkv, if_pos rfl]
  simp only [valsV, h1, Option.bind_some, List.nil_append, List.cons_append, h2]
  rfl
end Go.Proofs.Ytfgmlgflfagdjaa.ev
