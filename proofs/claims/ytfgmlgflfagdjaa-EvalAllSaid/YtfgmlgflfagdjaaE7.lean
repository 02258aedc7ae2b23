/- Contract: kind at a column's name; kind as a whole. -/
import Derived.Test.YtfgmlgflfagdjaaE6
namespace Go.Proofs.Ytfgmlgflfagdjaa.ev
open Go.ChangeShapes Go.WideShapes Go.ChangeAt Go.RowKit Go.Proofs.Ytfgmlgflfagdjaa.lib Go.Proofs.Ytfgmlgflfagdjaa.val
set_option linter.unusedVariables false

theorem kind_colbad (op a b vk vn : Int) (vs s : ByteArray) (at_ c er : Int) (L C : Value) (w : World) (hop : op = 2) (her : er ≠ 0)
    (hf : ∀ w', Below w.heap.size w w' → Calls Try.prog 49 #[.string s, C] w' fun e w'' => e = .returned (two (c, er)) ∧ Below w'.heap.size w' w'') :
    Calls Try.prog 36 #[.agg #[.int .i64 op, .int .i64 a, .int .i64 b, .int .i64 vk, .int .i64 vn, .string vs, .string s], .int .i64 at_, L, C] w fun e w' => e = .returned (two (0, er)) ∧ Below w.heap.size w w' := by
  subst hop
  have he1 : (er == 0) = false := by simpa using her
  go_enter Try.func36, Try.ntmps36
  go_wp2_with fail
  obtain ⟨W, hW_, hbW, B1⟩ : ∃ W_, W_ = (w.alloc (.cells #[.int .i64 2, .int .i64 a, .int .i64 b, .int .i64 vk, .int .i64 vn, .string vs, .string s] 36)) ∧ Below w.heap.size w W_ ∧ Blk W_ (w.heap.size) 36 #[.int .i64 2, .int .i64 a, .int .i64 b, .int .i64 vk, .int .i64 vn, .string vs, .string s] :=
    ⟨_, rfl, ((Below.refl _ _).alloc (Nat.le_refl _) _), (blk_new_at w (w.heap.size) _ _ (by simp))⟩
  rw [← hW_]
  clear hW_
  have q1 := seven B1 (Below.refl _ _)
  go_wp2_with fail
  clear q1
  refine (partsr 2 0 rfl _).mono ?_
  rintro e w1 ⟨rfl, rfl⟩
  have q1 := seven B1 (Below.refl _ _)
  go_wp2_with fail
  clear q1
  refine (hf _ (by exact hbW)).mono ?_
  rintro e w2 ⟨rfl, hb2⟩
  unfold two
  go_wp2
  go_ret2
  exact ⟨rfl, Below.trans hbW (Below.mono hb2 hbW.size)⟩

theorem kind_colok (op a b vk vn : Int) (vs s : ByteArray) (at_ k : Int) (j len cap bk off : Nat) (L : Value) (w : World) (hop : op = 2) (hj : j < len) (hj2 : len < 1000)
    (hf : ∀ w', Below w.heap.size w w' → Calls Try.prog 49 #[.string s, .slice (some ⟨bk, off, none⟩) len cap] w' fun e w'' => e = .returned (two (j, 0)) ∧ Below w'.heap.size w' w'')
    (hlt : bk < w.heap.size) (hc : w.cell? ⟨bk, off + j * 3 + 1, none⟩ = some (.int .i64 k)) :
    Calls Try.prog 36 #[.agg #[.int .i64 op, .int .i64 a, .int .i64 b, .int .i64 vk, .int .i64 vn, .string vs, .string s], .int .i64 at_, L, .slice (some ⟨bk, off, none⟩) len cap] w fun e w' => e = .returned (two (k, 0)) ∧ Below w.heap.size w w' := by
  subst hop
  go_enter Try.func36, Try.ntmps36
  go_wp2_with fail
  obtain ⟨W, hW_, hbW, B1⟩ : ∃ W_, W_ = (w.alloc (.cells #[.int .i64 2, .int .i64 a, .int .i64 b, .int .i64 vk, .int .i64 vn, .string vs, .string s] 36)) ∧ Below w.heap.size w W_ ∧ Blk W_ (w.heap.size) 36 #[.int .i64 2, .int .i64 a, .int .i64 b, .int .i64 vk, .int .i64 vn, .string vs, .string s] :=
    ⟨_, rfl, ((Below.refl _ _).alloc (Nat.le_refl _) _), (blk_new_at w (w.heap.size) _ _ (by simp))⟩
  rw [← hW_]
  clear hW_
  have q1 := seven B1 (Below.refl _ _)
  go_wp2_with fail
  clear q1
  refine (partsr 2 0 rfl _).mono ?_
  rintro e w1 ⟨rfl, rfl⟩
  have q1 := seven B1 (Below.refl _ _)
  go_wp2_with fail
  clear q1
  refine (hf _ (by exact hbW)).mono ?_
  rintro e w2 ⟨rfl, hb2⟩
  unfold two
  have hb3 : Below w.heap.size w w2 := Below.trans hbW (Below.mono hb2 hbW.size)
  have qc : w2.cell? ⟨bk, off + j * 3 + 1, none⟩ = some (.int .i64 k) := (hb3.cell (by exact hlt)).trans hc
  go_wp2
  go_ret2
  exact ⟨rfl, hb3⟩

/-- how the columns answer: F what find says, G the kind -/
def ColOK (w : World) (B : Nat) (C : Value) (F : ByteArray → Int × Int) (G : ByteArray → Int) (n : Nd) : Prop :=
  n.op = 2 → (∀ w', Below B w w' → Calls Try.prog 49 #[.string n.s, C] w' fun e w'' => e = .returned (two (F n.s)) ∧ Below w'.heap.size w' w'') ∧
    ((F n.s).2 = 0 → ∃ j bk off len cap : Nat, (F n.s).1 = j ∧ C = .slice (some ⟨bk, off, none⟩) len cap ∧ j < len ∧ len < 1000 ∧ bk < B ∧ w.cell? ⟨bk, off + j * 3 + 1, none⟩ = some (.int .i64 (G n.s)))
def kindN (F : ByteArray → Int × Int) (G : ByteArray → Int) (ks : List Int) (n : Nd) : Int × Int :=
  if partsV n.op = -1 then (0, 1) else if n.op = 1 then (n.v.k, chk n.v.k n.v.n n.v.s) else if n.op = 2 then (if (F n.s).2 = 0 then (G n.s, 0) else (0, (F n.s).2)) else
  if n.a < 0 ∨ (ks.length : Int) ≤ n.a then (0, 1) else if n.op ≤ 5 then madeV n.op (ks.getD n.a.toNat 0) (ks.getD n.a.toNat 0) else
  if n.b < 0 ∨ (ks.length : Int) ≤ n.b then (0, 1) else madeV n.op (ks.getD n.a.toNat 0) (ks.getD n.b.toNat 0)

theorem kind (n : Nd) (ks : List Int) (c B Bl : Nat) (A : Option Addr) (C : Value) (F : ByteArray → Int × Int) (G : ByteArray → Int) (w0 w : World) (hw : Below B w0 w) (hB : B ≤ w0.heap.size) (hl : ks.length < 1000)
    (hr : Reads w Bl 1 A ks.length (ks.map (Value.int .i64))) (hBl : Bl ≤ w.heap.size) (hc : ColOK w0 B C F G n) (hs : n.v.s.size ≤ maxLen) :
    Calls Try.prog 36 #[n.val, .int .i64 ks.length, .slice A ks.length c, C] w fun e w' => e = .returned (two (kindN F G ks n)) ∧ Below w.heap.size w w' := by
  have hBw : B ≤ w.heap.size := Nat.le_trans hB hw.size
  unfold kindN
  by_cases h1 : partsV n.op = -1
  · rw [if_pos h1]; exact kind_none n _ _ _ w h1
  rw [if_neg h1]
  by_cases h2 : n.op = 1
  · rw [if_pos h2]; exact kind_val n _ _ _ w h2 hs
  rw [if_neg h2]
  by_cases h3 : n.op = 2
  · rw [if_pos h3]
    obtain ⟨hf, hg⟩ := hc h3
    have hf' : ∀ w', Below w.heap.size w w' → Calls Try.prog 49 #[.string n.s, C] w' fun e w'' => e = .returned (two (F n.s)) ∧ Below w'.heap.size w' w'' :=
      fun w' h => hf w' (Below.trans hw (Below.mono h hBw))
    by_cases h4 : (F n.s).2 = 0
    · rw [if_pos h4]
      obtain ⟨j, bk, off, len, cap, hj, rfl, hjl, hl, hbk, hcell⟩ := hg h4
      have e : F n.s = ((j : Int), 0) := by rw [← hj, ← h4]
      rw [e] at hf'
      exact kind_colok n.op n.a n.b n.v.k n.v.n n.v.s n.s _ (G n.s) j len cap bk off _ w h3 hjl hl hf' (by omega) ((hw.cell (by exact hbk)).trans hcell)
    · rw [if_neg h4]
      exact kind_colbad n.op n.a n.b n.v.k n.v.n n.v.s n.s _ (F n.s).1 (F n.s).2 _ _ w h3 h4 hf'
  rw [if_neg h3]
  have hop : 3 ≤ n.op ∧ n.op ≤ 16 := by
    unfold partsV at h1
    rw [if_neg (by omega)] at h1
    by_cases h5 : n.op = 3 ∨ n.op = 4 ∨ n.op = 5
    · omega
    · rw [if_neg h5] at h1
      by_cases h6 : 6 ≤ n.op ∧ n.op ≤ 16
      · omega
      · rw [if_neg h6] at h1; exact absurd rfl h1
  by_cases ha : n.a < 0
  · rw [if_pos (.inl ha)]
    by_cases h5 : n.op ≤ 5
    · exact kind_a1lo n _ _ _ w ⟨hop.1, h5⟩ ha
    · exact kind_a2lo n _ _ _ w ⟨by omega, hop.2⟩ ha
  by_cases ha2 : (ks.length : Int) ≤ n.a
  · rw [if_pos (.inr ha2)]
    by_cases h5 : n.op ≤ 5
    · exact kind_a1hi n _ _ _ w ⟨hop.1, h5⟩ (by omega) ha2
    · exact kind_a2hi n _ _ _ w ⟨by omega, hop.2⟩ (by omega) ha2
  rw [if_neg (by omega)]
  by_cases h5 : n.op ≤ 5
  · rw [if_pos h5]
    exact kind_one n n.a.toNat ks.length c Bl ks A C w ⟨hop.1, h5⟩ (by omega) (by omega) hl hr hBl
  rw [if_neg h5]
  by_cases hb : n.b < 0
  · rw [if_pos (.inl hb)]; exact kind_b2lo n _ _ _ w ⟨by omega, hop.2⟩ (by omega) (by omega) hb
  by_cases hb2 : (ks.length : Int) ≤ n.b
  · rw [if_pos (.inr hb2)]; exact kind_b2hi n _ _ _ w ⟨by omega, hop.2⟩ (by omega) (by omega) (by omega) hb2
  rw [if_neg (by omega)]
  exact kind_two n n.a.toNat n.b.toNat ks.length c Bl ks A C w ⟨by omega, hop.2⟩ (by omega) (by omega) (by omega) (by omega) hl hr hBl
end Go.Proofs.Ytfgmlgflfagdjaa.ev
