/- The plain law of the order of values: no program in sight. -/
import Derived.Test.YtfgmlgflfagdjaaB
namespace Go.Proofs.Ytfgmlgflfagdjaa.val
open Go.RowKit Go.Proofs.Ytfgmlgflfagdjaa.lib
set_option linter.unusedVariables false

theorem cb_refl : ∀ a : List UInt8, Lib.compareBytes a a = 0
  | [] => rfl
  | a :: ar => by
    unfold Lib.compareBytes
    rw [if_neg (by simp), if_neg (by simp)]
    exact cb_refl ar
theorem cb_anti : ∀ a b : List UInt8, Lib.compareBytes b a = - Lib.compareBytes a b
  | [], [] => rfl
  | [], _ :: _ => rfl
  | _ :: _, [] => rfl
  | a :: ar, b :: br => by
    unfold Lib.compareBytes
    by_cases h1 : a < b
    · have h2 : ¬ b < a := by simp only [UInt8.lt_iff_toNat_lt] at *; omega
      simp [h1, h2]
    · by_cases h2 : b < a
      · simp [h1, h2]
      · simp only [h1, h2, if_false]
        exact cb_anti ar br
theorem cb_zero : ∀ a b : List UInt8, Lib.compareBytes a b = 0 → a = b
  | [], [], _ => rfl
  | [], _ :: _, h => by simp [Lib.compareBytes] at h
  | _ :: _, [], h => by simp [Lib.compareBytes] at h
  | a :: ar, b :: br, h => by
    unfold Lib.compareBytes at h
    by_cases h1 : a < b
    · simp [h1] at h
    · by_cases h2 : b < a
      · simp [h1, h2] at h
      · simp only [h1, h2, if_false] at h
        have e : a = b := by
          apply UInt8.toNat_inj.1
          simp only [UInt8.lt_iff_toNat_lt] at h1 h2
          omega
        rw [e, cb_zero ar br h]
theorem cb_bd : ∀ a b : List UInt8, -1 ≤ Lib.compareBytes a b ∧ Lib.compareBytes a b ≤ 1
  | [], [] => by simp [Lib.compareBytes]
  | [], _ :: _ => by simp [Lib.compareBytes]
  | _ :: _, [] => by simp [Lib.compareBytes]
  | a :: ar, b :: br => by
    unfold Lib.compareBytes
    split
    · omega
    · split
      · omega
      · exact cb_bd ar br
/-- what stands ahead of one that stands ahead, stands ahead -/
theorem cb_trans : ∀ a b c : List UInt8, Lib.compareBytes a b ≤ 0 → Lib.compareBytes b c ≤ 0 → Lib.compareBytes a c ≤ 0 ∧ (Lib.compareBytes a b < 0 → Lib.compareBytes a c < 0) ∧ (Lib.compareBytes b c < 0 → Lib.compareBytes a c < 0)
  | [], [], [], _, _ => by simp [Lib.compareBytes]
  | [], [], _ :: _, _, _ => by simp [Lib.compareBytes]
  | [], _ :: _, [], _, h => by simp [Lib.compareBytes] at h
  | [], _ :: _, _ :: _, _, _ => by simp [Lib.compareBytes]
  | _ :: _, [], _, h, _ => by simp [Lib.compareBytes] at h
  | _ :: _, _ :: _, [], _, h => by simp [Lib.compareBytes] at h
  | a :: ar, b :: br, c :: cr, h1, h2 => by
    have ih := cb_trans ar br cr
    have e : ∀ (x y : UInt8) (l m : List UInt8), Lib.compareBytes (x :: l) (y :: m) = if x.toNat < y.toNat then -1 else if y.toNat < x.toNat then 1 else Lib.compareBytes l m := fun x y l m => by
      rw [Lib.compareBytes]; simp only [UInt8.lt_iff_toNat_lt]
    rw [e] at h1 h2
    rw [e, e, e]
    by_cases x1 : a.toNat < b.toNat
    · rw [if_pos x1]
      by_cases y1 : b.toNat < c.toNat
      · have z : a.toNat < c.toNat := by omega
        rw [if_pos z]; exact ⟨by omega, fun _ => by omega, fun _ => by omega⟩
      · rw [if_neg y1] at h2
        by_cases y2 : c.toNat < b.toNat
        · rw [if_pos y2] at h2; omega
        · have z : a.toNat < c.toNat := by omega
          rw [if_pos z]; exact ⟨by omega, fun _ => by omega, fun _ => by omega⟩
    · rw [if_neg x1] at h1 ⊢
      by_cases x2 : b.toNat < a.toNat
      · rw [if_pos x2] at h1; omega
      · rw [if_neg x2] at h1 ⊢
        by_cases y1 : b.toNat < c.toNat
        · have z : a.toNat < c.toNat := by omega
          rw [if_pos z]; exact ⟨by omega, fun _ => by omega, fun _ => by omega⟩
        · rw [if_neg y1] at h2 ⊢
          by_cases y2 : c.toNat < b.toNat
          · rw [if_pos y2] at h2; omega
          · rw [if_neg y2] at h2 ⊢
            have z1 : ¬ a.toNat < c.toNat := by omega
            have z2 : ¬ c.toNat < a.toNat := by omega
            rw [if_neg z1, if_neg z2]
            exact ih h1 h2

/-- a value as data -/
structure V where
  k : Int
  n : Int
  s : ByteArray
def V.val (v : V) : Value := .agg #[.int .i64 v.k, .int .i64 v.n, .string v.s]
def cmpV (a b : V) : Int := or3 (ord a.k b.k) (ord a.n b.n) (Lib.compareBytes a.s.data.toList b.s.data.toList)

theorem cmpV_refl (a : V) : cmpV a a = 0 := by simp [cmpV, or3, ord, cb_refl]
theorem ord_anti (a b : Int) : ord b a = - ord a b := by unfold ord; split <;> split <;> first | rfl | omega
theorem cmpV_anti (a b : V) : cmpV b a = - cmpV a b := by
  unfold cmpV or3
  rw [ord_anti a.k b.k, ord_anti a.n b.n, cb_anti a.s.data.toList b.s.data.toList]
  by_cases h1 : ord a.k b.k = 0 <;> by_cases h2 : ord a.n b.n = 0 <;> simp [h1, h2]
theorem ord_zero {a b : Int} (h : ord a b = 0) : a = b := by
  unfold ord at h
  split at h
  · cases h
  · split at h
    · cases h
    · omega
theorem ord_bd (a b : Int) : -1 ≤ ord a b ∧ ord a b ≤ 1 := by
  unfold ord
  split
  · omega
  · split <;> omega
theorem cmpV_bd (a b : V) : -1 ≤ cmpV a b ∧ cmpV a b ≤ 1 := by
  have h1 := ord_bd a.k b.k
  have h2 := ord_bd a.n b.n
  have h3 := cb_bd a.s.data.toList b.s.data.toList
  unfold cmpV or3
  split
  · split <;> assumption
  · assumption
theorem bytes_ext {s t : ByteArray} (h : s.data.toList = t.data.toList) : s = t := by
  cases s; cases t; simp at h; simp [h]
theorem beqBA (a b : ByteArray) : (a == b) = true ↔ a = b := by
  rw [beq_toListBytes, ByteArray.toList_eq, ByteArray.toList_eq, beq_iff_eq]
  exact ⟨bytes_ext, fun h => by rw [h]⟩
theorem cmpV_zero (a b : V) : cmpV a b = 0 ↔ vEq a.k a.n a.s b.k b.n b.s = true := by
  constructor
  · intro h
    unfold cmpV or3 at h
    by_cases h1 : ord a.k b.k = 0
    · rw [if_pos h1] at h
      by_cases h2 : ord a.n b.n = 0
      · rw [if_pos h2] at h
        rw [vEq, ord_zero h1, ord_zero h2, bytes_ext (cb_zero _ _ h)]
        simp [beqBA]
      · rw [if_neg h2] at h; exact absurd h h2
    · rw [if_neg h1] at h; exact absurd h h1
  · intro h
    unfold vEq at h
    simp only [Bool.and_eq_true, beq_iff_eq, beqBA] at h
    obtain ⟨h1, h2, h3⟩ := h
    unfold cmpV
    rw [h1, h2, h3]
    simp [or3, ord, cb_refl]
theorem ord_trans (a b c : Int) : ord a b ≤ 0 → ord b c ≤ 0 → ord a c ≤ 0 ∧ (ord a b < 0 → ord a c < 0) ∧ (ord b c < 0 → ord a c < 0) := by
  unfold ord
  repeat' split
  all_goals omega
/-- three comparisons that hang together -/
def Hang (x y z : Int) : Prop := (x ≤ 0 → y ≤ 0 → z ≤ 0) ∧ (x < 0 → y ≤ 0 → z < 0) ∧ (x ≤ 0 → y < 0 → z < 0) ∧ (x = 0 → y = 0 → z = 0)
theorem hang_lex {a1 a2 a3 b1 b2 b3 : Int} (h : Hang a1 a2 a3) (k : Hang b1 b2 b3) : Hang (if a1 = 0 then b1 else a1) (if a2 = 0 then b2 else a2) (if a3 = 0 then b3 else a3) := by
  unfold Hang at *
  by_cases x1 : a1 = 0 <;> by_cases x2 : a2 = 0 <;> by_cases x3 : a3 = 0 <;> (first | rw [if_pos x1] | rw [if_neg x1]) <;> (first | rw [if_pos x2] | rw [if_neg x2]) <;> (first | rw [if_pos x3] | rw [if_neg x3]) <;> omega
theorem ord_hang (a b c : Int) : Hang (ord a b) (ord b c) (ord a c) := by
  have h := ord_trans a b c
  exact ⟨fun x y => (h x y).1, fun x y => (h (by omega) y).2.1 x, fun x y => (h x (by omega)).2.2 y, fun x y => by rw [ord_zero x, ord_zero y]; simp [ord]⟩
theorem cb_hang (a b c : List UInt8) : Hang (Lib.compareBytes a b) (Lib.compareBytes b c) (Lib.compareBytes a c) := by
  have h := cb_trans a b c
  exact ⟨fun x y => (h x y).1, fun x y => (h (by omega) y).2.1 x, fun x y => (h x (by omega)).2.2 y, fun x y => by rw [cb_zero _ _ x, cb_zero _ _ y]; exact cb_refl _⟩
theorem cmpV_hang (a b c : V) : Hang (cmpV a b) (cmpV b c) (cmpV a c) :=
  hang_lex (ord_hang _ _ _) (hang_lex (ord_hang _ _ _) (cb_hang _ _ _))
end Go.Proofs.Ytfgmlgflfagdjaa.val
