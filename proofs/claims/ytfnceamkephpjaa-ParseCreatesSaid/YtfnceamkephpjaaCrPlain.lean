/- ParseCreates: what its texts are read as. Printed by gencr.py. -/
import Derived.Test.YtfnceamkephpjaaQ1
import Derived.Test.YtfnceamkephpjaaLA
namespace Go.Proofs.Ytfnceamkephpjaa.pg
open Go.Proofs.Ytfnceamkephpjaa.lx
set_option linter.unusedVariables false

/-- a column's kind, by number, and whether it may be null -/
structure KC where
  k : Nat
  n : Bool
def colNm (i : Nat) : List UInt8 := [99, UInt8.ofNat (48 + i)]
def kindT (k : Nat) : List UInt8 := if k = 0 then [98, 111, 111, 108] else if k = 1 then [105, 110, 116] else [116, 101, 120, 116]
def nulT (b : Bool) : List UInt8 := if b then [32, 110, 117, 108, 108] else []
def colT (i : Nat) (c : KC) : List UInt8 := colNm i ++ ([32] ++ (kindT c.k ++ (nulT c.n ++ [44])))
def colsT : Nat → List KC → List UInt8
  | _, [] => []
  | i, c :: r => colT i c ++ ([32] ++ colsT (i + 1) r)
def preT (only : Bool) : List UInt8 := if only then [99, 114, 101, 97, 116, 101, 32, 111, 110, 108, 121, 32, 116, 97, 98, 108, 101, 32, 116, 116, 32, 40] else [99, 114, 101, 97, 116, 101, 32, 116, 97, 98, 108, 101, 32, 116, 116, 32, 40]
def keyT (nm : List UInt8) : List UInt8 := [112, 114, 105, 109, 97, 114, 121, 32, 107, 101, 121, 32, 40] ++ (nm ++ [41, 41])
def crText (only : Bool) (L : List KC) (nm : List UInt8) : List UInt8 := preT only ++ (colsT 0 L ++ keyT nm)
def nulW (b : Bool) : List Wd := if b then [⟨1, 0, [110, 117, 108, 108]⟩] else []
def colW (i : Nat) (c : KC) : List Wd := ⟨1, 0, colNm i⟩ :: ⟨1, 0, kindT c.k⟩ :: (nulW c.n ++ [⟨4, 0, [44]⟩])
def colsW : Nat → List KC → List Wd
  | _, [] => []
  | i, c :: r => colW i c ++ colsW (i + 1) r
def onlyW (b : Bool) : List Wd := if b then [⟨1, 0, [111, 110, 108, 121]⟩] else []
def preW (only : Bool) : List Wd := ⟨1, 0, [99, 114, 101, 97, 116, 101]⟩ :: (onlyW only ++ [⟨1, 0, [116, 97, 98, 108, 101]⟩, ⟨1, 0, [116, 116]⟩, ⟨4, 0, [40]⟩])
def keyW (nm : List UInt8) : List Wd := [⟨1, 0, [112, 114, 105, 109, 97, 114, 121]⟩, ⟨1, 0, [107, 101, 121]⟩, ⟨4, 0, [40]⟩, ⟨1, 0, nm⟩, ⟨4, 0, [41]⟩, ⟨4, 0, [41]⟩]
def crWords (only : Bool) (L : List KC) (nm : List UInt8) : List Wd := preW only ++ (colsW 0 L ++ (keyW nm ++ [endW]))
theorem fr32 (l : List UInt8) : Free (32 :: l) := fun c q e => by injection e with e _; subst e; rfl
theorem lt8 {P : Nat → Prop} (i : Nat) (hi : i < 8) (h0 : P 0) (h1 : P 1) (h2 : P 2) (h3 : P 3) (h4 : P 4) (h5 : P 5) (h6 : P 6) (h7 : P 7) : P i := by
  have : i = 0 ∨ i = 1 ∨ i = 2 ∨ i = 3 ∨ i = 4 ∨ i = 5 ∨ i = 6 ∨ i = 7 := by omega
  rcases this with rfl | rfl | rfl | rfl | rfl | rfl | rfl | rfl <;> assumption
theorem lt3 {P : Nat → Prop} (i : Nat) (hi : i < 3) (h0 : P 0) (h1 : P 1) (h2 : P 2) : P i := by
  have : i = 0 ∨ i = 1 ∨ i = 2 := by omega
  rcases this with rfl | rfl | rfl <;> assumption
theorem col_l0 (k : Nat) (n : Bool) (hk : k = 0 ∨ k = 1 ∨ k = 2) : lexL (32 :: colT 0 ⟨k, n⟩) [] = (0, colW 0 ⟨k, n⟩) := by rcases hk with rfl | rfl | rfl <;> cases n <;> kernel_rfl
theorem col_l1 (k : Nat) (n : Bool) (hk : k = 0 ∨ k = 1 ∨ k = 2) : lexL (32 :: colT 1 ⟨k, n⟩) [] = (0, colW 1 ⟨k, n⟩) := by rcases hk with rfl | rfl | rfl <;> cases n <;> kernel_rfl
theorem col_l2 (k : Nat) (n : Bool) (hk : k = 0 ∨ k = 1 ∨ k = 2) : lexL (32 :: colT 2 ⟨k, n⟩) [] = (0, colW 2 ⟨k, n⟩) := by rcases hk with rfl | rfl | rfl <;> cases n <;> kernel_rfl
theorem col_l3 (k : Nat) (n : Bool) (hk : k = 0 ∨ k = 1 ∨ k = 2) : lexL (32 :: colT 3 ⟨k, n⟩) [] = (0, colW 3 ⟨k, n⟩) := by rcases hk with rfl | rfl | rfl <;> cases n <;> kernel_rfl
theorem col_l4 (k : Nat) (n : Bool) (hk : k = 0 ∨ k = 1 ∨ k = 2) : lexL (32 :: colT 4 ⟨k, n⟩) [] = (0, colW 4 ⟨k, n⟩) := by rcases hk with rfl | rfl | rfl <;> cases n <;> kernel_rfl
theorem col_l5 (k : Nat) (n : Bool) (hk : k = 0 ∨ k = 1 ∨ k = 2) : lexL (32 :: colT 5 ⟨k, n⟩) [] = (0, colW 5 ⟨k, n⟩) := by rcases hk with rfl | rfl | rfl <;> cases n <;> kernel_rfl
theorem col_l6 (k : Nat) (n : Bool) (hk : k = 0 ∨ k = 1 ∨ k = 2) : lexL (32 :: colT 6 ⟨k, n⟩) [] = (0, colW 6 ⟨k, n⟩) := by rcases hk with rfl | rfl | rfl <;> cases n <;> kernel_rfl
theorem col_l7 (k : Nat) (n : Bool) (hk : k = 0 ∨ k = 1 ∨ k = 2) : lexL (32 :: colT 7 ⟨k, n⟩) [] = (0, colW 7 ⟨k, n⟩) := by rcases hk with rfl | rfl | rfl <;> cases n <;> kernel_rfl
theorem col_lex (i : Nat) (c : KC) (hi : i < 8) (hk : c.k < 3) : lexL (32 :: colT i c) [] = (0, colW i c) := by
  obtain ⟨k, n⟩ := c
  have hk' : k = 0 ∨ k = 1 ∨ k = 2 := by simp only at hk; omega
  exact lt8 (P := fun i => lexL (32 :: colT i ⟨k, n⟩) [] = (0, colW i ⟨k, n⟩)) i hi (col_l0 k n hk') (col_l1 k n hk') (col_l2 k n hk') (col_l3 k n hk') (col_l4 k n hk') (col_l5 k n hk') (col_l6 k n hk') (col_l7 k n hk')
theorem pre_l (only : Bool) (k : Nat) (n : Bool) (hk : k = 0 ∨ k = 1 ∨ k = 2) : lexL (preT only ++ colT 0 ⟨k, n⟩) [] = (0, preW only ++ colW 0 ⟨k, n⟩) := by rcases hk with rfl | rfl | rfl <;> cases n <;> cases only <;> kernel_rfl
theorem pre_lex (only : Bool) (c : KC) (hk : c.k < 3) : lexL (preT only ++ colT 0 c) [] = (0, preW only ++ colW 0 c) := by
  obtain ⟨k, n⟩ := c
  exact pre_l only k n (by simp only at hk; omega)
theorem key_lex (i : Nat) (hi : i < 8) : lexL (32 :: keyT (colNm i)) [] = (0, keyW (colNm i)) :=
  lt8 (P := fun i => lexL (32 :: keyT (colNm i)) [] = (0, keyW (colNm i))) i hi (by kernel_rfl) (by kernel_rfl) (by kernel_rfl) (by kernel_rfl) (by kernel_rfl) (by kernel_rfl) (by kernel_rfl) (by kernel_rfl)
theorem zz_lex : lexL (32 :: keyT [122, 122]) [] = (0, keyW [122, 122]) := by kernel_rfl
def Kinds (L : List KC) : Prop := ∀ c ∈ L, c.k < 3
theorem cols_lex (r : List UInt8) : ∀ (L : List KC) (i : Nat) (out : List Wd), Kinds L → i + L.length ≤ 8 → lexL (32 :: (colsT i L ++ r)) out = lexL (32 :: r) (out ++ colsW i L)
  | [], i, out, _, _ => by simp [colsT, colsW]
  | c :: L, i, out, hk, hi => by
    have h1 := col_lex i c (by simp only [List.length_cons] at hi; omega) (hk c (List.mem_cons_self ..))
    have ih := cols_lex r L (i + 1) (out ++ colW i c) (fun x hx => hk x (List.mem_cons_of_mem _ hx)) (by simp only [List.length_cons] at hi; omega)
    have e : (32 :: (colsT i (c :: L) ++ r) : List UInt8) = (32 :: colT i c) ++ (32 :: (colsT (i + 1) L ++ r)) := by simp [colsT]
    rw [e, lex_seg out h1 (fr32 _), ih, colsW, List.append_assoc]
theorem cr_lex (only : Bool) (L : List KC) (nm : List UInt8) (hL : 1 ≤ L.length) (hL8 : L.length ≤ 8) (hk : Kinds L) (hn : lexL (32 :: keyT nm) [] = (0, keyW nm)) :
    lexL (crText only L nm) [] = (0, preW only ++ (colsW 0 L ++ keyW nm)) := by
  cases L with
  | nil => exact absurd hL (by simp)
  | cons c L =>
    have e : crText only (c :: L) nm = (preT only ++ colT 0 c) ++ (32 :: (colsT 1 L ++ keyT nm)) := by simp [crText, colsT]
    rw [e, lex_seg [] (pre_lex only c (hk c (List.mem_cons_self ..))) (fr32 _), cols_lex _ L 1 _ (fun x hx => hk x (List.mem_cons_of_mem _ hx)) (by simp only [List.length_cons] at hL8; omega), lex_last _ hn]
    simp [colsW]
theorem kindT_len (k : Nat) : (kindT k).length ≤ 4 := by
  unfold kindT
  split
  · decide
  split <;> decide
theorem nulT_len (b : Bool) : (nulT b).length ≤ 5 := by cases b <;> decide
theorem colT_len (i : Nat) (c : KC) : (colT i c).length ≤ 13 := by
  have h1 := kindT_len c.k
  have h2 := nulT_len c.n
  simp only [colT, colNm, List.length_append, List.length_cons, List.length_nil]
  omega
theorem colsT_len : ∀ (L : List KC) (i : Nat), (colsT i L).length ≤ 14 * L.length
  | [], i => by simp [colsT]
  | c :: L, i => by
    have h1 := colT_len i c
    have h2 := colsT_len L (i + 1)
    simp only [colsT, List.length_append, List.length_cons, List.length_nil]
    omega
theorem preT_len (only : Bool) : (preT only).length ≤ 22 := by cases only <;> decide
theorem crText_len (only : Bool) (L : List KC) (nm : List UInt8) (hL : L.length ≤ 8) (hn : nm.length ≤ 2) : (crText only L nm).length ≤ 151 := by
  have h1 := preT_len only
  have h2 := colsT_len L 0
  simp only [crText, keyT, List.length_append, List.length_cons, List.length_nil]
  omega
theorem cr_words (only : Bool) (L : List KC) (nm : List UInt8) (hL : 1 ≤ L.length) (hL8 : L.length ≤ 8) (hk : Kinds L) (hn : lexL (32 :: keyT nm) [] = (0, keyW nm)) (hn2 : nm.length ≤ 2) :
    wordsL (crText only L nm) = (0, crWords only L nm) := by
  have h := words_at (by have := crText_len only L nm hL8 hn2; omega) (cr_lex only L nm hL hL8 hk hn)
  rw [h]
  simp [crWords]
/-- what stands from a word on -/
def At (W : List Wd) (i : Nat) (l : List Wd) : Prop := W.drop i = l
section
variable {W : List Wd} {i : Nat} {w : Wd} {r : List Wd}
theorem At.tail (h : At W i (w :: r)) : At W (i + 1) r := by
  unfold At at *
  rw [← List.drop_drop, h]
  rfl
theorem At.cur (h : At W i (w :: r)) : cur W ⟨i, 0⟩ = w := by
  unfold At at h
  have : W[i]? = some w := by
    have h2 := congrArg (fun l => l[0]?) h
    simpa using h2
  simp [pg.cur, wAt, this]
theorem At.app {a b : List Wd} (h : At W i (a ++ b)) : At W (i + a.length) b := by
  unfold At at *
  rw [← List.drop_drop, h, List.drop_left]
theorem At.ok (h : At W i (w :: r)) (s : List UInt8) : okIs W s ⟨i, 0⟩ = ((decide (w.k = 1) || decide (w.k = 4)) && (w.s == s)) := by
  unfold okIs
  rw [h.cur]
theorem At.must (h : At W i (w :: r)) {s : List UInt8} (hw : ((decide (w.k = 1) || decide (w.k = 4)) && (w.s == s)) = true) : mustP W s ⟨i, 0⟩ = ⟨i + 1, 0⟩ := by
  unfold mustP
  rw [h.ok, if_pos hw]
  rfl
theorem At.is (h : At W i (w :: r)) (s : List UInt8) : isP W s ⟨i, 0⟩ = if ((decide (w.k = 1) || decide (w.k = 4)) && (w.s == s)) = true then ⟨i + 1, 0⟩ else ⟨i, 0⟩ := by
  unfold isP
  rw [h.ok]
  rfl
theorem At.name (h : At W i (w :: r)) (hk : w.k = 1) (hn : nameOk w.s = true) : nameP W ⟨i, 0⟩ = (w.s, ⟨i + 1, 0⟩) := by
  have : nameIs W ⟨i, 0⟩ = true := by
    unfold nameIs
    rw [h.cur, hk, hn]
    rfl
  unfold nameP
  rw [if_pos this, h.cur]
  rfl
end
def clOf (i : Nat) (c : KC) : Cl := ⟨colNm i, 1 + (c.k : Int), c.n⟩
def clsOf : Nat → List KC → List Cl
  | _, [] => []
  | i, c :: r => clOf i c :: clsOf (i + 1) r
theorem colNm_ok (i : Nat) (hi : i < 8) : nameOk (colNm i) = true := lt8 (P := fun i => nameOk (colNm i) = true) i hi (by decide +kernel) (by decide +kernel) (by decide +kernel) (by decide +kernel) (by decide +kernel) (by decide +kernel) (by decide +kernel) (by decide +kernel)
/-- a kind's word -/
theorem kind_at {W : List Wd} {i : Nat} {r : List Wd} (k : Nat) (hk : k < 3) (h : At W i (⟨1, 0, kindT k⟩ :: r)) : kindP W ⟨i, 0⟩ = (1 + (k : Int), ⟨i + 1, 0⟩) := by
  unfold kindP
  rw [h.ok, h.ok, h.ok]
  have : k = 0 ∨ k = 1 ∨ k = 2 := by omega
  rcases this with rfl | rfl | rfl <;> rfl
theorem cdef_at {W : List Wd} {i x : Nat} {r : List Wd} {c : KC} (hx : x < 8) (hk : c.k < 3) (h : At W i (colW x c ++ r)) :
    ∃ j, cdefP W ⟨i, 0⟩ = (clOf x c, ⟨j, 0⟩) ∧ mustP W [44] ⟨j, 0⟩ = ⟨j + 1, 0⟩ ∧ At W (j + 1) r := by
  obtain ⟨k, n⟩ := c
  have h1 : nameP W ⟨i, 0⟩ = (colNm x, ⟨i + 1, 0⟩) := At.name h rfl (colNm_ok x hx)
  have h2 := kind_at k hk (At.tail h)
  have h3 : At W (i + 1 + 1) ((nulW n ++ [⟨4, 0, [44]⟩]) ++ r) := At.tail (At.tail h)
  cases n with
  | false =>
    have h4 : At W (i + 1 + 1) (⟨4, 0, [44]⟩ :: r) := h3
    refine ⟨i + 1 + 1, ?_, h4.must rfl, h4.tail⟩
    unfold cdefP
    rw [h1]
    simp only
    rw [h2]
    simp only
    rw [h4.ok, h4.is]
    rfl
  | true =>
    have h4 : At W (i + 1 + 1) (⟨1, 0, [110, 117, 108, 108]⟩ :: ⟨4, 0, [44]⟩ :: r) := h3
    refine ⟨i + 1 + 1 + 1, ?_, h4.tail.must rfl, h4.tail.tail⟩
    unfold cdefP
    rw [h1]
    simp only
    rw [h2]
    simp only
    rw [h4.ok, h4.is]
    rfl
/-- the columns behind the first -/
theorem cols_at {W : List Wd} {nm : List UInt8} {z : List Wd} : ∀ (L : List KC) (i x f : Nat) (cs : List Cl), Kinds L → cs.length = x → x + L.length ≤ 8 → 1 ≤ x → x ≤ 6 → f + x = 8 → At W i (colsW x L ++ (keyW nm ++ z)) →
    (x + L.length ≤ 6 ∧ ∃ j, colsP W f cs ⟨i, 0⟩ = (cs ++ clsOf x L, ⟨j, 0⟩) ∧ At W j (keyW nm ++ z).tail) ∨ (6 < x + L.length ∧ ∃ cs' j, colsP W f cs ⟨i, 0⟩ = (cs', ⟨j, 4⟩))
  | [], i, x, f, cs, hk, hc, h8, h1, h6, hf, h => by
    obtain ⟨f, rfl⟩ : ∃ g, f = g + 1 := ⟨f - 1, by omega⟩
    have h0 : At W i (⟨1, 0, [112, 114, 105, 109, 97, 114, 121]⟩ :: ((keyW nm ++ z).tail)) := h
    refine .inl ⟨by simpa using h6, i + 1, ?_, h0.tail⟩
    unfold colsP
    rw [if_pos rfl, show okIs W [112, 114, 105, 109, 97, 114, 121] ⟨i, 0⟩ = true from h0.ok _, if_pos rfl]
    simp [clsOf, stepP]
  | c :: L, i, x, f, cs, hk, hc, h8, h1, h6, hf, h => by
    obtain ⟨f, rfl⟩ : ∃ g, f = g + 1 := ⟨f - 1, by omega⟩
    simp only [List.length_cons] at h8 ⊢
    have hp : At W i (⟨1, 0, colNm x⟩ :: (⟨1, 0, kindT c.k⟩ :: (nulW c.n ++ [⟨4, 0, [44]⟩]) ++ colsW (x + 1) L ++ (keyW nm ++ z))) := by
      have := h
      simp only [colsW, colW, List.cons_append, List.append_assoc] at this ⊢
      exact this
    have hnp : okIs W [112, 114, 105, 109, 97, 114, 121] ⟨i, 0⟩ = false := by
      rw [hp.ok]
      simp [colNm]
    by_cases h66 : 6 ≤ cs.length
    · refine .inr ⟨by omega, cs, i, ?_⟩
      unfold colsP
      rw [if_pos rfl, hnp, if_neg (by simp), if_pos h66]
      rfl
    · have hcx : At W i (colW x c ++ (colsW (x + 1) L ++ (keyW nm ++ z))) := by rw [← List.append_assoc]; exact h
      obtain ⟨j, e1, e2, h3⟩ := cdef_at (by omega) (hk c (List.mem_cons_self ..)) hcx
      have hstep : colsP W (f + 1) cs ⟨i, 0⟩ = colsP W f (cs ++ [clOf x c]) ⟨j + 1, 0⟩ := by
        conv => lhs; unfold colsP
        rw [if_pos rfl, hnp, if_neg (by simp), if_neg h66, e1]
        simp only
        rw [e2]
      rw [hstep]
      rcases cols_at (nm := nm) (z := z) L (j + 1) (x + 1) f (cs ++ [clOf x c]) (fun y hy => hk y (List.mem_cons_of_mem _ hy)) (by simp [hc]) (by omega) (by omega) (by omega) (by omega) h3 with ⟨a, k, b, d⟩ | ⟨a, cs', k, b⟩
      · exact .inl ⟨by omega, k, by rw [b, List.append_assoc]; rfl, d⟩
      · exact .inr ⟨by omega, cs', k, b⟩
theorem colNm_inj : ∀ a b : Nat, a < 8 → b < 8 → (colNm a == colNm b) = decide (a = b) := by
  intro a b ha hb
  have h : ∀ a : Fin 8, ∀ b : Fin 8, (colNm a.1 == colNm b.1) = decide (a.1 = b.1) := by decide +kernel
  exact h ⟨a, ha⟩ ⟨b, hb⟩
theorem find_key : ∀ (L : List KC) (i k : Nat), k < L.length → i + L.length ≤ 8 → (clsOf i L).findIdx? (fun x => x.nm == colNm (i + k)) = some k
  | [], i, k, h, _ => absurd h (by simp)
  | c :: L, i, 0, h, h8 => by simp [clsOf, clOf, List.findIdx?_cons]
  | c :: L, i, k + 1, h, h8 => by
    simp only [List.length_cons] at h h8
    have ih := find_key L (i + 1) k (by omega) (by omega)
    have hne : ((clOf i c).nm == colNm (i + (k + 1))) = false := by
      show (colNm i == colNm (i + (k + 1))) = false
      rw [colNm_inj _ _ (by omega) (by omega)]
      simp
    rw [clsOf, List.findIdx?_cons, hne]
    rw [show i + 1 + k = i + (k + 1) by omega] at ih
    rw [ih]
    rfl
theorem find_zz : ∀ (L : List KC) (i : Nat), (clsOf i L).findIdx? (fun x => x.nm == [122, 122]) = none
  | [], i => rfl
  | c :: L, i => by
    have hne : ((clOf i c).nm == [122, 122]) = false := by simp [clOf, colNm]
    rw [clsOf, List.findIdx?_cons, hne, find_zz L (i + 1)]
    rfl
/-- a parser that has failed stays so -/
theorem cur_bad {W : List Wd} {i : Nat} {e : Int} (he : e ≠ 0) : cur W ⟨i, e⟩ = endW := if_neg he
theorem must_bad {W : List Wd} {i : Nat} {e : Int} (he : e ≠ 0) (s : List UInt8) : mustP W s ⟨i, e⟩ = ⟨i, e⟩ := by
  unfold mustP okIs
  rw [cur_bad he]
  exact (if_neg (by simp [endW])).trans (if_neg he)
theorem mustL_bad {W : List Wd} {i : Nat} {e : Int} (he : e ≠ 0) : ∀ l : List (List UInt8), mustL W l ⟨i, e⟩ = ⟨i, e⟩
  | [] => rfl
  | s :: l => by rw [mustL, must_bad he, mustL_bad he l]
theorem name_bad {W : List Wd} {i : Nat} {e : Int} (he : e ≠ 0) : nameP W ⟨i, e⟩ = ([], ⟨i, e⟩) := by
  unfold nameP nameIs
  rw [cur_bad he]
  exact (if_neg (by simp [endW])).trans (by rw [show failP 6 ⟨i, e⟩ = (⟨i, e⟩ : Pp) from if_neg he])
theorem stmt_w {l : List UInt8} {W : List Wd} (h : wordsL l = (0, W)) : stmtL l = stmtW W := by
  unfold stmtL
  rw [h]
  exact if_pos rfl
def crSt (only : Bool) (cs : List Cl) (k : Int) : St := { St0 with kind := 1, sn := [116, 116], cols := cs, key := k, only := only }
/-- up to the columns -/
theorem create_head (only : Bool) (c : KC) (L : List KC) (nm : List UInt8) (hk : Kinds (c :: L)) (h8 : L.length ≤ 7) :
    (L.length ≤ 5 ∧ ∃ j, At (crWords only (c :: L) nm) j (keyW nm ++ [endW]).tail ∧ createP (crWords only (c :: L) nm) ⟨1, 0⟩ = match nameP (crWords only (c :: L) nm) (mustL (crWords only (c :: L) nm) [[107, 101, 121], [40]] ⟨j, 0⟩) with | (k, p9) => (crSt only (clsOf 0 (c :: L)) (keyOf (clsOf 0 (c :: L)) k), mustL (crWords only (c :: L) nm) [[41], [41]] p9))
    ∨ (5 < L.length ∧ ∃ st j, createP (crWords only (c :: L) nm) ⟨1, 0⟩ = (st, ⟨j, 4⟩)) := by
  have h0 : At (crWords only (c :: L) nm) 0 (⟨1, 0, [99, 114, 101, 97, 116, 101]⟩ :: (onlyW only ++ (⟨1, 0, [116, 97, 98, 108, 101]⟩ :: ⟨1, 0, [116, 116]⟩ :: ⟨4, 0, [40]⟩ :: (colW 0 c ++ (colsW 1 L ++ (keyW nm ++ [endW])))))) := by
    unfold At crWords preW
    simp [colsW.eq_2]
  obtain ⟨W, hW⟩ : ∃ W, crWords only (c :: L) nm = W := ⟨_, rfl⟩
  rw [hW] at h0 ⊢
  clear hW
  have h1 := h0.tail
  obtain ⟨j, ho, hi, h2⟩ : ∃ j, okIs W [111, 110, 108, 121] ⟨1, 0⟩ = only ∧ isP W [111, 110, 108, 121] ⟨1, 0⟩ = ⟨j, 0⟩ ∧ At W j (⟨1, 0, [116, 97, 98, 108, 101]⟩ :: ⟨1, 0, [116, 116]⟩ :: ⟨4, 0, [40]⟩ :: (colW 0 c ++ (colsW 1 L ++ (keyW nm ++ [endW])))) := by
    cases only with
    | false =>
      have a : At W 1 (⟨1, 0, [116, 97, 98, 108, 101]⟩ :: ⟨1, 0, [116, 116]⟩ :: ⟨4, 0, [40]⟩ :: (colW 0 c ++ (colsW 1 L ++ (keyW nm ++ [endW])))) := h1
      exact ⟨1, a.ok _, a.is _, a⟩
    | true =>
      have a : At W 1 (⟨1, 0, [111, 110, 108, 121]⟩ :: ⟨1, 0, [116, 97, 98, 108, 101]⟩ :: ⟨1, 0, [116, 116]⟩ :: ⟨4, 0, [40]⟩ :: (colW 0 c ++ (colsW 1 L ++ (keyW nm ++ [endW])))) := h1
      exact ⟨2, a.ok _, a.is _, a.tail⟩
  have e3 := h2.must (s := [116, 97, 98, 108, 101]) rfl
  have e4 := h2.tail.name rfl (show nameOk [116, 116] = true by decide +kernel)
  have e5 := h2.tail.tail.must (s := [40]) rfl
  obtain ⟨j2, e6, e7, h6⟩ := cdef_at (by decide) (hk c (List.mem_cons_self ..)) h2.tail.tail.tail
  have hcr : createP W ⟨1, 0⟩ = match colsP W 7 [clOf 0 c] ⟨j2 + 1, 0⟩ with
      | (cs, p7) => match nameP W (mustL W [[107, 101, 121], [40]] p7) with
        | (k, p9) => (crSt only cs (keyOf cs k), mustL W [[41], [41]] p9) := by
    unfold createP
    rw [hi, e3, e4]
    simp only
    rw [e5, e6]
    simp only
    rw [e7, ho]
    rfl
  rcases cols_at (nm := nm) (z := [endW]) L (j2 + 1) 1 7 [clOf 0 c] (fun y hy => hk y (List.mem_cons_of_mem _ hy)) rfl (by omega) (by decide) (by decide) rfl h6 with ⟨a, k, b, d⟩ | ⟨a, cs', k, b⟩
  · refine .inl ⟨by omega, k, d, ?_⟩
    rw [hcr, b]
    rfl
  · refine .inr ⟨by omega, crSt only cs' (keyOf cs' []), k, ?_⟩
    rw [hcr, b]
    simp only
    rw [mustL_bad (by decide), name_bad (by decide)]
    simp only
    rw [mustL_bad (by decide)]
theorem start_at {W : List Wd} {r : List Wd} (h : At W 0 (⟨1, 0, [99, 114, 101, 97, 116, 101]⟩ :: r)) : stmtW W = finP W (createP W ⟨1, 0⟩) := by
  have hc := h.cur
  have hn : nextP W ⟨0, 0⟩ = ⟨1, 0⟩ := by
    unfold nextP
    rw [hc]
    exact if_neg (by decide)
  have hd : doP W [99, 114, 101, 97, 116, 101] = some (createP W) := if_pos rfl
  unfold stmtW
  rw [hc]
  simp only
  rw [hd]
  simp only
  rw [hn]
  exact if_pos trivial
theorem cr_start (only : Bool) (L : List KC) (nm : List UInt8) : ∃ r, At (crWords only L nm) 0 (⟨1, 0, [99, 114, 101, 97, 116, 101]⟩ :: r) := by
  exact ⟨onlyW only ++ [⟨1, 0, [116, 97, 98, 108, 101]⟩, ⟨1, 0, [116, 116]⟩, ⟨4, 0, [40]⟩] ++ (colsW 0 L ++ (keyW nm ++ [endW])), by unfold At crWords preW; simp⟩
theorem fin_bad {W : List Wd} {st : St} {j : Nat} : finP W (st, ⟨j, 4⟩) = (4, St0) := by
  have he : endP W ⟨j, 4⟩ = ⟨j, 4⟩ := by
    unfold endP
    rw [cur_bad (by decide)]
    rfl
  have hl : lastP W (st, ⟨j, 4⟩) = ⟨j, 4⟩ := by
    unfold lastP
    simp only
    rw [he]
    by_cases h : st.kind = 1 ∧ st.key < 0
    · rw [if_pos h]; rfl
    · rw [if_neg h]
  unfold finP
  rw [hl]
  rfl
theorem fin_good {W : List Wd} {st : St} {j : Nat} (h : At W j [endW]) : finP W (st, ⟨j, 0⟩) = if st.kind = 1 ∧ st.key < 0 then (2, St0) else (0, st) := by
  have he : endP W ⟨j, 0⟩ = ⟨j, 0⟩ := by
    unfold endP
    rw [h.cur]
    rfl
  unfold finP lastP
  simp only
  rw [he]
  by_cases h : st.kind = 1 ∧ st.key < 0
  · rw [if_pos h, if_pos h]; rfl
  · rw [if_neg h, if_neg h]; rfl
/-- what a text of ParseCreates is read as -/
theorem create_read (only : Bool) (L : List KC) (nm : List UInt8) (hL : 1 ≤ L.length) (hL8 : L.length ≤ 8) (hk : Kinds L) (hn : lexL (32 :: keyT nm) [] = (0, keyW nm)) (hn2 : nm.length ≤ 2) (hno : nameOk nm = true) :
    stmtL (crText only L nm) = if 6 < L.length then (4, St0) else if keyOf (clsOf 0 L) nm < 0 then (2, St0) else (0, crSt only (clsOf 0 L) (keyOf (clsOf 0 L) nm)) := by
  rw [stmt_w (cr_words only L nm hL hL8 hk hn hn2)]
  obtain ⟨r, hs⟩ := cr_start only L nm
  rw [start_at hs]
  cases L with
  | nil => exact absurd hL (by simp)
  | cons c L =>
    simp only [List.length_cons] at hL8 ⊢
    rcases create_head only c L nm hk (by omega) with ⟨h5, j, h, e⟩ | ⟨h5, st, j, e⟩
    · rw [if_neg (by omega), e]
      have h0 : At (crWords only (c :: L) nm) j (⟨1, 0, [107, 101, 121]⟩ :: ⟨4, 0, [40]⟩ :: ⟨1, 0, nm⟩ :: ⟨4, 0, [41]⟩ :: ⟨4, 0, [41]⟩ :: [endW]) := h
      have m1 : mustL (crWords only (c :: L) nm) [[107, 101, 121], [40]] ⟨j, 0⟩ = ⟨j + 2, 0⟩ := by
        rw [mustL, h0.must rfl, mustL, h0.tail.must rfl, mustL]
      have m2 := h0.tail.tail.name rfl hno
      have m3 : mustL (crWords only (c :: L) nm) [[41], [41]] ⟨j + 3, 0⟩ = ⟨j + 5, 0⟩ := by
        rw [mustL, h0.tail.tail.tail.must rfl, mustL, h0.tail.tail.tail.tail.must rfl, mustL]
      rw [m1, m2]
      simp only
      rw [m3, fin_good h0.tail.tail.tail.tail.tail]
      by_cases hkey : keyOf (clsOf 0 (c :: L)) nm < 0
      · rw [if_pos ⟨rfl, hkey⟩, if_pos hkey]
      · rw [if_neg (fun x => hkey x.2), if_neg hkey]
    · rw [if_pos (by omega), e, fin_bad]
theorem key_of (L : List KC) (k : Nat) (hk : k < L.length) (h8 : L.length ≤ 8) : keyOf (clsOf 0 L) (colNm k) = (k : Int) := by
  have h := find_key L 0 k hk (by omega)
  rw [Nat.zero_add] at h
  unfold keyOf findC
  rw [h]
  rfl
theorem key_zz (L : List KC) : keyOf (clsOf 0 L) [122, 122] = -1 := by
  unfold keyOf findC
  rw [find_zz]
  rfl
theorem create_key (only : Bool) (L : List KC) (k : Nat) (hk0 : k < L.length) (hL8 : L.length ≤ 8) (hk : Kinds L) :
    stmtL (crText only L (colNm k)) = if 6 < L.length then (4, St0) else (0, crSt only (clsOf 0 L) k) := by
  rw [create_read only L (colNm k) (by omega) hL8 hk (key_lex k (by omega)) (Nat.le_refl 2) (colNm_ok k (by omega)), key_of L k hk0 hL8]
  rw [if_neg (c := (k : Int) < 0) (by omega)]
theorem create_miss (only : Bool) (L : List KC) (hL : 1 ≤ L.length) (hL8 : L.length ≤ 8) (hk : Kinds L) :
    stmtL (crText only L [122, 122]) = if 6 < L.length then (4, St0) else (2, St0) := by
  rw [create_read only L [122, 122] hL hL8 hk zz_lex (by decide) (by decide +kernel), key_zz L]
  rfl
end Go.Proofs.Ytfnceamkephpjaa.pg
