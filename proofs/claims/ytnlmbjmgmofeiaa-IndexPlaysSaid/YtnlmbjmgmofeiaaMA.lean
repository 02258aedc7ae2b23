/- Plain: a value's key bytes: they stand in the order of the values, and none is a front of another. -/
import Derived.Test.YtnlmbjmgmofeiaaTp
import Derived.Test.YtnlmbjmgmofeiaaFr
import Derived.Test.YtnlmbjmgmofeiaaT3
import Derived.Deep.CutRange
import Derived.OwnWalk
import Derived.Laws.AppendOwnNone
import Derived.Test.YtnlmbjmgmofeiaaTl
import Derived.Lib.BytesEntry
import Derived.Laws.LoneSync
import Derived.Tactics2
namespace Go.Proofs.Ytnlmbjmgmofeiaa.ix
open Go.ChangeShapes Go.WideShapes Go.ChangeAt Go.RowKit Go.Proofs.Ytnlmbjmgmofeiaa.lib Go.Proofs.Ytnlmbjmgmofeiaa.val Go.Proofs.Ytnlmbjmgmofeiaa.tb
set_option linter.unusedVariables false

/-- the k lowest bytes of a number, the highest ahead -/
def beN : Nat → Nat → List UInt8
  | 0, _ => []
  | k + 1, n => UInt8.ofNat (n / 256 ^ k) :: beN k (n % 256 ^ k)
def off (z : Int) : Nat := (z + 9223372036854775808).toNat
def esc : List UInt8 → List UInt8
  | [] => []
  | b :: l => if b = 0 then 0 :: 255 :: esc l else b :: esc l
def kb (v : V) : List UInt8 := UInt8.ofNat v.k.toNat :: (if v.k = 1 then [UInt8.ofNat v.n.toNat] else if v.k = 2 then beN 8 (off v.n) else if v.k = 3 then esc v.s.data.toList ++ [0, 1] else [])
def cb (a b : List UInt8) : Int := Lib.compareBytes a b
theorem cb_cons (a b : UInt8) (l m : List UInt8) : cb (a :: l) (b :: m) = if a = b then cb l m else if a < b then -1 else 1 := by
  unfold cb
  by_cases h : a = b
  · rw [cb_step a b l m h, if_pos h]
  · rw [cb_diff a b l m h, if_neg h]
    unfold ord
    have h1 : ((a.toNat : Int) < (b.toNat : Int)) ↔ a < b := by rw [UInt8.lt_iff_toNat_lt]; omega
    have h2 : ¬ a.toNat = b.toNat := fun e => h (UInt8.toNat_inj.1 e)
    by_cases h3 : a < b
    · rw [if_pos h3, if_pos (h1.2 h3)]
    · have h4 : ¬ ((a.toNat : Int) < (b.toNat : Int)) := fun e => h3 (h1.1 e)
      rw [if_neg h3, if_neg h4, if_pos (by omega)]
/-- what a list stands for, and what follows it -/
def Step (x y : List UInt8) (c : Int) : Prop := ∀ l m, cb (x ++ l) (y ++ m) = if c = 0 then cb l m else c
theorem beN_step : ∀ (k n m : Nat), n < 256 ^ k → m < 256 ^ k → Step (beN k n) (beN k m) (ord n m)
  | 0, n, m, hn, hm => by
    intro l r
    have h1 : n = 0 := by simpa using hn
    have h2 : m = 0 := by simpa using hm
    subst h1 h2
    simp [beN, ord]
  | k + 1, n, m, hn, hm => by
    intro l r
    have hp : 0 < 256 ^ k := Nat.pow_pos (by decide)
    have hn1 : n / 256 ^ k < 256 := (Nat.div_lt_iff_lt_mul hp).2 (by rw [Nat.pow_succ, Nat.mul_comm] at hn; exact hn)
    have hm1 : m / 256 ^ k < 256 := (Nat.div_lt_iff_lt_mul hp).2 (by rw [Nat.pow_succ, Nat.mul_comm] at hm; exact hm)
    have ih := beN_step k (n % 256 ^ k) (m % 256 ^ k) (Nat.mod_lt _ hp) (Nat.mod_lt _ hp) l r
    have en := Nat.div_add_mod n (256 ^ k)
    have em := Nat.div_add_mod m (256 ^ k)
    simp only [beN, List.cons_append]
    rw [cb_cons]
    have heq : UInt8.ofNat (n / 256 ^ k) = UInt8.ofNat (m / 256 ^ k) ↔ n / 256 ^ k = m / 256 ^ k := by
      constructor
      · intro h
        have := congrArg UInt8.toNat h
        simpa [UInt8.toNat_ofNat', Nat.mod_eq_of_lt hn1, Nat.mod_eq_of_lt hm1] using this
      · intro h; rw [h]
    have hlt : UInt8.ofNat (n / 256 ^ k) < UInt8.ofNat (m / 256 ^ k) ↔ n / 256 ^ k < m / 256 ^ k := by
      rw [UInt8.lt_iff_toNat_lt]
      simp [UInt8.toNat_ofNat', Nat.mod_eq_of_lt hn1, Nat.mod_eq_of_lt hm1]
    by_cases h : n / 256 ^ k = m / 256 ^ k
    · rw [if_pos (heq.2 h), ih]
      have e : ord ((n % 256 ^ k : Nat) : Int) ((m % 256 ^ k : Nat) : Int) = ord (n : Int) (m : Int) := by
        unfold ord
        rw [h] at en
        generalize 256 ^ k * (m / 256 ^ k) = z at en em
        have l1 : (((n % 256 ^ k : Nat) : Int) < ((m % 256 ^ k : Nat) : Int)) ↔ ((n : Int) < (m : Int)) := by omega
        have l2 : (((m % 256 ^ k : Nat) : Int) < ((n % 256 ^ k : Nat) : Int)) ↔ ((m : Int) < (n : Int)) := by omega
        simp only [l1, l2]
      rw [e]
    · rw [if_neg (fun e => h (heq.1 e))]
      have hmn := Nat.mod_lt n hp
      have hmm := Nat.mod_lt m hp
      rcases Nat.lt_or_gt_of_ne h with h1 | h1
      · rw [if_pos (hlt.2 h1)]
        have : n < m := Nat.lt_of_not_le fun hle => absurd (Nat.div_le_div_right (c := 256 ^ k) hle) (by omega)
        unfold ord
        rw [if_pos (show (n : Int) < (m : Int) by omega)]
        rfl
      · rw [if_neg (fun e => by have := hlt.1 e; omega)]
        have : m < n := Nat.lt_of_not_le fun hle => absurd (Nat.div_le_div_right (c := 256 ^ k) hle) (by omega)
        unfold ord
        rw [if_neg (show ¬ (n : Int) < (m : Int) by omega), if_pos (show (m : Int) < (n : Int) by omega)]
        rfl
theorem esc_step : ∀ (s t : List UInt8), Step (esc s ++ [0, 1]) (esc t ++ [0, 1]) (cb s t)
  | [], [] => by
    intro l m
    simp [esc, cb_cons]
    simp [cb, Lib.compareBytes]
  | [], b :: t => by
    intro l m
    have e : cb [] (b :: t) = -1 := by simp [cb, Lib.compareBytes]
    rw [e]
    unfold esc
    by_cases h : b = 0
    · rw [if_pos h]
      simp [cb_cons]
    · rw [if_neg h]
      simp only [List.nil_append, List.cons_append, cb_cons]
      rw [if_neg (fun e => h e.symm), if_pos (by rw [UInt8.lt_iff_toNat_lt]; have : b.toNat ≠ 0 := fun e => h (UInt8.toNat_inj.1 e); simp; omega)]
      rfl
  | a :: s, [] => by
    intro l m
    have e : cb (a :: s) [] = 1 := by simp [cb, Lib.compareBytes]
    rw [e]
    unfold esc
    by_cases h : a = 0
    · rw [if_pos h]
      simp [cb_cons]
    · rw [if_neg h]
      simp only [List.nil_append, List.cons_append, cb_cons]
      rw [if_neg h, if_neg (by rw [UInt8.lt_iff_toNat_lt]; simp)]
      rfl
  | a :: s, b :: t => by
    intro l m
    have ih := esc_step s t l m
    rw [cb_cons]
    unfold esc
    by_cases h : a = b
    · subst h
      rw [if_pos rfl]
      by_cases h0 : a = 0
      · rw [if_pos h0, if_pos h0]
        simpa [cb_cons] using ih
      · rw [if_neg h0, if_neg h0]
        simpa [cb_cons] using ih
    · rw [if_neg h]
      by_cases h0 : a = 0
      · rw [if_pos h0, if_neg (fun e => h (h0.trans e.symm))]
        subst h0
        simp only [List.cons_append, cb_cons]
        rw [if_neg h]
        split <;> rfl
      · rw [if_neg h0]
        by_cases h1 : b = 0
        · rw [if_pos h1]
          subst h1
          simp only [List.cons_append, cb_cons]
          rw [if_neg h]
          split <;> rfl
        · rw [if_neg h1]
          simp only [List.cons_append, cb_cons]
          rw [if_neg h]
          split <;> rfl
theorem kind_small {a : V} (h : vchk a = 0) : (UInt8.ofNat a.k.toNat).toNat = a.k.toNat := by
  obtain ⟨h1, h2, _⟩ := chk_form h
  rw [UInt8.toNat_ofNat']
  omega
structure Fit64 (v : V) : Prop where
  chk : vchk v = 0
  lo : -9223372036854775808 ≤ v.n
  hi : v.n ≤ 9223372036854775807
theorem bool_n {a : V} (h : vchk a = 0) (hk : a.k = 1) : a.n = 0 ∨ a.n = 1 := by
  unfold vchk chk at h
  rw [if_neg (by omega)] at h
  by_cases h1 : a.n = 0 ∨ a.n = 1
  · exact h1
  · rw [if_pos (.inr ⟨hk, fun e => h1 (.inl e), fun e => h1 (.inr e)⟩)] at h
    cases h
theorem kb_step {a b : V} (ha : Fit64 a) (hb : Fit64 b) : Step (kb a) (kb b) (cmpV a b) := by
  intro l m
  obtain ⟨ka1, ka2, ka3, ka4, ka5, ka6⟩ := chk_form ha.chk
  obtain ⟨kb1, kb2, kb3, kb4, kb5, kb6⟩ := chk_form hb.chk
  have hla := kind_small ha.chk
  have hlb := kind_small hb.chk
  unfold kb
  simp only [List.cons_append]
  rw [cb_cons]
  by_cases hk : a.k = b.k
  case neg =>
    have h1 : ¬ UInt8.ofNat a.k.toNat = UInt8.ofNat b.k.toNat := fun e => by
      have := congrArg UInt8.toNat e
      rw [hla, hlb] at this
      omega
    rw [if_neg h1]
    have h2 : (UInt8.ofNat a.k.toNat < UInt8.ofNat b.k.toNat) ↔ a.k < b.k := by
      rw [UInt8.lt_iff_toNat_lt, hla, hlb]
      omega
    have e : cmpV a b = ord a.k b.k := by
      unfold cmpV or3
      rw [if_neg (ord_ne hk)]
    rw [e]
    unfold ord
    by_cases h3 : a.k < b.k
    · rw [if_pos (h2.2 h3), if_pos h3]; rfl
    · rw [if_neg (fun e => h3 (h2.1 e)), if_neg h3, if_pos (show b.k < a.k by omega)]; rfl
  rw [if_pos (by rw [hk])]
  have e : cmpV a b = if ord a.n b.n = 0 then cb a.s.data.toList b.s.data.toList else ord a.n b.n := by
    unfold cmpV or3
    rw [hk, ord_self, if_pos rfl]
    rfl
  have hsz : a.k ≠ 3 → cb a.s.data.toList b.s.data.toList = 0 := fun h => by
    rw [ka3 h, kb3 (by rw [← hk]; exact h)]
    exact cb_refl _
  by_cases h1 : a.k = 1
  · have h1b : b.k = 1 := by rw [← hk]; exact h1
    rw [if_pos h1, if_pos h1b, e, hsz (by omega)]
    simp only [List.cons_append, List.nil_append, cb_cons]
    rcases bool_n ha.chk h1 with hn | hn <;> rcases bool_n hb.chk h1b with hm | hm <;> rw [hn, hm] <;> simp [ord]
  rw [if_neg h1, if_neg (show ¬ b.k = 1 by omega)]
  by_cases h2 : a.k = 2
  · rw [if_pos h2, if_pos (show b.k = 2 by omega), e, hsz (by omega)]
    have hp : (256 : Nat) ^ 8 = 18446744073709551616 := by decide
    have la := ha.lo
    have ua := ha.hi
    have lb := hb.lo
    have ub := hb.hi
    rw [beN_step 8 _ _ (by rw [hp]; unfold off; omega) (by rw [hp]; unfold off; omega) l m]
    have eo : ord (off a.n : Int) (off b.n : Int) = ord a.n b.n := by
      unfold ord off
      have l1 : (((a.n + 9223372036854775808).toNat : Int) < ((b.n + 9223372036854775808).toNat : Int)) ↔ a.n < b.n := by omega
      have l2 : (((b.n + 9223372036854775808).toNat : Int) < ((a.n + 9223372036854775808).toNat : Int)) ↔ b.n < a.n := by omega
      simp only [l1, l2]
    rw [eo]
    by_cases h0 : ord a.n b.n = 0
    · rw [h0]; rfl
    · rw [if_neg h0, if_neg h0, if_neg h0]
  rw [if_neg h2, if_neg (show ¬ b.k = 2 by omega)]
  by_cases h3 : a.k = 3
  · rw [if_pos h3, if_pos (show b.k = 3 by omega), e, ka4 h3, kb4 (by rw [← hk]; exact h3), ord_self, if_pos rfl]
    exact esc_step _ _ l m
  · rw [if_neg h3, if_neg (show ¬ b.k = 3 by omega), e, hsz h3]
    have h0 : a.k = 0 := by omega
    rw [ka5 h0, kb5 (by rw [← hk]; exact h0), ord_self]
    rfl
end Go.Proofs.Ytnlmbjmgmofeiaa.ix

/- Contract: key.Bytes. Printed by gen2.py. -/
namespace Go.Proofs.Ytnlmbjmgmofeiaa.ix
open Go.ChangeShapes Go.WideShapes Go.ChangeAt Go.RowKit Go.Proofs.Ytnlmbjmgmofeiaa.lib Go.Proofs.Ytnlmbjmgmofeiaa.val Go.Proofs.Ytnlmbjmgmofeiaa.tb
set_option linter.unusedVariables false

def cellsB (l : List UInt8) : List Value := l.map fun b => .int .u8 (b.toNat : Int)
theorem lenB (l : List UInt8) : (cellsB l).length = l.length := by simp [cellsB]
theorem oneB (l : List UInt8) : ∀ u ∈ cellsB l, u.oneCell' = true := fun u hu => by
  simp only [cellsB, List.mem_map] at hu
  obtain ⟨b, _, rfl⟩ := hu
  rfl
theorem cellsB_append (a b : List UInt8) : cellsB (a ++ b) = cellsB a ++ cellsB b := by simp [cellsB]
def OwnB (l : List UInt8) (w : World) (r : Ending) (w' : World) : Prop := ∃ g c, r = .returned (.slice (some ⟨g, 0, none⟩) l.length c) ∧ w'.ownsRow w.heap.size 5 1 (.slice (some ⟨g, 0, none⟩) l.length c) l.length (cellsB l) ∧ Below w.heap.size w w'
/-- a block that was just made is a row of one's own -/
theorem own_blk {w : World} {g : Nat} {e : TypeId} {cs : Array Value} {n size : Nat} (h : Blk w g e cs) (hs : cs.size = n * size) (hn : n ≤ maxLen) : w.ownsRow g e size (.slice (some ⟨g, 0, none⟩) n n) n cs.toList :=
  ⟨by simpa using hs, .inr ⟨g, n, cs, rfl, Nat.le_refl _, h, Nat.le_refl _, hn, hs, by rw [List.take_of_length_le (by rw [Array.length_toList, hs]; exact Nat.le_refl _)]⟩⟩
theorem own_some1 {w : World} {base n c k : Nat} {e : TypeId} {A : Option Addr} {xs : List Value} (h : w.ownsRow base e k (.slice A n c) n xs) (hn : 0 < n) : ∃ g, A = some ⟨g, 0, none⟩ ∧ base ≤ g ∧ g < w.heap.size := by
  have h0 := h
  rcases h.2 with ⟨h', _⟩ | ⟨g, cap, cur, h', hb, _⟩
  · simp at h'; omega
  · simp only [Value.slice.injEq] at h'
    obtain ⟨rfl, _, _⟩ := h'
    exact ⟨g, rfl, h0.lt g rfl⟩
theorem esc_append : ∀ (a b : List UInt8), esc (a ++ b) = esc a ++ esc b
  | [], b => rfl
  | x :: a, b => by
    have ih := esc_append a b
    simp only [List.cons_append, esc]
    split <;> simp [ih]
theorem esc_len : ∀ l : List UInt8, (esc l).length ≤ 2 * l.length
  | [] => Nat.le_refl _
  | b :: l => by
    have ih := esc_len l
    unfold esc
    split <;> simp <;> omega
theorem beN_len : ∀ k n : Nat, (beN k n).length = k
  | 0, _ => rfl
  | k + 1, n => by simp [beN, beN_len k]
theorem kb_len {v : V} (h : vchk v = 0) : 1 ≤ (kb v).length ∧ (kb v).length ≤ 200 := by
  have h6 := (chk_form h).2.2.2.2.2
  have h7 := esc_len v.s.data.toList
  have h8 : v.s.data.toList.length = v.s.size := Array.length_toList
  unfold kb
  simp only [List.length_cons]
  split
  · simp
  · split
    · simp [beN_len]
    · split
      · simp; omega
      · simp
theorem take_snoc1 {α : Type} {l : List α} {k : Nat} {x : α} (h : l[k]? = some x) : l.take (k + 1) = l.take k ++ [x] := by rw [List.take_add_one, h]; rfl
/-- the number's bytes, the first i of them -/
def pre (i N : Nat) : List UInt8 := (List.range i).map fun j => UInt8.ofNat (N / 256 ^ (7 - j))
theorem pre_len (i N : Nat) : (pre i N).length = i := by simp [pre]
theorem pre_succ (i N : Nat) : pre (i + 1) N = pre i N ++ [UInt8.ofNat (N / 256 ^ (7 - i))] := by simp [pre, List.range_succ]
theorem ofNat_mod {a b : Nat} (h : a % 256 = b % 256) : UInt8.ofNat a = UInt8.ofNat b := UInt8.toNat_inj.1 (by simpa [UInt8.toNat_ofNat'] using h)
theorem pre_all (N : Nat) : pre 8 N = beN 8 N := by
  have h : pre 8 N = [UInt8.ofNat (N / 256 ^ 7), UInt8.ofNat (N / 256 ^ 6), UInt8.ofNat (N / 256 ^ 5), UInt8.ofNat (N / 256 ^ 4), UInt8.ofNat (N / 256 ^ 3), UInt8.ofNat (N / 256 ^ 2), UInt8.ofNat (N / 256 ^ 1), UInt8.ofNat (N / 256 ^ 0)] := rfl
  rw [h]
  simp only [beN, List.cons.injEq, and_true]
  refine ⟨trivial, ?_, ?_, ?_, ?_, ?_, ?_, ?_⟩ <;> (apply ofNat_mod; simp only [show (256 : Nat) ^ 7 = 72057594037927936 from rfl, show (256 : Nat) ^ 6 = 281474976710656 from rfl, show (256 : Nat) ^ 5 = 1099511627776 from rfl, show (256 : Nat) ^ 4 = 4294967296 from rfl, show (256 : Nat) ^ 3 = 16777216 from rfl, show (256 : Nat) ^ 2 = 65536 from rfl, show (256 : Nat) ^ 1 = 256 from rfl, show (256 : Nat) ^ 0 = 1 from rfl]; omega)
set_option maxRecDepth 1000000 in
set_option maxHeartbeats 4000000 in
theorem bytes0 (n : Int) (s : ByteArray) (w : World) :
    Calls Try.prog 55 #[.agg #[.int .i64 0, .int .i64 n, .string s]] w (OwnB [0] w) := by
  obtain ⟨i0, hi, hy0, hy1, hy2⟩ := info_parts (P := Try.prog) (e := 5) (z := .int .u8 0) (size := 1) (bytes := 1) (by kernel_rfl)
  go_enter Try.func55, Try.ntmps55
  go_upto_region 19 with fail
  obtain ⟨W, hW_, hbW, BV, BO⟩ : ∃ W_, W_ = ((w.alloc (.cells #[.int .i64 0, .int .i64 n, .string s] 41)).alloc (.cells #[.int .u8 0] 5)) ∧ Below w.heap.size w W_ ∧ Blk W_ (w.heap.size) 41 #[.int .i64 0, .int .i64 n, .string s] ∧ Blk W_ (w.heap.size + 1) 5 #[.int .u8 0] :=
    ⟨_, rfl, (((Below.refl _ _).alloc (Nat.le_refl _) _).alloc (by simp; try omega) _), ((blk_new_at w (w.heap.size) _ _ (by simp)).alloc _), (blk_new_at (w.alloc (.cells #[.int .i64 0, .int .i64 n, .string s] 41)) (w.heap.size + 1) _ _ (by simp))⟩
  rw [← hW_]
  clear hW_
  obtain ⟨gx, hgx⟩ : ∃ g, w.heap.size + 1 = g := ⟨_, rfl⟩
  rw [hgx] at BO ⊢
  have hown0 := own_blk (n := 1) (size := 1) BO rfl (by decide)
  have hown0 : W.ownsRow (w.heap.size + 1) 5 1 (.slice (some ⟨gx, 0, none⟩) 1 1) 1 (cellsB [0]) := own_base hown0 (by omega)
  have HO := Lib.hid hown0
  have hbx := hbW
  clear hown0 BO hbW
  go_wp2_with (at_builtin; (refine wpList_append_own _ rfl (.const (.slice none 0 0)) (.tmp 64) 67 rfl w.heap.size 5 i0 _ 1 1 Try.underlying67 hi hy0 hy1 hy2 rfl (by decide) _ 0 [] rfl (World.ownsRow_nil _ _ _ _) ⟨gx, 0, none⟩ 1 _ (cellsB [0]) rfl ?z1 ?z2 ?z3 ?z4 ?z5 ?z6 ?_))
  all_goals try (case z1 => first | rfl | (rw [lenB]; simp; done) | (rw [HO.out.1]))
  all_goals try (case z2 => exact (Row.of_own HO.out).src)
  all_goals try (case z2 => exact fun j u hu => by have h := (Row.of_own HO.out).at_ hu; rwa [Nat.zero_add] at h)
  all_goals try (case z3 => exact oneB _)
  all_goals try (case z4 => unfold maxLen; omega)
  all_goals try (case z5 => omega)
  all_goals try (case z6 => exact hbx.size)
  intro v' wa hown hgrow _
  obtain ⟨A', c', rfl⟩ := own_slice hown
  try simp only [Nat.zero_add, List.nil_append] at hown
  obtain ⟨g', rfl, _, _⟩ := own_some1 hown (by omega)
  have hba := Below.trans hbx (Below.mono (below_of_grown hgrow) hbx.size)
  have HA := Lib.hid hown
  clear hown hgrow
  go_wp2
  go_ret
  exact ⟨g', c', rfl, HA.out, hba⟩
set_option maxRecDepth 1000000 in
set_option maxHeartbeats 4000000 in
theorem bytes1 (n : Int) (s : ByteArray) (w : World) (hn : 0 ≤ n ∧ n < 256) :
    Calls Try.prog 55 #[.agg #[.int .i64 1, .int .i64 n, .string s]] w (OwnB [1, UInt8.ofNat n.toNat] w) := by
  have hwr : IntKind.u8.wrap n = n := by rw [IntKind.wrap_u8]; omega
  have hel : cellsB [UInt8.ofNat n.toNat] = [.int .u8 n] := by
    simp only [cellsB, List.map_cons, List.map_nil, UInt8.toNat_ofNat']
    congr 2
    omega
  obtain ⟨i0, hi, hy0, hy1, hy2⟩ := info_parts (P := Try.prog) (e := 5) (z := .int .u8 0) (size := 1) (bytes := 1) (by kernel_rfl)
  go_enter Try.func55, Try.ntmps55
  go_upto_region 4 with fail
  obtain ⟨W, hW_, hbW, BV, BO⟩ : ∃ W_, W_ = ((w.alloc (.cells #[.int .i64 1, .int .i64 n, .string s] 41)).alloc (.cells #[.int .u8 1] 5)) ∧ Below w.heap.size w W_ ∧ Blk W_ (w.heap.size) 41 #[.int .i64 1, .int .i64 n, .string s] ∧ Blk W_ (w.heap.size + 1) 5 #[.int .u8 1] :=
    ⟨_, rfl, (((Below.refl _ _).alloc (Nat.le_refl _) _).alloc (by simp; try omega) _), ((blk_new_at w (w.heap.size) _ _ (by simp)).alloc _), (blk_new_at (w.alloc (.cells #[.int .i64 1, .int .i64 n, .string s] 41)) (w.heap.size + 1) _ _ (by simp))⟩
  rw [← hW_]
  clear hW_
  obtain ⟨gx, hgx⟩ : ∃ g, w.heap.size + 1 = g := ⟨_, rfl⟩
  rw [hgx] at BO ⊢
  have hown0 := own_blk (n := 1) (size := 1) BO rfl (by decide)
  have hown0 : W.ownsRow (w.heap.size + 1) 5 1 (.slice (some ⟨gx, 0, none⟩) 1 1) 1 (cellsB [1]) := own_base hown0 (by omega)
  have HO := Lib.hid hown0
  have hbx := hbW
  clear hown0 BO hbW
  have qv := BV.three (Below.refl _ _)
  go_wp2_with (at_builtin; (refine wpList_append_own _ rfl (.tmp 14) (.tmp 18) 67 rfl (w.heap.size + 1) 5 i0 _ 1 1 Try.underlying67 hi hy0 hy1 hy2 rfl (by decide) _ 1 _ rfl (HO.out.alloc _) ⟨W.heap.size, 0, none⟩ 1 1 [.int .u8 n] rfl ?a1 ?a2 ?a3 ?a4 ?a5 ?a6 ?_))
  all_goals try (case a1 => rfl)
  all_goals try (case a2 => exact (Row.of_blk (Blk.new W _ _) (Nat.zero_le _) 1 1 (Nat.le_refl _)).src)
  all_goals try (case a3 => rfl)
  all_goals try (case a4 => unfold maxLen; omega)
  all_goals try (case a5 => omega)
  all_goals try (case a6 => have := BV.lt; have := hbx.size; simp; omega)
  intro v1 w1 hown hgrow _
  obtain ⟨A1, cx, rfl⟩ := own_slice hown
  rw [← hel, ← cellsB_append] at hown
  obtain ⟨g1, rfl, _, _⟩ := own_some1 hown (by omega)
  have HO' := Lib.hid hown
  have hlt := HO.out.lt
  have hbx := (hbx.alloc hbx.size (.cells #[.int .u8 n] 5)).grown hgrow (by have := hbx.size; simp; omega) (fun b hb => by have := (hlt b hb).1; omega)
  have HO := HO'
  clear hown hgrow qv hlt HO' hel
  go_wp2_with (at_builtin; (refine wpList_append_own _ rfl (.const (.slice none 0 0)) (.tmp 64) 67 rfl w.heap.size 5 i0 _ 1 1 Try.underlying67 hi hy0 hy1 hy2 rfl (by decide) _ 0 [] rfl (World.ownsRow_nil _ _ _ _) ⟨g1, 0, none⟩ (1 + 1) _ (cellsB ([1] ++ [UInt8.ofNat n.toNat])) rfl ?z1 ?z2 ?z3 ?z4 ?z5 ?z6 ?_))
  all_goals try (case z1 => first | rfl | (rw [lenB]; simp; done) | (rw [HO.out.1]))
  all_goals try (case z2 => exact (Row.of_own HO.out).src)
  all_goals try (case z2 => exact fun j u hu => by have h := (Row.of_own HO.out).at_ hu; rwa [Nat.zero_add] at h)
  all_goals try (case z3 => exact oneB _)
  all_goals try (case z4 => unfold maxLen; omega)
  all_goals try (case z5 => omega)
  all_goals try (case z6 => exact hbx.size)
  intro v' wa hown hgrow _
  obtain ⟨A', c', rfl⟩ := own_slice hown
  try simp only [Nat.zero_add, List.nil_append] at hown
  obtain ⟨g', rfl, _, _⟩ := own_some1 hown (by omega)
  have hba := Below.trans hbx (Below.mono (below_of_grown hgrow) hbx.size)
  have HA := Lib.hid hown
  clear hown hgrow
  go_wp2
  go_ret
  exact ⟨g', c', rfl, HA.out, hba⟩
theorem byte_at (n : Int) (k : Nat) (hlo : -9223372036854775808 ≤ n) (hhi : n ≤ 9223372036854775807) : (IntKind.u64.wrap (IntKind.u64.wrap n + 9223372036854775808) / 2 ^ (8 * (7 - k)) % 256) = ((UInt8.ofNat (off n / 256 ^ (7 - k))).toNat : Int) := by
  have h : IntKind.u64.wrap (IntKind.u64.wrap n + 9223372036854775808) = (off n : Int) := by
    simp only [IntKind.wrap_u64]
    unfold off
    omega
  have h2 : (2 : Nat) ^ (8 * (7 - k)) = 256 ^ (7 - k) := by rw [Nat.pow_mul]
  rw [h, show (2 : Int) ^ (8 * (7 - k)) = ((256 ^ (7 - k) : Nat) : Int) by rw [← h2]; simp, UInt8.toNat_ofNat']
  omega
set_option maxRecDepth 1000000 in
set_option maxHeartbeats 4000000 in
theorem bytes2 (n : Int) (s : ByteArray) (w : World) (hlo : -9223372036854775808 ≤ n) (hhi : n ≤ 9223372036854775807) :
    Calls Try.prog 55 #[.agg #[.int .i64 2, .int .i64 n, .string s]] w (OwnB (2 :: pre 8 (off n)) w) := by
  obtain ⟨i0, hi, hy0, hy1, hy2⟩ := info_parts (P := Try.prog) (e := 5) (z := .int .u8 0) (size := 1) (bytes := 1) (by kernel_rfl)
  go_enter Try.func55, Try.ntmps55
  go_upto_region 7 with fail
  obtain ⟨W, hW_, hbW, BV, BO⟩ : ∃ W_, W_ = ((w.alloc (.cells #[.int .i64 2, .int .i64 n, .string s] 41)).alloc (.cells #[.int .u8 2] 5)) ∧ Below w.heap.size w W_ ∧ Blk W_ (w.heap.size) 41 #[.int .i64 2, .int .i64 n, .string s] ∧ Blk W_ (w.heap.size + 1) 5 #[.int .u8 2] :=
    ⟨_, rfl, (((Below.refl _ _).alloc (Nat.le_refl _) _).alloc (by simp; try omega) _), ((blk_new_at w (w.heap.size) _ _ (by simp)).alloc _), (blk_new_at (w.alloc (.cells #[.int .i64 2, .int .i64 n, .string s] 41)) (w.heap.size + 1) _ _ (by simp))⟩
  rw [← hW_]
  clear hW_
  obtain ⟨gx, hgx⟩ : ∃ g, w.heap.size + 1 = g := ⟨_, rfl⟩
  rw [hgx] at BO ⊢
  have hown0 := own_blk (n := 1) (size := 1) BO rfl (by decide)
  have hown0 : W.ownsRow (w.heap.size + 1) 5 1 (.slice (some ⟨gx, 0, none⟩) 1 1) 1 (cellsB [2]) := own_base hown0 (by omega)
  have HO := Lib.hid hown0
  have hbx := hbW
  clear hown0 BO hbW
  have HO0 := HO.out
  clear HO
  go_loopw [3, 4] (fun o j wr => ∃ (k gx cx : Nat), o = .slice (some ⟨gx, 0, none⟩) (k + 1) cx ∧ j = .int .i64 (7 - (k : Int)) ∧ k ≤ 8 ∧ wr.ownsRow (w.heap.size + 1) 5 1 (.slice (some ⟨gx, 0, none⟩) (k + 1) cx) (k + 1) (cellsB (2 :: pre k (off n))) ∧ Blk wr w.heap.size 41 #[.int .i64 2, .int .i64 n, .string s] ∧ Below w.heap.size w wr) (fun _ j _ => (intOf j + 1).toNat)
  case atStart => exact ⟨0, gx, 1, rfl, rfl, by omega, HO0, BV, hbx⟩
  case round =>
    clear HO0 BV hbx hgx
    obtain ⟨k, gx, cx, rfl, rfl, hk, hown, BV, hbx⟩ := hrel
    have HO := Lib.hid hown
    clear hown
    by_cases h8 : k < 8
    case pos =>
      have hd : decide ((0 : Int) ≤ 7 - (k : Int)) = true := by simp; omega
      have qv := BV.three (Below.refl _ _)
      have HU := Lib.hid (byte_at n k hlo hhi)
      go_wp2_with (at_builtin; (refine wpList_append_own _ rfl (.tmp 26) (.tmp 35) 67 rfl (w.heap.size + 1) 5 i0 _ 1 1 Try.underlying67 hi hy0 hy1 hy2 rfl (by decide) _ (k + 1) _ rfl (HO.out.alloc _) ⟨wr.heap.size, 0, none⟩ 1 1 [.int .u8 (IntKind.u64.wrap (IntKind.u64.wrap n + 9223372036854775808) / 2 ^ (8 * (7 - k)) % 256)] rfl ?a1 ?a2 ?a3 ?a4 ?a5 ?a6 ?_))
      all_goals try (case a1 => rfl)
      all_goals try (case a2 => exact (Row.of_blk (Blk.new wr _ _) (Nat.zero_le _) 1 1 (Nat.le_refl _)).src)
      all_goals try (case a3 => rfl)
      all_goals try (case a3 => intro u hu; rw [List.mem_singleton] at hu; rw [hu]; rfl)
      all_goals try (case a4 => unfold maxLen; omega)
      all_goals try (case a5 => omega)
      all_goals try (case a6 => have := BV.lt; have := hbx.size; simp; omega)
      intro v1 w1 hown hgrow _
      obtain ⟨A1, cx', rfl⟩ := own_slice hown
      obtain ⟨g1, rfl, _, _⟩ := own_some1 hown (by omega)
      have hlw := HO.out.lt
      have hal := (Below.refl wr.heap.size wr).alloc (Nat.le_refl _) (.cells #[.int .u8 (IntKind.u64.wrap (IntKind.u64.wrap n + 9223372036854775808) / 2 ^ (8 * (7 - k)) % 256)] 5)
      have BV := (BV.ext hal).grown hgrow (fun e => by have := (hlw _ e.symm).1; omega)
      have hbx := (hbx.alloc hbx.size (.cells #[.int .u8 (IntKind.u64.wrap (IntKind.u64.wrap n + 9223372036854775808) / 2 ^ (8 * (7 - k)) % 256)] 5)).grown hgrow (by have := hbx.size; simp; omega) (fun b hb => by have := (hlw b hb).1; omega)
      have HO := Lib.hid hown
      clear hown hgrow hlw hal
      rw [HU.out] at HO
      have HO := Lib.hid (show w1.ownsRow _ _ _ _ _ (cellsB (2 :: pre (k + 1) (off n))) from by rw [pre_succ, ← List.cons_append, cellsB_append]; exact HO.out)
      go_wp2
      go_roundw
      case rel => exact ⟨k + 1, g1, cx', rfl, by go_num, by omega, HO.out, BV, hbx⟩
      case measure => simp [intOf]; omega
    obtain rfl : k = 8 := by omega
    have hd : decide ((0 : Int) ≤ 7 - ((8 : Nat) : Int)) = false := by decide
    go_wp2_with (at_builtin; (refine wpList_append_own _ rfl (.const (.slice none 0 0)) (.tmp 64) 67 rfl w.heap.size 5 i0 _ 1 1 Try.underlying67 hi hy0 hy1 hy2 rfl (by decide) _ 0 [] rfl (World.ownsRow_nil _ _ _ _) ⟨gx, 0, none⟩ (8 + 1) _ (cellsB (2 :: pre 8 (off n))) rfl ?z1 ?z2 ?z3 ?z4 ?z5 ?z6 ?_))
    all_goals try (case z1 => first | rfl | (rw [lenB]; simp; done) | (rw [HO.out.1]))
    all_goals try (case z2 => exact (Row.of_own HO.out).src)
    all_goals try (case z2 => exact fun j u hu => by have h := (Row.of_own HO.out).at_ hu; rwa [Nat.zero_add] at h)
    all_goals try (case z3 => exact oneB _)
    all_goals try (case z4 => unfold maxLen; omega)
    all_goals try (case z5 => omega)
    all_goals try (case z6 => exact hbx.size)
    intro v' wa hown hgrow _
    obtain ⟨A', c', rfl⟩ := own_slice hown
    try simp only [Nat.zero_add, List.nil_append] at hown
    obtain ⟨g', rfl, _, _⟩ := own_some1 hown (by omega)
    have hba := Below.trans hbx (Below.mono (below_of_grown hgrow) hbx.size)
    have HA := Lib.hid hown
    clear hown hgrow
    go_wp2
    go_ret
    exact ⟨g', c', rfl, HA.out, hba⟩
set_option maxRecDepth 1000000 in
set_option maxHeartbeats 4000000 in
theorem bytes3 (n : Int) (s : ByteArray) (w : World) (hs : s.size ≤ 60) :
    Calls Try.prog 55 #[.agg #[.int .i64 3, .int .i64 n, .string s]] w (OwnB (3 :: (esc s.data.toList ++ [0, 1])) w) := by
  obtain ⟨i0, hi, hy0, hy1, hy2⟩ := info_parts (P := Try.prog) (e := 5) (z := .int .u8 0) (size := 1) (bytes := 1) (by kernel_rfl)
  go_enter Try.func55, Try.ntmps55
  go_upto_region 12 with fail
  obtain ⟨W, hW_, hbW, BV, BO⟩ : ∃ W_, W_ = ((w.alloc (.cells #[.int .i64 3, .int .i64 n, .string s] 41)).alloc (.cells #[.int .u8 3] 5)) ∧ Below w.heap.size w W_ ∧ Blk W_ (w.heap.size) 41 #[.int .i64 3, .int .i64 n, .string s] ∧ Blk W_ (w.heap.size + 1) 5 #[.int .u8 3] :=
    ⟨_, rfl, (((Below.refl _ _).alloc (Nat.le_refl _) _).alloc (by simp; try omega) _), ((blk_new_at w (w.heap.size) _ _ (by simp)).alloc _), (blk_new_at (w.alloc (.cells #[.int .i64 3, .int .i64 n, .string s] 41)) (w.heap.size + 1) _ _ (by simp))⟩
  rw [← hW_]
  clear hW_
  obtain ⟨gx, hgx⟩ : ∃ g, w.heap.size + 1 = g := ⟨_, rfl⟩
  rw [hgx] at BO ⊢
  have hown0 := own_blk (n := 1) (size := 1) BO rfl (by decide)
  have hown0 : W.ownsRow (w.heap.size + 1) 5 1 (.slice (some ⟨gx, 0, none⟩) 1 1) 1 (cellsB [3]) := own_base hown0 (by omega)
  have HO := Lib.hid hown0
  have hbx := hbW
  clear hown0 BO hbW
  have HO0 := HO.out
  clear HO
  go_loopw [3, 42] (fun o j wr => ∃ (k m gx cx : Nat), o = .slice (some ⟨gx, 0, none⟩) m cx ∧ j = .int .i64 k ∧ k ≤ s.size ∧ m = 1 + (esc (s.data.toList.take k)).length ∧ wr.ownsRow (w.heap.size + 1) 5 1 (.slice (some ⟨gx, 0, none⟩) m cx) m (cellsB (3 :: esc (s.data.toList.take k))) ∧ Blk wr w.heap.size 41 #[.int .i64 3, .int .i64 n, .string s] ∧ Below w.heap.size w wr) (fun _ j _ => s.size - (intOf j).toNat)
  case atStart => exact ⟨0, 1, gx, 1, rfl, rfl, by omega, rfl, HO0, BV, hbx⟩
  case round =>
    clear HO0 BV hbx hgx
    obtain ⟨k, m, gx, cx, rfl, rfl, hk, hm, hown, BV, hbx⟩ := hrel
    have HO := Lib.hid hown
    have HM := Lib.hid hm
    have hm2 : m ≤ 200 := by
      have := esc_len (s.data.toList.take k)
      have h2 : (s.data.toList.take k).length ≤ k := List.length_take_le _ _
      omega
    clear hown hm
    by_cases hlt : k < s.size
    case pos =>
      have hd : decide ((k : Int) < (s.size : Int)) = true := by simp; omega
      have hks : (k : Int) < (s.size : Int) := by omega
      have qv := BV.three (Below.refl _ _)
      have HB := Lib.hid (show s.data.toList[k]? = some (s[k]'hlt) from List.getElem?_eq_getElem hlt)
      go_wp2_with (at_builtin; (refine wpList_append_own _ rfl (.tmp 45) (.tmp 50) 67 rfl (w.heap.size + 1) 5 i0 _ 1 1 Try.underlying67 hi hy0 hy1 hy2 rfl (by decide) _ m _ rfl (HO.out.alloc _) ⟨wr.heap.size, 0, none⟩ 1 1 [.int .u8 ((s[k]'hlt).toNat : Int)] rfl ?a1 ?a2 ?a3 ?a4 ?a5 ?a6 ?_))
      all_goals try (case a1 => rfl)
      all_goals try (case a2 => exact (Row.of_blk (Blk.new wr _ _) (Nat.zero_le _) 1 1 (Nat.le_refl _)).src)
      all_goals try (case a3 => rfl)
      all_goals try (case a3 => intro u hu; rw [List.mem_singleton] at hu; rw [hu]; rfl)
      all_goals try (case a4 => unfold maxLen; omega)
      all_goals try (case a5 => omega)
      all_goals try (case a6 => have := BV.lt; have := hbx.size; simp; omega)
      intro v1 w1 hown hgrow _
      obtain ⟨A1, cx', rfl⟩ := own_slice hown
      obtain ⟨g1, rfl, _, _⟩ := own_some1 hown (by omega)
      have hlw := HO.out.lt
      have hal := (Below.refl wr.heap.size wr).alloc (Nat.le_refl _) (.cells #[.int .u8 ((s[k]'hlt).toNat : Int)] 5)
      have BV := (BV.ext hal).grown hgrow (fun e => by have := (hlw _ e.symm).1; omega)
      have hbx := (hbx.alloc hbx.size (.cells #[.int .u8 ((s[k]'hlt).toNat : Int)] 5)).grown hgrow (by have := hbx.size; simp; omega) (fun b hb => by have := (hlw b hb).1; omega)
      have HO := Lib.hid hown
      clear hown hgrow hlw hal
      obtain ⟨b, hb⟩ : ∃ b, s[k]'hlt = b := ⟨_, rfl⟩
      rw [hb] at HO HB
      have HO := Lib.hid (show w1.ownsRow _ _ _ _ _ (cellsB ((3 :: esc (s.data.toList.take k)) ++ [b])) from by rw [cellsB_append]; exact HO.out)
      have qv := BV.three (Below.refl _ _)
      by_cases hb0 : b = 0
      case pos =>
        subst hb0
        go_wp2_with (at_builtin; (refine wpList_append_own _ rfl (.tmp 57) (.tmp 58) 67 rfl (w.heap.size + 1) 5 i0 _ 1 1 Try.underlying67 hi hy0 hy1 hy2 rfl (by decide) _ (m + 1) _ rfl (HO.out.alloc _) ⟨w1.heap.size, 0, none⟩ 1 1 [.int .u8 255] rfl ?b1 ?b2 ?b3 ?b4 ?b5 ?b6 ?_))
        all_goals try (case b1 => rfl)
        all_goals try (case b2 => exact (Row.of_blk (Blk.new w1 _ _) (Nat.zero_le _) 1 1 (Nat.le_refl _)).src)
        all_goals try (case b3 => rfl)
        all_goals try (case b3 => intro u hu; rw [List.mem_singleton] at hu; rw [hu]; rfl)
        all_goals try (case b4 => unfold maxLen; omega)
        all_goals try (case b5 => omega)
        all_goals try (case b6 => have := BV.lt; have := hbx.size; simp; omega)
        intro v1 w2 hown hgrow _
        obtain ⟨A1, cx', rfl⟩ := own_slice hown
        obtain ⟨g2, rfl, _, _⟩ := own_some1 hown (by omega)
        have hlw := HO.out.lt
        have hal := (Below.refl w1.heap.size w1).alloc (Nat.le_refl _) (.cells #[.int .u8 255] 5)
        have BV := (BV.ext hal).grown hgrow (fun e => by have := (hlw _ e.symm).1; omega)
        have hbx := (hbx.alloc hbx.size (.cells #[.int .u8 255] 5)).grown hgrow (by have := hbx.size; simp; omega) (fun b hb => by have := (hlw b hb).1; omega)
        have HO := Lib.hid hown
        clear hown hgrow hlw hal
        clear qv
        have he : esc (s.data.toList.take (k + 1)) = esc (s.data.toList.take k) ++ [0] ++ [255] := by rw [take_snoc1 HB.out, esc_append, List.append_assoc]; rfl
        have HO := Lib.hid (show w2.ownsRow _ _ _ _ _ (cellsB (3 :: esc (s.data.toList.take (k + 1)))) from by rw [he, ← List.cons_append, ← List.cons_append, cellsB_append]; exact HO.out)
        have hm3 : m + 1 + 1 = 1 + (esc (s.data.toList.take (k + 1))).length := by rw [he, HM.out]; simp; omega
        have HM3 := Lib.hid hm3
        clear hb hm3 he
        go_wp2
        go_roundw
        case rel => exact ⟨k + 1, m + 1 + 1, g2, cx', rfl, by go_num, by omega, HM3.out, HO.out, BV, hbx⟩
        case measure => simp [intOf]; omega
      have hbn : b.toNat ≠ 0 := fun e => hb0 (UInt8.toNat_inj.1 e)
      have hd0 : ((b.toNat : Int) == 0) = false := by rw [beq_eq_false_iff_ne]; omega
      have hd1 : (b.toNat == 0) = false := by rw [beq_eq_false_iff_ne]; exact hbn
      have hd2 : ((b.toNat : Int) = 0) = False := by rw [eq_iff_iff, iff_false]; omega
      have hd3 : (b.toNat = 0) = False := by rw [eq_iff_iff, iff_false]; exact hbn
      have he : esc (s.data.toList.take (k + 1)) = esc (s.data.toList.take k) ++ [b] := by rw [take_snoc1 HB.out, esc_append]; unfold esc; rw [if_neg hb0]; rfl
      have HO := Lib.hid (show w1.ownsRow _ _ _ _ _ (cellsB (3 :: esc (s.data.toList.take (k + 1)))) from by rw [he, ← List.cons_append]; exact HO.out)
      have hm3 : m + 1 = 1 + (esc (s.data.toList.take (k + 1))).length := by rw [he, HM.out]; simp; omega
      have HM3 := Lib.hid hm3
      clear hm3 he hbn hb0
      go_wp2
      go_roundw
      case rel => exact ⟨k + 1, m + 1, g1, cx', rfl, by go_num, by omega, HM3.out, HO.out, BV, hbx⟩
      case measure => simp [intOf]; omega
    obtain rfl : k = s.size := by omega
    have hd : decide ((s.size : Int) < (s.size : Int)) = false := by simp
    have hfull : s.data.toList.take s.size = s.data.toList := List.take_of_length_le (Nat.le_of_eq Array.length_toList)
    have HO := Lib.hid (show wr.ownsRow _ _ _ _ _ (cellsB (3 :: esc s.data.toList)) from by rw [← hfull]; exact HO.out)
    have HM := Lib.hid (show m = 1 + (esc s.data.toList).length from by rw [← hfull]; exact HM.out)
    clear hfull
    go_wp2_with (at_builtin; (refine wpList_append_own _ rfl (.tmp 61) (.tmp 62) 67 rfl (w.heap.size + 1) 5 i0 _ 1 1 Try.underlying67 hi hy0 hy1 hy2 rfl (by decide) _ m _ rfl (HO.out.alloc _) ⟨wr.heap.size, 0, none⟩ 2 2 [.int .u8 0, .int .u8 1] rfl ?c1 ?c2 ?c3 ?c4 ?c5 ?c6 ?_))
    all_goals try (case c1 => rfl)
    all_goals try (case c2 => exact (Row.of_blk (Blk.new wr _ _) (Nat.zero_le _) 2 2 (Nat.le_refl _)).src)
    all_goals try (case c3 => intro u hu; simp only [List.mem_cons, List.not_mem_nil, or_false] at hu; rcases hu with rfl | rfl <;> rfl)
    all_goals try (case c3 => exact ⟨rfl, rfl⟩)
    all_goals try (case c4 => unfold maxLen; omega)
    all_goals try (case c5 => omega)
    all_goals try (case c6 => have := BV.lt; have := hbx.size; simp; omega)
    intro v1 w1 hown hgrow _
    obtain ⟨A1, cx', rfl⟩ := own_slice hown
    obtain ⟨g1, rfl, _, _⟩ := own_some1 hown (by omega)
    have hlt := HO.out.lt
    have hbx := (hbx.alloc hbx.size (.cells #[.int .u8 0, .int .u8 1] 5)).grown hgrow (by have := hbx.size; simp; omega) (fun b hb => by have := (hlt b hb).1; omega)
    have HO := Lib.hid (show w1.ownsRow _ _ _ _ _ (cellsB ((3 :: esc s.data.toList) ++ [0, 1])) from by rw [cellsB_append]; exact hown)
    clear hown hgrow hlt
    go_wp2_with (at_builtin; (refine wpList_append_own _ rfl (.const (.slice none 0 0)) (.tmp 64) 67 rfl w.heap.size 5 i0 _ 1 1 Try.underlying67 hi hy0 hy1 hy2 rfl (by decide) _ 0 [] rfl (World.ownsRow_nil _ _ _ _) ⟨g1, 0, none⟩ (m + 2) _ (cellsB ((3 :: esc s.data.toList) ++ [0, 1])) rfl ?z1 ?z2 ?z3 ?z4 ?z5 ?z6 ?_))
    all_goals try (case z1 => first | rfl | (rw [lenB]; simp; done) | (rw [HO.out.1]))
    all_goals try (case z2 => exact (Row.of_own HO.out).src)
    all_goals try (case z2 => exact fun j u hu => by have h := (Row.of_own HO.out).at_ hu; rwa [Nat.zero_add] at h)
    all_goals try (case z3 => exact oneB _)
    all_goals try (case z4 => unfold maxLen; omega)
    all_goals try (case z5 => omega)
    all_goals try (case z6 => exact hbx.size)
    intro v' wa hown hgrow _
    obtain ⟨A', c', rfl⟩ := own_slice hown
    try simp only [Nat.zero_add, List.nil_append] at hown
    obtain ⟨g', rfl, _, _⟩ := own_some1 hown (by omega)
    have hba := Below.trans hbx (Below.mono (below_of_grown hgrow) hbx.size)
    have HA := Lib.hid hown
    clear hown hgrow
    go_wp2
    go_ret
    have hlen : (3 :: (esc s.data.toList ++ [0, 1])).length = m + 2 := by rw [HM.out]; simp; omega
    exact ⟨g', c', by rw [hlen]; rfl, by rw [hlen]; exact HA.out, hba⟩
end Go.Proofs.Ytnlmbjmgmofeiaa.ix

/- Plain: entries (a value, its row's key) in order. Printed by gen3.py. -/
namespace Go.Proofs.Ytnlmbjmgmofeiaa.ix
open Go.ChangeShapes Go.WideShapes Go.ChangeAt Go.RowKit Go.Proofs.Ytnlmbjmgmofeiaa.lib Go.Proofs.Ytnlmbjmgmofeiaa.val Go.Proofs.Ytnlmbjmgmofeiaa.tb
set_option linter.unusedVariables false

structure En where
  v : V
  k : V
def cmpN (a b : En) : Int := if cmpV a.v b.v = 0 then cmpV a.k b.k else cmpV a.v b.v
theorem cmpN_anti (a b : En) : cmpN b a = - cmpN a b := by
  have h1 := cmpV_anti a.v b.v
  have h2 := cmpV_anti a.k b.k
  unfold cmpN
  split <;> split <;> omega
theorem cmpN_refl (a : En) : cmpN a a = 0 := by have := cmpN_anti a a; omega
theorem cmpN_hang (a b c : En) : Hang (cmpN a b) (cmpN b c) (cmpN a c) := hang_lex (cmpV_hang a.v b.v c.v) (cmpV_hang a.k b.k c.k)
theorem cmp_eq1 {a b : V} (h : cmpV a b = 0) : a = b := by
  have h := (cmpV_zero a b).1 h
  obtain ⟨a0, a1, a2⟩ := a
  obtain ⟨b0, b1, b2⟩ := b
  unfold vEq at h
  simp only [Bool.and_eq_true, beq_iff_eq, beqBA] at h
  obtain ⟨h1, h2, h3⟩ := h
  subst h1 h2 h3
  rfl
theorem cmpN_zero {a b : En} (h : cmpN a b = 0) : a = b := by
  unfold cmpN at h
  by_cases h1 : cmpV a.v b.v = 0
  · rw [if_pos h1] at h
    obtain ⟨av, ak⟩ := a
    obtain ⟨bv, bk⟩ := b
    simp only at h h1
    rw [cmp_eq1 h1, cmp_eq1 h]
  · rw [if_neg h1] at h; exact absurd h h1
/-- in order -/
def Srt (l : List En) : Prop := l.Pairwise fun a b => cmpN a b < 0
def belowN (e x : En) : Bool := decide (cmpN x e < 0)
def posN (e : En) (l : List En) : Nat := (l.takeWhile (belowN e)).length
def isN (e : En) (l : List En) : Bool := match l[posN e l]? with
  | some x => decide (cmpN x e = 0)
  | none => false
def addN (l : List En) (e : En) : List En := if isN e l = true then l else l.take (posN e l) ++ e :: l.drop (posN e l)
def dropN (l : List En) (e : En) : List En := if isN e l = true then l.take (posN e l) ++ l.drop (posN e l + 1) else l
def keysN (l : List En) (v : V) : List V := (l.filter fun x => decide (cmpV x.v v = 0)).map (·.k)
def geN (l : List En) (v : V) : List V := (l.filter fun x => decide (0 ≤ cmpV x.v v)).map (·.k)
def fromN (l : List En) (v : V) (most : Int) : List V := (geN l v).take most.toNat
theorem n_lt_at {k : En} : ∀ {rows : List En} {i : Nat} {r : En}, i < posN k rows → rows[i]? = some r → belowN k r = true
  | [], i, r, _, h => by cases h
  | x :: rs, i, r, hi, h => by
    unfold posN at hi
    rw [List.takeWhile_cons] at hi
    by_cases hx : belowN k x = true
    · rw [if_pos hx] at hi
      cases i with
      | zero => injection h with h; subst h; exact hx
      | succ i => exact n_lt_at (rows := rs) (by unfold posN; simpa using hi) h
    · rw [if_neg hx] at hi; exact absurd hi (by simp)
theorem n_at_not {k : En} : ∀ {rows : List En} {r : En}, rows[posN k rows]? = some r → belowN k r = false
  | [], r, h => by cases h
  | x :: rs, r, h => by
    unfold posN at h
    rw [List.takeWhile_cons] at h
    by_cases hx : belowN k x = true
    · rw [if_pos hx] at h
      exact n_at_not (rows := rs) (by unfold posN; simpa using h)
    · rw [if_neg hx] at h
      injection h with h
      subst h
      simpa using hx
theorem n_at_le (k : En) (rows : List En) : posN k rows ≤ rows.length := by
  unfold posN
  exact (List.takeWhile_sublist _).length_le
theorem n_cmp_lt_trans {a b c : En} (h : cmpN a b < 0) (k : cmpN b c < 0) : cmpN a c < 0 := (cmpN_hang a b c).2.1 h (by omega)
theorem n_ge_at {k : En} {rows : List En} (ho : rows.Pairwise fun a b => cmpN a b < 0) {i : Nat} {r : En} (hi : posN k rows ≤ i) (h : rows[i]? = some r) : belowN k r = false := by
  have hlt := (List.getElem?_eq_some_iff.1 h).1
  have h0 : rows[posN k rows]? = some (rows[posN k rows]'(by omega)) := List.getElem?_eq_getElem (by omega)
  have hn := n_at_not h0
  by_cases e : posN k rows = i
  · subst e
    exact n_at_not h
  · have hp := List.pairwise_iff_getElem.1 ho (posN k rows) i (by omega) hlt (by omega)
    have he : rows[i] = r := by
      rw [List.getElem?_eq_getElem hlt] at h
      injection h
    rw [he] at hp
    cases hb : belowN k r with
    | false => rfl
    | true =>
      unfold belowN at hb hn
      simp only [decide_eq_true_eq, decide_eq_false_iff_not] at hb hn
      exact absurd (n_cmp_lt_trans hp hb) hn
/-- where all ahead are below and none behind is, the place is found -/
theorem n_at_unique {k : En} {rows : List En} {n : Nat} (hn : n ≤ rows.length) (h1 : ∀ i r, i < n → rows[i]? = some r → belowN k r = true) (h2 : ∀ r, rows[n]? = some r → belowN k r = false) : posN k rows = n := by
  have hle := n_at_le k rows
  rcases Nat.lt_trichotomy (posN k rows) n with h | h | h
  · have h0 : rows[posN k rows]? = some (rows[posN k rows]'(by omega)) := List.getElem?_eq_getElem (by omega)
    have := n_at_not h0
    rw [h1 _ _ h h0] at this
    cases this
  · exact h
  · have h0 : rows[n]? = some (rows[n]'(by omega)) := List.getElem?_eq_getElem (by omega)
    have := n_lt_at h h0
    rw [h2 _ h0] at this
    cases this
/-- binary search may lean on this: below stays below, to the left -/
theorem n_below_mono {k : En} {rows : List En} (ho : rows.Pairwise fun a b => cmpN a b < 0) {i j : Nat} {r r' : En} (hij : i ≤ j) (h : rows[i]? = some r) (h' : rows[j]? = some r') (hb : belowN k r' = true) : belowN k r = true := by
  rcases Nat.lt_or_ge i (posN k rows) with hi | hi
  · exact n_lt_at hi h
  · rw [n_ge_at ho (Nat.le_trans hi hij) h'] at hb; cases hb

/-! ### what is put and taken keeps a table a table -/
theorem n_cmp_pos_neg {a b : En} (h : 0 < cmpN a b) : cmpN b a < 0 := by have := cmpN_anti a b; omega
theorem n_isL_at {k : En} {rows : List En} (h : isN k rows = true) : ∃ r, rows[posN k rows]? = some r ∧ cmpN r k = 0 := by
  unfold isN at h
  cases e : rows[posN k rows]? with
  | none => rw [e] at h; cases h
  | some r => rw [e] at h; exact ⟨r, rfl, by simpa using h⟩
theorem n_isL_none {k : En} {rows : List En} (ho : rows.Pairwise fun a b => cmpN a b < 0) (h : isN k rows = false) : ∀ r ∈ rows, cmpN r k ≠ 0 := by
  intro r hr
  obtain ⟨i, hi, e⟩ := List.getElem_of_mem hr
  have hs : rows[i]? = some r := by rw [List.getElem?_eq_getElem hi, e]
  intro hz
  rcases Nat.lt_trichotomy i (posN k rows) with hlt | heq | hgt
  · have := n_lt_at hlt hs
    unfold belowN at this
    simp only [decide_eq_true_eq] at this
    omega
  · subst heq
    unfold isN at h
    rw [hs] at h
    simp only [decide_eq_false_iff_not] at h
    exact h hz
  · have h0 : rows[posN k rows]? = some (rows[posN k rows]'(by omega)) := List.getElem?_eq_getElem (by omega)
    have hp := List.pairwise_iff_getElem.1 ho (posN k rows) i (by omega) hi hgt
    rw [e] at hp
    have hn := n_at_not h0
    unfold belowN at hn
    simp only [decide_eq_false_iff_not] at hn
    exact hn ((cmpN_hang _ _ _).2.1 hp (by omega))
theorem n_isL_some {k : En} {rows : List En} (ho : rows.Pairwise fun a b => cmpN a b < 0) {r : En} (hr : r ∈ rows) (hz : cmpN r k = 0) : isN k rows = true := by
  cases h : isN k rows with
  | true => rfl
  | false => exact absurd hz (n_isL_none ho h r hr)
theorem n_put_ord {rows : List En} {r : En} (ho : rows.Pairwise fun a b => cmpN a b < 0) (h : isN r rows = false) :
    (rows.take (posN r rows) ++ r :: rows.drop (posN r rows)).Pairwise fun a b => cmpN a b < 0 := by
  have hno := n_isL_none ho h
  have ha : ∀ x ∈ rows.take (posN r rows), cmpN x r < 0 := by
    intro x hx
    obtain ⟨i, hi, e⟩ := List.getElem_of_mem hx
    have hi' : i < posN r rows := by have := List.length_take_le (posN r rows) rows; omega
    have hs : rows[i]? = some x := by
      rw [List.getElem_take] at e
      rw [← e]; exact List.getElem?_eq_getElem _
    have := n_lt_at hi' hs
    unfold belowN at this
    simpa using this
  have hb : ∀ x ∈ rows.drop (posN r rows), cmpN r x < 0 := by
    intro x hx
    obtain ⟨i, hi, e⟩ := List.getElem_of_mem hx
    rw [List.getElem_drop] at e
    have hs : rows[posN r rows + i]? = some x := by rw [← e]; exact List.getElem?_eq_getElem _
    have h1 := n_ge_at ho (Nat.le_add_right _ i) hs
    have h2 := hno x (List.mem_of_mem_drop hx)
    unfold belowN at h1
    simp only [decide_eq_false_iff_not] at h1
    exact n_cmp_pos_neg (by omega)
  rw [List.pairwise_append, List.pairwise_cons]
  refine ⟨ho.sublist (List.take_sublist _ _), ⟨hb, ho.sublist (List.drop_sublist _ _)⟩, ?_⟩
  intro a hxa b hxb
  rcases List.mem_cons.1 hxb with rfl | hxb
  · exact ha a hxa
  · exact n_cmp_lt_trans (ha a hxa) (hb b hxb)
theorem n_put_perm {rows : List En} {r : En} : (rows.take (posN r rows) ++ r :: rows.drop (posN r rows)).Perm (r :: rows) := by
  refine List.perm_middle.trans ?_
  rw [List.take_append_drop]

theorem addN_srt {l : List En} (h : Srt l) (e : En) : Srt (addN l e) := by
  unfold addN
  cases hi : isN e l with
  | true => exact h
  | false => rw [if_neg (by simp)]; exact n_put_ord h hi
theorem dropN_srt {l : List En} (h : Srt l) (e : En) : Srt (dropN l e) := by
  unfold dropN
  cases hi : isN e l with
  | false => exact h
  | true =>
    rw [if_pos rfl, ← List.eraseIdx_eq_take_drop_succ]
    exact h.sublist (List.eraseIdx_sublist _ _)
theorem mem_addN {l : List En} {e x : En} (h : x ∈ addN l e) : x = e ∨ x ∈ l := by
  unfold addN at h
  split at h
  · exact .inr h
  · exact List.mem_cons.1 (n_put_perm.mem_iff.1 h)
theorem mem_dropN {l : List En} {e x : En} (h : x ∈ dropN l e) : x ∈ l := by
  unfold dropN at h
  split at h
  · rw [← List.eraseIdx_eq_take_drop_succ] at h
    exact (List.eraseIdx_sublist _ _).subset h
  · exact h
theorem addN_len {l : List En} {e : En} : (addN l e).length = l.length + (if isN e l = true then 0 else 1) := by
  unfold addN
  cases isN e l with
  | true => rfl
  | false =>
    have := (n_put_perm (r := e) (rows := l)).length_eq
    simpa using this
theorem dropN_len {l : List En} {e : En} : (dropN l e).length + (if isN e l = true then 1 else 0) = l.length := by
  unfold dropN
  cases hi : isN e l with
  | false => rfl
  | true =>
    obtain ⟨r, hr, _⟩ := n_isL_at hi
    have hlt := (List.getElem?_eq_some_iff.1 hr).1
    rw [if_pos rfl, if_pos rfl, ← List.eraseIdx_eq_take_drop_succ, List.length_eraseIdx_of_lt hlt]
    omega
end Go.Proofs.Ytnlmbjmgmofeiaa.ix

/- Contracts: entries are held against one another; atomic counts. -/
namespace Go.Proofs.Ytnlmbjmgmofeiaa.ix
open Go.ChangeShapes Go.WideShapes Go.ChangeAt Go.RowKit Go.Proofs.Ytnlmbjmgmofeiaa.lib Go.Proofs.Ytnlmbjmgmofeiaa.val Go.Proofs.Ytnlmbjmgmofeiaa.tb
set_option linter.unusedVariables false

theorem bytes_ (v : V) (w : World) (hv : Fit64 v) :
    Calls Try.prog 55 #[.agg #[.int .i64 v.k, .int .i64 v.n, .string v.s]] w (OwnB (kb v) w) := by
  obtain ⟨k1, k2, k3, k4, k5, k6⟩ := chk_form hv.chk
  have hb := fun h : v.k = 1 => bool_n hv.chk h
  have hlo := hv.lo
  have hhi := hv.hi
  obtain ⟨k, n, s⟩ := v
  simp only at k1 k2 k6 hb hlo hhi ⊢
  have hk : k = 0 ∨ k = 1 ∨ k = 2 ∨ k = 3 := by omega
  rcases hk with rfl | rfl | rfl | rfl
  · exact bytes0 n s w
  · exact bytes1 n s w (by rcases hb rfl with h | h <;> omega)
  · have e : kb ⟨2, n, s⟩ = 2 :: pre 8 (off n) := by rw [pre_all]; rfl
    rw [e]
    exact bytes2 n s w hlo hhi
  · exact bytes3 n s w k6
/-! ### bytes.Compare -/
theorem bytesOf_cells (l : List UInt8) : Lib.bytesOf (l.map fun b => (b.toNat : Int)) = l := by
  unfold Lib.bytesOf
  rw [List.map_map]
  conv => rhs; rw [← List.map_id l]
  apply List.map_congr_left
  intro b _
  simp
theorem run_bytesOf {P : Program} {w : World} {l : List UInt8} {g n c b : Nat} (h : w.ownsRow b 5 1 (.slice (some ⟨g, 0, none⟩) n c) n (cellsB l)) :
    (Extern.Bytes.bytesOf (.slice (some ⟨g, 0, none⟩) n c)).run P w = .ok ⟨l.toArray⟩ w := by
  have hn : n = l.length := by have := h.1; rw [lenB] at this; omega
  subst hn
  have hl := Lib.run_loadBytesX (P := P) (w := w) (l.map fun b => (b.toNat : Int)) ⟨g, 0, none⟩ .empty (fun j x hj => by
    have hc : (cellsB l)[j]? = some (.int .u8 x) := by
      unfold cellsB
      rw [List.getElem?_map] at hj ⊢
      cases hx : l[j]? with
      | none => rw [hx] at hj; cases hj
      | some y => rw [hx] at hj; injection hj with hj; subst hj; rfl
    exact (Row.of_own h).src j _ hc)
  rw [bytesOf_cells, List.length_map] at hl
  simpa [Extern.Bytes.bytesOf] using hl
theorem run_bcmp {w : World} {l m : List UInt8} {g n c b g' n' c' b' : Nat} (h : w.ownsRow b 5 1 (.slice (some ⟨g, 0, none⟩) n c) n (cellsB l)) (h' : w.ownsRow b' 5 1 (.slice (some ⟨g', 0, none⟩) n' c') n' (cellsB m)) :
    (Extern.BytealgCompare.compare #[.slice (some ⟨g, 0, none⟩) n c, .slice (some ⟨g', 0, none⟩) n' c']).run Try.prog w = .ok (.int .i64 (cb l m)) w := by
  change Sem.run Try.prog (do pure (goInt (Extern.BytealgCompare.cmp (← Extern.Bytes.bytesOf (.slice (some ⟨g, 0, none⟩) n c)) (← Extern.Bytes.bytesOf (.slice (some ⟨g', 0, none⟩) n' c'))))) w = _
  simp only [Sem.run_bind, Sem.run_pure, Result.andThen, run_bytesOf h, run_bytesOf h']
  rw [Lib.cmp_eq]
  rfl
theorem bcmp_ {l m : List UInt8} {g n c b g' n' c' b' : Nat} (w : World) (h : w.ownsRow b 5 1 (.slice (some ⟨g, 0, none⟩) n c) n (cellsB l)) (h' : w.ownsRow b' 5 1 (.slice (some ⟨g', 0, none⟩) n' c') n' (cellsB m)) :
    Calls Try.prog 56 #[.slice (some ⟨g, 0, none⟩) n c, .slice (some ⟨g', 0, none⟩) n' c'] w fun e w' => e = .returned (.int .i64 (cb l m)) ∧ w = w' := by
  have hc := run_bcmp h h'
  go_enter Try.func56, Try.ntmps56
  go_wp2_with fail
  rw [run_callFunc_extern Try.func63 (by kernel_rfl) (by kernel_rfl) (by kernel_rfl) (e := Extern.BytealgCompare.compare) (by kernel_rfl), hc]
  simp only [Result.andThen]
  rw [Oper.upon_value]
  go_wp2
  go_ret
  exact ⟨rfl, rfl⟩
/-! ### entries -/
structure Ew where
  e : En
  g : Nat
  n : Nat
  c : Nat
def Ew.sl (x : Ew) : Value := .slice (some ⟨x.g, 0, none⟩) x.n x.c
def encW (x : Ew) : List Value := [.int .i64 x.e.v.k, .int .i64 x.e.v.n, .string x.e.v.s, .int .i64 x.e.k.k, .int .i64 x.e.k.n, .string x.e.k.s, .slice (some ⟨x.g, 0, none⟩) x.n x.c]
def Ew.agg (x : Ew) : Value := .agg #[.int .i64 x.e.v.k, .int .i64 x.e.v.n, .string x.e.v.s, .int .i64 x.e.k.k, .int .i64 x.e.k.n, .string x.e.k.s, .slice (some ⟨x.g, 0, none⟩) x.n x.c]
structure EnOk (e : En) : Prop where
  v : Fit64 e.v
  k : Fit64 e.k
def kbs (e : En) : List UInt8 := kb e.v ++ kb e.k
structure EwOk (w : World) (x : Ew) : Prop where
  ok : EnOk x.e
  own : w.ownsRow 0 5 1 (.slice (some ⟨x.g, 0, none⟩) x.n x.c) x.n (cellsB (kbs x.e))
theorem EwOk.ext {w w' : World} {x : Ew} (h : EwOk w x) (hb : Below w.heap.size w w') : EwOk w' x := ⟨h.ok, own_ext h.own hb⟩
theorem kbs_cmp {a b : En} (ha : EnOk a) (hb : EnOk b) : cb (kbs a) (kbs b) = cmpN a b := by
  unfold kbs cmpN
  rw [kb_step ha.v hb.v, ← List.append_nil (kb a.k), ← List.append_nil (kb b.k), kb_step ha.k hb.k]
  by_cases h : cmpV a.v b.v = 0
  · rw [if_pos h, if_pos h]
    by_cases h2 : cmpV a.k b.k = 0
    · rw [if_pos h2, h2]; rfl
    · rw [if_neg h2]
  · rw [if_neg h, if_neg h]
theorem seven {w : World} {g : Nat} {t : TypeId} {x0 x1 x2 x3 x4 x5 x6 : Value} (h : Blk w g t #[x0, x1, x2, x3, x4, x5, x6]) {w' : World} (hb : Below w.heap.size w w') :
    w'.cell? ⟨g, 0, none⟩ = some x0 ∧ w'.cell? ⟨g, 1, none⟩ = some x1 ∧ w'.cell? ⟨g, 2, none⟩ = some x2 ∧ w'.cell? ⟨g, 3, none⟩ = some x3 ∧ w'.cell? ⟨g, 4, none⟩ = some x4 ∧ w'.cell? ⟨g, 5, none⟩ = some x5 ∧ w'.cell? ⟨g, 6, none⟩ = some x6 :=
  ⟨(h.ext hb).cell 0, (h.ext hb).cell 1, (h.ext hb).cell 2, (h.ext hb).cell 3, (h.ext hb).cell 4, (h.ext hb).cell 5, (h.ext hb).cell 6⟩
theorem ecmp_ (x y : Ew) (w : World) (hx : EwOk w x) (hy : EwOk w y) :
    Calls Try.prog 45 #[x.agg, y.agg] w fun e w' => e = .returned (.int .i64 (cmpN x.e y.e)) ∧ Below w.heap.size w w' := by
  have hc := kbs_cmp hx.ok hy.ok
  have HC := Lib.hid hc
  have HX := Lib.hid hx
  have HY := Lib.hid hy
  clear hc hx hy
  unfold Ew.agg
  go_enter Try.func45, Try.ntmps45
  go_upto_region 1 with fail
  obtain ⟨W, hW_, hbW, B1, B2⟩ : ∃ W_, W_ = ((w.alloc (.cells #[.int .i64 x.e.v.k, .int .i64 x.e.v.n, .string x.e.v.s, .int .i64 x.e.k.k, .int .i64 x.e.k.n, .string x.e.k.s, .slice (some ⟨x.g, 0, none⟩) x.n x.c] 78)).alloc (.cells #[.int .i64 y.e.v.k, .int .i64 y.e.v.n, .string y.e.v.s, .int .i64 y.e.k.k, .int .i64 y.e.k.n, .string y.e.k.s, .slice (some ⟨y.g, 0, none⟩) y.n y.c] 78)) ∧ Below w.heap.size w W_ ∧ Blk W_ (w.heap.size) 78 #[.int .i64 x.e.v.k, .int .i64 x.e.v.n, .string x.e.v.s, .int .i64 x.e.k.k, .int .i64 x.e.k.n, .string x.e.k.s, .slice (some ⟨x.g, 0, none⟩) x.n x.c] ∧ Blk W_ (w.heap.size + 1) 78 #[.int .i64 y.e.v.k, .int .i64 y.e.v.n, .string y.e.v.s, .int .i64 y.e.k.k, .int .i64 y.e.k.n, .string y.e.k.s, .slice (some ⟨y.g, 0, none⟩) y.n y.c] :=
    ⟨_, rfl, (((Below.refl _ _).alloc (Nat.le_refl _) _).alloc (by simp; try omega) _), ((blk_new_at w (w.heap.size) _ _ (by simp)).alloc _), (blk_new_at (w.alloc (.cells #[.int .i64 x.e.v.k, .int .i64 x.e.v.n, .string x.e.v.s, .int .i64 x.e.k.k, .int .i64 x.e.k.n, .string x.e.k.s, .slice (some ⟨x.g, 0, none⟩) x.n x.c] 78)) (w.heap.size + 1) _ _ (by simp))⟩
  rw [← hW_]
  clear hW_
  have q1 := seven B1 (Below.refl _ _)
  have q2 := seven B2 (Below.refl _ _)
  go_wp2_with fail
  refine (bcmp_ W (own_ext HX.out.own hbW) (own_ext HY.out.own hbW)).mono ?_
  rintro e w1 ⟨rfl, rfl⟩
  rw [HC.out]
  go_wp2
  go_ret
  exact ⟨rfl, hbW⟩
/-! ### the count -/
theorem load64_ (a : Addr) (x : Int) (w : World) (hc : w.cell? a = some (.int .i64 x)) :
    Calls Try.prog 39 #[.pointer (some a)] w fun e w' => e = .returned (.int .i64 x) ∧ w = w' := by
  obtain ⟨b, o, s⟩ := a
  obtain rfl : s = none := World.cell?_spot hc
  have hl := run_call_load (P := Try.prog) Try.func54 (by kernel_rfl) (by kernel_rfl) (by kernel_rfl) .i64 (by kernel_rfl) hc
  go_enter Try.func39, Try.ntmps39
  go_wp2
  go_ret
  exact ⟨rfl, rfl⟩
theorem add64_ (a : Addr) (x y : Int) (w : World) (hc : w.cell? a = some (.int .i64 x)) (hz : w.frozen? a = false) (hx : -1000000 ≤ x ∧ x ≤ 1000000) (hy : -1000000 ≤ y ∧ y ≤ 1000000) :
    Calls Try.prog 47 #[.pointer (some a), .int .i64 y] w fun e w' => e = .returned (.int .i64 (x + y)) ∧ w' = w.setCell a (.int .i64 (x + y)) := by
  obtain ⟨b, o, s⟩ := a
  obtain rfl : s = none := World.cell?_spot hc
  have hw : IntKind.i64.wrap (x + y) = x + y := IntWalk.i64_in _ ⟨by omega, by omega⟩
  have ha := run_call_add (P := Try.prog) Try.func57 (by kernel_rfl) (by kernel_rfl) (by kernel_rfl) .i64 (by kernel_rfl) (y := y) (s := x + y) hc hz (by simp [go_sem, hw])
  go_enter Try.func47, Try.ntmps47
  go_wp2
  go_ret
  exact ⟨rfl, rfl⟩
end Go.Proofs.Ytnlmbjmgmofeiaa.ix
