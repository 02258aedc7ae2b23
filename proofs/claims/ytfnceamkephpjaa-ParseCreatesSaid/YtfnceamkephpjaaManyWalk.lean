/- ParseMany: the walk. Printed by genmany.py. -/
import Derived.Test.YtfnceamkephpjaaQ15
import Derived.Test.YtfnceamkephpjaaDeepWalk
namespace Go.Proofs.Ytfnceamkephpjaa.pg
open Go.ChangeShapes Go.WideShapes Go.ChangeAt Go.RowKit Go.Proofs.Ytfnceamkephpjaa.lib Go.Proofs.Ytfnceamkephpjaa.lx
set_option linter.unusedVariables false

def rowT (d : Nat) : List UInt8 := if d = 0 then [49] else if d = 1 then [97] else [98, 32, 61, 32, 50]
/-- so many and one more of a row -/
def manyT (d : Nat) : Nat → List UInt8
  | 0 => rowT d
  | n + 1 => manyT d n ++ [44, 32] ++ rowT d
def fullT (d n : Nat) : List UInt8 := if d = 0 then [105, 110, 115, 101, 114, 116, 32, 105, 110, 116, 111, 32, 116, 32, 118, 97, 108, 117, 101, 115, 32, 40] ++ manyT d n ++ [41] else if d = 1 then [115, 101, 108, 101, 99, 116, 32] ++ manyT d n ++ [32, 102, 114, 111, 109, 32, 116] else [117, 112, 100, 97, 116, 101, 32, 116, 32, 115, 101, 116, 32] ++ manyT d n
def manyB (d n : Nat) : Bool := match stmtL (fullT d n) with
  | (e, st) => if 6 ≤ n then decide (e = 4) && decide (st.kind = 0) else decide (e = 0) && decide (st.exprs.length + st.items.length = n + 1)
theorem many_all : (List.range 3).all (fun d => (List.range 9).all fun n => manyB d n) = true := by decide +kernel
theorem many_ok {d n : Nat} (hd : d < 3) (hn : n < 9) : manyB d n = true :=
  List.all_eq_true.1 (List.all_eq_true.1 many_all d (List.mem_range.2 hd)) n (List.mem_range.2 hn)
theorem rowT_len (d : Nat) : (rowT d).length ≤ 5 := by
  unfold rowT
  split
  · decide
  split <;> decide
theorem manyT_len (d : Nat) : ∀ n, (manyT d n).length ≤ 7 * n + 5
  | 0 => rowT_len d
  | n + 1 => by
    have h1 := manyT_len d n
    have h2 := rowT_len d
    simp only [manyT, List.length_append, List.length_cons, List.length_nil]
    omega
theorem fullT_len (d n : Nat) : (fullT d n).length ≤ 7 * n + 40 := by
  have h := manyT_len d n
  unfold fullT
  split
  · simp only [List.length_append, List.length_cons, List.length_nil]; omega
  split
  · simp only [List.length_append, List.length_cons, List.length_nil]; omega
  · simp only [List.length_append, List.length_cons, List.length_nil]; omega
theorem mod_nat (a : Int) (n : Nat) (hn : 1 ≤ n) : ∃ d : Nat, d < n ∧ a % (n : Int) = (d : Int) := by
  have h1 := Int.emod_nonneg a (by omega : (n : Int) ≠ 0)
  have h2 := Int.emod_lt_of_pos a (by omega : 0 < (n : Int))
  exact ⟨(a % n).toNat, by omega, by rw [Int.toNat_of_nonneg h1]⟩
set_option maxRecDepth 1000000 in
set_option maxHeartbeats 8000000 in
theorem many_walk (a k : Int) (w : World) (ha : ok64 a) (hk : ok64 k) :
    Calls Try.prog 7 #[.int .i64 a, .int .i64 k] w fun e w' => e = .returned (.bool true) ∧ Below w.heap.size w w' := by
  obtain ⟨n, hn, hna⟩ := mod_nat a 9 (by decide)
  obtain ⟨d, hd, hdk⟩ := mod_nat k 3 (by decide)
  have HN := Lib.hid (fun W => within_ a 9 W (by decide) (by decide) ha)
  have HK := Lib.hid (fun W => within_ k 3 W (by decide) (by decide) hk)
  replace HN := HN.out
  replace HK := HK.out
  rw [show a % 9 = (n : Int) from hna] at HN
  rw [show k % 3 = (d : Int) from hdk] at HK
  replace HN := Lib.hid HN
  replace HK := Lib.hid HK
  have hd3 : (d : Int) < 3 := by omega
  clear ha hk hna hdk
  go_enter Try.func7, Try.ntmps7
  go_wp2_with fail
  refine (known_ _).mono ?_
  rintro e w1 ⟨rfl, hb1⟩
  have HB1 := Lib.hid hb1
  clear hb1
  go_wp2_with fail
  refine (HN.out _).mono ?_
  rintro e w2 ⟨rfl, rfl⟩
  obtain ⟨N, hN, hN1, hN3, hN2⟩ : ∃ N : Nat, (1 : Int) + (n : Int) = (N : Int) ∧ n + 1 ≤ N ∧ N ≤ n + 1 ∧ N ≤ 9 := ⟨n + 1, by omega, by omega, by omega, by omega⟩
  go_upto_region 4 with fail
  go_wp2_with fail
  obtain ⟨W2, hW_, hb2, BR⟩ : ∃ W_, W_ = (w1.alloc (.cells #[.string ⟨#[49]⟩, .string ⟨#[97]⟩, .string ⟨#[98, 32, 61, 32, 50]⟩] 9)) ∧ Below w1.heap.size w1 W_ ∧ Blk W_ (w1.heap.size) 9 #[.string ⟨#[49]⟩, .string ⟨#[97]⟩, .string ⟨#[98, 32, 61, 32, 50]⟩] :=
    ⟨_, rfl, ((Below.refl _ _).alloc (Nat.le_refl _) _), (blk_new_at w1 (w1.heap.size) _ _ (by simp))⟩
  rw [← hW_]
  clear hW_
  have HB2 := Lib.hid (bch0 HB1.out hb2)
  obtain ⟨r, hr⟩ : ∃ r : ByteArray, r = ⟨(rowT d).toArray⟩ := ⟨_, rfl⟩
  have HR := Lib.hid (IsT.mk hr)
  have hc : W2.cell? ⟨w1.heap.size, d, none⟩ = some (.string r) := by
    rw [hr, BR.cell]
    have : d = 0 ∨ d = 1 ∨ d = 2 := by omega
    rcases this with rfl | rfl | rfl <;> rfl
  have zr : r.size ≤ 5 := by rw [HR.out.size]; exact rowT_len d
  clear hb2 BR hr
  refine (HK.out _).mono ?_
  rintro e w2 ⟨rfl, rfl⟩
  go_upto_region 6 with fail
  clear hc hN
  go_wp2_with fail
  have sz0 : (⟨#[44, 32]⟩ : ByteArray).size = 2 := rfl
  have sz1 : (⟨#[105, 110, 115, 101, 114, 116, 32, 105, 110, 116, 111, 32, 116, 32, 118, 97, 108, 117, 101, 115, 32, 40]⟩ : ByteArray).size = 22 := rfl
  have sz2 : (⟨#[41]⟩ : ByteArray).size = 1 := rfl
  have sz3 : (⟨#[115, 101, 108, 101, 99, 116, 32]⟩ : ByteArray).size = 7 := rfl
  have sz4 : (⟨#[32, 102, 114, 111, 109, 32, 116]⟩ : ByteArray).size = 7 := rfl
  have sz5 : (⟨#[117, 112, 100, 97, 116, 101, 32, 116, 32, 115, 101, 116, 32]⟩ : ByteArray).size = 13 := rfl
  go_loopw [6, 7] (fun sv iv wr => ∃ (j : Nat) (s : ByteArray), iv = .int .i64 j ∧ 1 ≤ j ∧ j ≤ N ∧ sv = .string s ∧ Hid (IsT s (manyT d (j - 1))) ∧ W2 = wr) (fun _ iv _ => N - (intOf iv).toNat)
  case atStart => exact ⟨1, r, rfl, by omega, by omega, rfl, HR, rfl⟩
  case round =>
    obtain ⟨j, s, rfl, hj1, hjn, rfl, HS, rfl⟩ := hrel
    have z1 : s.size ≤ 68 := by have := manyT_len d (j - 1); rw [HS.out.size]; omega
    rcases Nat.lt_or_ge j N with hlt | hge
    case inl =>
      have c1 : decide ((j : Int) < (N : Int)) = true := by simp; omega
      have z2 : (s ++ (⟨#[44, 32]⟩ : ByteArray)).size ≤ 70 := by rw [ByteArray.size_append]; omega
      have z3 : (s ++ (⟨#[44, 32]⟩ : ByteArray) ++ r).size ≤ 75 := by rw [ByteArray.size_append]; omega
      have HS2 := Lib.hid (show IsT (s ++ (⟨#[44, 32]⟩ : ByteArray) ++ r) (manyT d (j + 1 - 1)) from (HS.out.app (IsT.lit [44, 32]) rfl).app HR.out (show manyT d (j - 1) ++ [44, 32] ++ rowT d = manyT d (j + 1 - 1) by
        obtain ⟨i, rfl⟩ : ∃ i, j = i + 1 := ⟨j - 1, by omega⟩
        rfl))
      go_wp2
      go_roundw
      case rel => exact ⟨j + 1, _, by go_num, by omega, by omega, by first | rfl | trivial, HS2, by first | rfl | trivial⟩
      case measure => simp [intOf]; omega
    have c1 : decide ((j : Int) < (N : Int)) = false := by simp; omega
    obtain rfl : j = N := by omega
    have y1 : ((⟨#[105, 110, 115, 101, 114, 116, 32, 105, 110, 116, 111, 32, 116, 32, 118, 97, 108, 117, 101, 115, 32, 40]⟩ : ByteArray) ++ s).size ≤ 100 := by rw [ByteArray.size_append]; omega
    have y2 : ((⟨#[105, 110, 115, 101, 114, 116, 32, 105, 110, 116, 111, 32, 116, 32, 118, 97, 108, 117, 101, 115, 32, 40]⟩ : ByteArray) ++ s ++ (⟨#[41]⟩ : ByteArray)).size ≤ 101 := by rw [ByteArray.size_append]; omega
    have y3 : ((⟨#[115, 101, 108, 101, 99, 116, 32]⟩ : ByteArray) ++ s).size ≤ 100 := by rw [ByteArray.size_append]; omega
    have y4 : ((⟨#[115, 101, 108, 101, 99, 116, 32]⟩ : ByteArray) ++ s ++ (⟨#[32, 102, 114, 111, 109, 32, 116]⟩ : ByteArray)).size ≤ 110 := by rw [ByteArray.size_append]; omega
    have y5 : ((⟨#[117, 112, 100, 97, 116, 101, 32, 116, 32, 115, 101, 116, 32]⟩ : ByteArray) ++ s).size ≤ 100 := by rw [ByteArray.size_append]; omega
    have T0 := Lib.hid (((IsT.lit [105, 110, 115, 101, 114, 116, 32, 105, 110, 116, 111, 32, 116, 32, 118, 97, 108, 117, 101, 115, 32, 40]).app HS.out rfl).app (IsT.lit [41]) rfl)
    have T1 := Lib.hid (((IsT.lit [115, 101, 108, 101, 99, 116, 32]).app HS.out rfl).app (IsT.lit [32, 102, 114, 111, 109, 32, 116]) rfl)
    have T2 := Lib.hid ((IsT.lit [117, 112, 100, 97, 116, 101, 32, 116, 32, 115, 101, 116, 32]).app HS.out rfl)
    have HNJ := Lib.hid (show j - 1 = n by omega)
    clear hge
    go_wp2_with fail
    obtain ⟨W3, hW_, hb3, BT⟩ : ∃ W_, W_ = (W2.alloc (.cells #[.string ((⟨#[105, 110, 115, 101, 114, 116, 32, 105, 110, 116, 111, 32, 116, 32, 118, 97, 108, 117, 101, 115, 32, 40]⟩ : ByteArray) ++ s ++ (⟨#[41]⟩ : ByteArray)), .string ((⟨#[115, 101, 108, 101, 99, 116, 32]⟩ : ByteArray) ++ s ++ (⟨#[32, 102, 114, 111, 109, 32, 116]⟩ : ByteArray)), .string ((⟨#[117, 112, 100, 97, 116, 101, 32, 116, 32, 115, 101, 116, 32]⟩ : ByteArray) ++ s)] 9)) ∧ Below W2.heap.size W2 W_ ∧ Blk W_ (W2.heap.size) 9 #[.string ((⟨#[105, 110, 115, 101, 114, 116, 32, 105, 110, 116, 111, 32, 116, 32, 118, 97, 108, 117, 101, 115, 32, 40]⟩ : ByteArray) ++ s ++ (⟨#[41]⟩ : ByteArray)), .string ((⟨#[115, 101, 108, 101, 99, 116, 32]⟩ : ByteArray) ++ s ++ (⟨#[32, 102, 114, 111, 109, 32, 116]⟩ : ByteArray)), .string ((⟨#[117, 112, 100, 97, 116, 101, 32, 116, 32, 115, 101, 116, 32]⟩ : ByteArray) ++ s)] :=
      ⟨_, rfl, ((Below.refl _ _).alloc (Nat.le_refl _) _), (blk_new_at W2 (W2.heap.size) _ _ (by simp))⟩
    rw [← hW_]
    clear hW_
    have HB3 := Lib.hid (bch0 HB2.out hb3)
    obtain ⟨t, ht⟩ : ∃ t : ByteArray, t = ⟨(fullT d n).toArray⟩ := ⟨_, rfl⟩
    have hc : W3.cell? ⟨W2.heap.size, d, none⟩ = some (.string t) := by
      rw [BT.cell]
      have h0 := T0.out.eq
      have h1 := T1.out.eq
      have h2 := T2.out.eq
      rw [HNJ.out] at h0 h1 h2
      have : d = 0 ∨ d = 1 ∨ d = 2 := by omega
      rcases this with rfl | rfl | rfl
      · rw [ht, h0]; rfl
      · rw [ht, h1]; rfl
      · rw [ht, h2]; rfl
    have HT := Lib.hid ht
    clear hb3 BT T0 T1 T2 y1 y2 y3 y4 y5 z1 c1 HS ht
    refine (HK.out _).mono ?_
    rintro e w3 ⟨rfl, rfl⟩
    have HST := Lib.hid (Stmt_ (fullT d n) (by have := fullT_len d n; omega) W3)
    have HM := Lib.hid (many_ok hd hn)
    obtain ⟨⟨er, st⟩, hres⟩ : ∃ X, stmtL (fullT d n) = X := ⟨_, rfl⟩
    replace HM := (show manyB d n = match stmtL (fullT d n) with | (e, st) => if 6 ≤ n then decide (e = 4) && decide (st.kind = 0) else decide (e = 0) && decide (st.exprs.length + st.items.length = n + 1) from rfl).symm.trans HM.out
    replace HST := HST.out
    rw [hres] at HM HST
    simp only at HM
    rw [← HT.out] at HST
    replace HST := Lib.hid HST
    replace HM := Lib.hid HM
    clear hres
    go_wp2_with fail
    refine (HST.out).mono ?_
    rintro e w4 ⟨v, rfl, ho, hb4⟩
    have HB4 := Lib.hid (bch0 HB3.out hb4)
    have HO := Lib.hid ho
    clear ho hb4 hc
    simp only
    obtain ⟨w9, hw9, BX9, hg9⟩ := Blk.setRow (Blk.new w4 44 #[.int .i64 0, .string ⟨#[]⟩, .slice none 0 0, .int .i64 0, .bool false, .string ⟨#[]⟩, .string ⟨#[]⟩, .slice none 0 0, .slice none 0 0, .slice none 0 0, .slice none 0 0, .slice none 0 0, .string ⟨#[]⟩, .string ⟨#[]⟩, .bool false, .int .i64 0, .string ⟨#[]⟩]) (cellsSt st v)
    have HW9 := Lib.hid hw9
    have hal := (Below.refl w4.heap.size w4).alloc (Nat.le_refl _) (.cells #[.int .i64 0, .string ⟨#[]⟩, .slice none 0 0, .int .i64 0, .bool false, .string ⟨#[]⟩, .string ⟨#[]⟩, .slice none 0 0, .slice none 0 0, .slice none 0 0, .slice none 0 0, .slice none 0 0, .string ⟨#[]⟩, .string ⟨#[]⟩, .bool false, .int .i64 0, .string ⟨#[]⟩] 44)
    have HB9 := Lib.hid (bch0 HB4.out (hal.grown hg9 (by have := hal.size; omega) (by intro k hk; injection hk with hk; omega)))
    have H1 := Lib.hid (st_one HO.out)
    obtain ⟨_, he1, _⟩ := HO.out.e
    obtain ⟨_, hi1, _⟩ := HO.out.i
    obtain ⟨Ae, ce, hve⟩ := own_sl he1
    obtain ⟨Ai, ci, hvi⟩ := own_sl hi1
    have q0 : w9.cell? ⟨w4.heap.size, 0, none⟩ = some (.int .i64 st.kind) := BX9.cell 0
    have q9 : w9.cell? ⟨w4.heap.size, 9, none⟩ = some (.slice Ae st.exprs.length ce) := (BX9.cell 9).trans (congrArg some hve)
    have q10 : w9.cell? ⟨w4.heap.size, 10, none⟩ = some (.slice Ai st.items.length ci) := (BX9.cell 10).trans (congrArg some hvi)
    clear hw9 BX9 hg9 hal he1 hi1 hve hvi HO
    rcases Nat.lt_or_ge n 6 with h6 | h6
    case inr =>
      have hm := HM.out
      rw [if_pos h6] at hm
      simp only [Bool.and_eq_true, decide_eq_true_eq] at hm
      obtain ⟨rfl, hk0⟩ := hm
      have c6 : decide ((6 : Int) < (j : Int)) = true := by simp; omega
      rw [hk0] at q0
      clear HM h6 hk0
      go_wp2_with (first | ((with_reducible show wpList _ _ _ (Oper.mk _ (Op.store 44 _ _) _ _ _ _ :: _) _ _); refine wpList_store_row rfl 44 _ _ rfl w4.heap.size (cellsSt st v) rfl rfl 44 _ (Blk.new w4 44 #[.int .i64 0, .string ⟨#[]⟩, .slice none 0 0, .int .i64 0, .bool false, .string ⟨#[]⟩, .string ⟨#[]⟩, .slice none 0 0, .slice none 0 0, .slice none 0 0, .slice none 0 0, .slice none 0 0, .string ⟨#[]⟩, .string ⟨#[]⟩, .bool false, .int .i64 0, .string ⟨#[]⟩]) (by kernel_rfl) rfl (H1.out) ?_; rw [← HW9.out]))
      go_ret
      exact ⟨rfl, HB9.out⟩
    have hm := HM.out
    rw [if_neg (by omega)] at hm
    simp only [Bool.and_eq_true, decide_eq_true_eq] at hm
    obtain ⟨rfl, hsum⟩ := hm
    have c6 : decide ((6 : Int) < (j : Int)) = false := by simp; omega
    obtain ⟨x1, hx1⟩ : ∃ x, st.exprs.length = x := ⟨_, rfl⟩
    obtain ⟨x2, hx2⟩ : ∃ x, st.items.length = x := ⟨_, rfl⟩
    rw [hx1] at q9 hsum
    rw [hx2] at q10 hsum
    have hx1l : x1 ≤ 10 := by omega
    have hx2l : x2 ≤ 10 := by omega
    have c7 : ((x1 : Int) + (x2 : Int) == (j : Int)) = true := by simp; omega
    clear HM h6 hsum hx1 hx2
    go_wp2_with (first | ((with_reducible show wpList _ _ _ (Oper.mk _ (Op.store 44 _ _) _ _ _ _ :: _) _ _); refine wpList_store_row rfl 44 _ _ rfl w4.heap.size (cellsSt st v) rfl rfl 44 _ (Blk.new w4 44 #[.int .i64 0, .string ⟨#[]⟩, .slice none 0 0, .int .i64 0, .bool false, .string ⟨#[]⟩, .string ⟨#[]⟩, .slice none 0 0, .slice none 0 0, .slice none 0 0, .slice none 0 0, .slice none 0 0, .string ⟨#[]⟩, .string ⟨#[]⟩, .bool false, .int .i64 0, .string ⟨#[]⟩]) (by kernel_rfl) rfl (H1.out) ?_; rw [← HW9.out]))
    go_ret
    exact ⟨rfl, HB9.out⟩
end Go.Proofs.Ytfnceamkephpjaa.pg
