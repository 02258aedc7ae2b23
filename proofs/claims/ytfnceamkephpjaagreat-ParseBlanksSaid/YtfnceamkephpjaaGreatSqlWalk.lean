/- law18's Sql: one of the texts. Printed by genbl2.py. -/
import Derived.Test.YtfnceamkephpjaaGreatBlText
import Derived.Test.YtfnceamkephpjaaGreatR1
import Derived.Test.YtfnceamkephpjaaGreatDeepWalk
namespace Go.Proofs.YtfnceamkephpjaaGreat.pg
open Go.ChangeShapes Go.WideShapes Go.ChangeAt Go.RowKit Go.Proofs.YtfnceamkephpjaaGreat.lib Go.Proofs.YtfnceamkephpjaaGreat.lx
set_option linter.unusedVariables false

theorem mod_nat' (a : Int) (n : Nat) (hn : 1 ≤ n) : ∃ d : Nat, d < n ∧ a % (n : Int) = (d : Int) := by
  have h1 := Int.emod_nonneg a (by omega : (n : Int) ≠ 0)
  have h2 := Int.emod_lt_of_pos a (by omega : 0 < (n : Int))
  exact ⟨(a % n).toNat, by omega, by rw [Int.toNat_of_nonneg h1]⟩
theorem whT_len (k x : Nat) (hk : k < 6) : (whT k x).length ≤ 40 := by
  have h := dg2_len x
  obtain rfl | rfl | rfl | rfl | rfl | rfl : k = 0 ∨ k = 1 ∨ k = 2 ∨ k = 3 ∨ k = 4 ∨ k = 5 := by omega
  · rw [whT0]; simp
  · rw [whT1]; simp only [List.length_append, List.length_cons, List.length_nil]; omega
  · rw [whT2]; simp only [List.length_append, List.length_cons, List.length_nil]; omega
  · rw [whT3]; simp only [List.length_append, List.length_cons, List.length_nil]; omega
  · rw [whT4]; simp only [List.length_append, List.length_cons, List.length_nil]; omega
  · rw [whT5]; decide
/-- what Sql answers -/
def SqlA (w : World) (e : Ending) (w' : World) : Prop :=
  ∃ n k t x y s : Nat, n < 24 ∧ k < 6 ∧ t < 3 ∧ x < 30 ∧ y < 30 ∧ s < 3 ∧ e = .returned (.string ⟨(sqlT n k t x y s).toArray⟩) ∧ Below w.heap.size w w'
theorem tdiv_bd {a : Int} (h : ok64 a) : ok64 (a.tdiv 7) := by
  obtain ⟨h1, h2⟩ := h
  have h3 := Int.tdiv_eq_ediv (a := a) (b := 7)
  have h4 : (7 : Int).sign = 1 := rfl
  rw [h4] at h3
  have h5 : a.tdiv 7 = a / 7 ∨ a.tdiv 7 = a / 7 + 1 := by
    rw [h3]
    split
    · exact .inl (by omega)
    · exact .inr rfl
  unfold ok64
  omega
theorem tn_ok {t : Nat} (ht : t < 3) : #[Value.string ⟨#[116, 97]⟩, .string ⟨#[116, 98]⟩, .string ⟨#[116, 99]⟩][t]? = some (.string ⟨(tnm t).toArray⟩) := by
  obtain rfl | rfl | rfl : t = 0 ∨ t = 1 ∨ t = 2 := by omega
  all_goals rfl
theorem un_ok {t : Nat} (ht : t < 3) : #[Value.string ⟨#[116, 98]⟩, .string ⟨#[116, 99]⟩, .string ⟨#[116, 97]⟩][t]? = some (.string ⟨(tnm ((t + 1) % 3)).toArray⟩) := by
  obtain rfl | rfl | rfl : t = 0 ∨ t = 1 ∨ t = 2 := by omega
  all_goals rfl
set_option maxRecDepth 1000000 in
set_option maxHeartbeats 16000000 in
theorem sql_ (n a b : Int) (w : World) (hn : ok64 n) (ha : ok64 a) (hb : ok64 b) : Calls Tryz.prog 5 #[.int .i64 n, .int .i64 a, .int .i64 b] w (SqlA w) := by
  obtain ⟨t, ht, ht_⟩ := mod_nat' b 3 (by decide)
  obtain ⟨x, hx, hx_⟩ := mod_nat' a 30 (by decide)
  obtain ⟨y, hy, hy_⟩ := mod_nat' b 30 (by decide)
  obtain ⟨k, hk, hk_⟩ := mod_nat' (a.tdiv 7) 6 (by decide)
  obtain ⟨nn, hnn, hnn_⟩ := mod_nat' n 24 (by decide)
  obtain ⟨s, hs, hs_⟩ := mod_nat' a 3 (by decide)
  have WT := Lib.hid (fun W => within_ b 3 W (by decide) (by decide) hb)
  replace WT := WT.out
  rw [show b % 3 = (t : Int) from ht_] at WT
  replace WT := Lib.hid WT
  have WX := Lib.hid (fun W => within_ a 30 W (by decide) (by decide) ha)
  replace WX := WX.out
  rw [show a % 30 = (x : Int) from hx_] at WX
  replace WX := Lib.hid WX
  have WY := Lib.hid (fun W => within_ b 30 W (by decide) (by decide) hb)
  replace WY := WY.out
  rw [show b % 30 = (y : Int) from hy_] at WY
  replace WY := Lib.hid WY
  have WK := Lib.hid (fun W => within_ (a.tdiv 7) 6 W (by decide) (by decide) (tdiv_bd ha))
  replace WK := WK.out
  rw [show (a.tdiv 7) % 6 = (k : Int) from hk_] at WK
  replace WK := Lib.hid WK
  replace WK := WK.out
  rw [← IntWalk.wrap64_in (a.tdiv 7) ⟨(tdiv_bd ha).1, (tdiv_bd ha).2⟩] at WK
  replace WK := Lib.hid WK
  have WN := Lib.hid (fun W => within_ n 24 W (by decide) (by decide) hn)
  replace WN := WN.out
  rw [show n % 24 = (nn : Int) from hnn_] at WN
  replace WN := Lib.hid WN
  have WS := Lib.hid (fun W => within_ a 3 W (by decide) (by decide) ha)
  replace WS := WS.out
  rw [show a % 3 = (s : Int) from hs_] at WS
  replace WS := Lib.hid WS
  have DX := Lib.hid (fun W => rdigits_ x W (by omega))
  obtain ⟨xb, hxb⟩ : ∃ d : ByteArray, (⟨(digs x).toArray⟩ : ByteArray) = d := ⟨_, rfl⟩
  have HX := Lib.hid (show IsT xb (dg2 x) from ⟨by rw [← hxb, digs_dg2 x (by omega)]⟩)
  replace DX := DX.out
  rw [hxb] at DX
  replace DX := Lib.hid DX
  have zx : xb.size ≤ 2 := by rw [HX.out.size]; exact dg2_len x
  clear hxb
  have DY := Lib.hid (fun W => rdigits_ y W (by omega))
  obtain ⟨yb, hyb⟩ : ∃ d : ByteArray, (⟨(digs y).toArray⟩ : ByteArray) = d := ⟨_, rfl⟩
  have HY := Lib.hid (show IsT yb (dg2 y) from ⟨by rw [← hyb, digs_dg2 y (by omega)]⟩)
  replace DY := DY.out
  rw [hyb] at DY
  replace DY := Lib.hid DY
  have zy : yb.size ≤ 2 := by rw [HY.out.size]; exact dg2_len y
  clear hyb
  have DS := Lib.hid (fun W => rdigits_ s W (by omega))
  obtain ⟨sb, hsb⟩ : ∃ d : ByteArray, (⟨(digs s).toArray⟩ : ByteArray) = d := ⟨_, rfl⟩
  have HS := Lib.hid (show IsT sb (dg2 s) from ⟨by rw [← hsb, digs_dg2 s (by omega)]⟩)
  replace DS := DS.out
  rw [hsb] at DS
  replace DS := Lib.hid DS
  have zs : sb.size ≤ 2 := by rw [HS.out.size]; exact dg2_len s
  clear hsb
  have hct := tn_ok ht
  have hcu := un_ok ht
  obtain ⟨tb, htb⟩ : ∃ d : ByteArray, (⟨(tnm t).toArray⟩ : ByteArray) = d := ⟨_, rfl⟩
  obtain ⟨ub, hub⟩ : ∃ d : ByteArray, (⟨(tnm ((t + 1) % 3)).toArray⟩ : ByteArray) = d := ⟨_, rfl⟩
  have HT := Lib.hid (show IsT tb (tnm t) from ⟨htb.symm⟩)
  have HU := Lib.hid (show IsT ub (tnm ((t + 1) % 3)) from ⟨hub.symm⟩)
  have zt : tb.size ≤ 2 := by rw [HT.out.size]; simp [tnm]
  have zu : ub.size ≤ 2 := by rw [HU.out.size]; simp [tnm]
  rw [htb] at hct
  rw [hub] at hcu
  have hbq : (a.tdiv 7 : Int) = a.tdiv 7 := rfl
  clear htb hub hnn_ ht_ hx_ hy_ hk_ hs_ hbq
  have ht3 : (t : Int) < 3 := by omega
  have hk6 : (k : Int) < 6 := by omega
  have HCT := Lib.hid hct
  have HCU := Lib.hid hcu
  clear hct hcu
  go_enter Tryz.func5, Tryz.ntmps5
  --ONE
  go_wp2_with fail
  obtain ⟨W1, hW_, hb1, B1⟩ : ∃ W_, W_ = (w.alloc (.cells #[.string ⟨#[116, 97]⟩, .string ⟨#[116, 98]⟩, .string ⟨#[116, 99]⟩] 9)) ∧ Below w.heap.size w W_ ∧ Blk W_ (w.heap.size) 9 #[.string ⟨#[116, 97]⟩, .string ⟨#[116, 98]⟩, .string ⟨#[116, 99]⟩] :=
    ⟨_, rfl, ((Below.refl _ _).alloc (Nat.le_refl _) _), (blk_new_at w (w.heap.size) _ _ (by simp))⟩
  rw [← hW_]
  clear hW_
  have q1 : W1.cell? ⟨w.heap.size, t, none⟩ = some (.string tb) := by rw [B1.cell]; exact HCT.out
  have HB1 := Lib.hid hb1
  clear B1 hb1
  refine (WT.out _).mono ?_
  rintro e w2 ⟨rfl, rfl⟩
  go_wp2_with fail
  clear q1
  obtain ⟨W2, hW_, hb2, B2⟩ : ∃ W_, W_ = (W1.alloc (.cells #[.string ⟨#[116, 98]⟩, .string ⟨#[116, 99]⟩, .string ⟨#[116, 97]⟩] 9)) ∧ Below W1.heap.size W1 W_ ∧ Blk W_ (W1.heap.size) 9 #[.string ⟨#[116, 98]⟩, .string ⟨#[116, 99]⟩, .string ⟨#[116, 97]⟩] :=
    ⟨_, rfl, ((Below.refl _ _).alloc (Nat.le_refl _) _), (blk_new_at W1 (W1.heap.size) _ _ (by simp))⟩
  rw [← hW_]
  clear hW_
  have q2 : W2.cell? ⟨W1.heap.size, t, none⟩ = some (.string ub) := by rw [B2.cell]; exact HCU.out
  have HB2 := Lib.hid (bch0 HB1.out hb2)
  clear B2 hb2
  refine (WT.out _).mono ?_
  rintro e w2 ⟨rfl, rfl⟩
  go_wp2_with fail
  clear q2
  refine (WX.out _).mono ?_
  rintro e w2 ⟨rfl, rfl⟩
  go_wp2_with fail
  refine (DX.out _).mono ?_
  rintro e w3 ⟨rfl, hb3⟩
  have HB3 := Lib.hid (bch0 HB2.out hb3)
  clear hb3
  go_wp2_with fail
  refine (WY.out _).mono ?_
  rintro e w4 ⟨rfl, rfl⟩
  go_wp2_with fail
  refine (DY.out _).mono ?_
  rintro e w4 ⟨rfl, hb4⟩
  have HB4 := Lib.hid (bch0 HB3.out hb4)
  clear hb4
  have zw1s0 : (⟨#[32, 119, 104, 101, 114, 101, 32, 97, 32, 61, 32]⟩ : ByteArray).size = 11 := rfl
  have zw10 : ((⟨#[32, 119, 104, 101, 114, 101, 32, 97, 32, 61, 32]⟩ : ByteArray) ++ xb).size ≤ 13 := by rw [ByteArray.size_append, show (⟨#[32, 119, 104, 101, 114, 101, 32, 97, 32, 61, 32]⟩ : ByteArray).size = 11 from rfl]; omega
  have zw2s0 : (⟨#[32, 119, 104, 101, 114, 101, 32, 97, 32, 62, 32]⟩ : ByteArray).size = 11 := rfl
  have zw2s2 : (⟨#[32, 97, 110, 100, 32, 98, 32, 105, 115, 32, 110, 117, 108, 108]⟩ : ByteArray).size = 14 := rfl
  have zw20 : ((⟨#[32, 119, 104, 101, 114, 101, 32, 97, 32, 62, 32]⟩ : ByteArray) ++ xb).size ≤ 13 := by rw [ByteArray.size_append, show (⟨#[32, 119, 104, 101, 114, 101, 32, 97, 32, 62, 32]⟩ : ByteArray).size = 11 from rfl]; omega
  have zw21 : ((⟨#[32, 119, 104, 101, 114, 101, 32, 97, 32, 62, 32]⟩ : ByteArray) ++ xb ++ (⟨#[32, 97, 110, 100, 32, 98, 32, 105, 115, 32, 110, 117, 108, 108]⟩ : ByteArray)).size ≤ 27 := by rw [ByteArray.size_append, show (⟨#[32, 97, 110, 100, 32, 98, 32, 105, 115, 32, 110, 117, 108, 108]⟩ : ByteArray).size = 14 from rfl]; omega
  have zw3s0 : (⟨#[32, 119, 104, 101, 114, 101, 32, 110, 111, 116, 32, 40, 97, 32, 60, 32]⟩ : ByteArray).size = 16 := rfl
  have zw3s2 : (⟨#[41, 32, 111, 114, 32, 98, 32, 61, 32, 39, 99, 39]⟩ : ByteArray).size = 12 := rfl
  have zw30 : ((⟨#[32, 119, 104, 101, 114, 101, 32, 110, 111, 116, 32, 40, 97, 32, 60, 32]⟩ : ByteArray) ++ xb).size ≤ 18 := by rw [ByteArray.size_append, show (⟨#[32, 119, 104, 101, 114, 101, 32, 110, 111, 116, 32, 40, 97, 32, 60, 32]⟩ : ByteArray).size = 16 from rfl]; omega
  have zw31 : ((⟨#[32, 119, 104, 101, 114, 101, 32, 110, 111, 116, 32, 40, 97, 32, 60, 32]⟩ : ByteArray) ++ xb ++ (⟨#[41, 32, 111, 114, 32, 98, 32, 61, 32, 39, 99, 39]⟩ : ByteArray)).size ≤ 30 := by rw [ByteArray.size_append, show (⟨#[41, 32, 111, 114, 32, 98, 32, 61, 32, 39, 99, 39]⟩ : ByteArray).size = 12 from rfl]; omega
  have zw4s0 : (⟨#[32, 119, 104, 101, 114, 101, 32, 97, 32, 43, 32, 49, 32, 60, 61, 32]⟩ : ByteArray).size = 16 := rfl
  have zw4s2 : (⟨#[32, 42, 32, 50]⟩ : ByteArray).size = 4 := rfl
  have zw40 : ((⟨#[32, 119, 104, 101, 114, 101, 32, 97, 32, 43, 32, 49, 32, 60, 61, 32]⟩ : ByteArray) ++ xb).size ≤ 18 := by rw [ByteArray.size_append, show (⟨#[32, 119, 104, 101, 114, 101, 32, 97, 32, 43, 32, 49, 32, 60, 61, 32]⟩ : ByteArray).size = 16 from rfl]; omega
  have zw41 : ((⟨#[32, 119, 104, 101, 114, 101, 32, 97, 32, 43, 32, 49, 32, 60, 61, 32]⟩ : ByteArray) ++ xb ++ (⟨#[32, 42, 32, 50]⟩ : ByteArray)).size ≤ 22 := by rw [ByteArray.size_append, show (⟨#[32, 42, 32, 50]⟩ : ByteArray).size = 4 from rfl]; omega
  have HCW := Lib.hid (show #[Value.string ((⟨#[]⟩ : ByteArray)), Value.string ((⟨#[32, 119, 104, 101, 114, 101, 32, 97, 32, 61, 32]⟩ : ByteArray) ++ xb), Value.string ((⟨#[32, 119, 104, 101, 114, 101, 32, 97, 32, 62, 32]⟩ : ByteArray) ++ xb ++ (⟨#[32, 97, 110, 100, 32, 98, 32, 105, 115, 32, 110, 117, 108, 108]⟩ : ByteArray)), Value.string ((⟨#[32, 119, 104, 101, 114, 101, 32, 110, 111, 116, 32, 40, 97, 32, 60, 32]⟩ : ByteArray) ++ xb ++ (⟨#[41, 32, 111, 114, 32, 98, 32, 61, 32, 39, 99, 39]⟩ : ByteArray)), Value.string ((⟨#[32, 119, 104, 101, 114, 101, 32, 97, 32, 43, 32, 49, 32, 60, 61, 32]⟩ : ByteArray) ++ xb ++ (⟨#[32, 42, 32, 50]⟩ : ByteArray)), Value.string ((⟨#[32, 119, 104, 101, 114, 101, 32, 98, 32, 60, 32, 39, 100, 39]⟩ : ByteArray))][k]? = some (.string ⟨(whT k x).toArray⟩) from by
    obtain rfl | rfl | rfl | rfl | rfl | rfl : k = 0 ∨ k = 1 ∨ k = 2 ∨ k = 3 ∨ k = 4 ∨ k = 5 := by omega
    · rw [whT0]; rfl
    · rw [whT1, ← ((IsT.lit [32, 119, 104, 101, 114, 101, 32, 97, 32, 61, 32]).app HX.out rfl).eq]; rfl
    · rw [whT2, ← (((IsT.lit [32, 119, 104, 101, 114, 101, 32, 97, 32, 62, 32]).app HX.out rfl).app (IsT.lit [32, 97, 110, 100, 32, 98, 32, 105, 115, 32, 110, 117, 108, 108]) rfl).eq]; rfl
    · rw [whT3, ← (((IsT.lit [32, 119, 104, 101, 114, 101, 32, 110, 111, 116, 32, 40, 97, 32, 60, 32]).app HX.out rfl).app (IsT.lit [41, 32, 111, 114, 32, 98, 32, 61, 32, 39, 99, 39]) rfl).eq]; rfl
    · rw [whT4, ← (((IsT.lit [32, 119, 104, 101, 114, 101, 32, 97, 32, 43, 32, 49, 32, 60, 61, 32]).app HX.out rfl).app (IsT.lit [32, 42, 32, 50]) rfl).eq]; rfl
    · rw [whT5]; rfl)
  obtain ⟨wb, hwb⟩ : ∃ d : ByteArray, (⟨(whT k x).toArray⟩ : ByteArray) = d := ⟨_, rfl⟩
  have HW := Lib.hid (show IsT wb (whT k x) from ⟨hwb.symm⟩)
  have zw : wb.size ≤ 40 := by rw [HW.out.size]; exact whT_len k x hk
  replace HCW := HCW.out
  rw [hwb] at HCW
  replace HCW := Lib.hid HCW
  clear hwb
  --TWO
  go_wp2_with fail
  obtain ⟨W5, hW_, hb5, B5⟩ : ∃ W_, W_ = (w4.alloc (.cells #[.string ((⟨#[]⟩ : ByteArray)), .string ((⟨#[32, 119, 104, 101, 114, 101, 32, 97, 32, 61, 32]⟩ : ByteArray) ++ xb), .string ((⟨#[32, 119, 104, 101, 114, 101, 32, 97, 32, 62, 32]⟩ : ByteArray) ++ xb ++ (⟨#[32, 97, 110, 100, 32, 98, 32, 105, 115, 32, 110, 117, 108, 108]⟩ : ByteArray)), .string ((⟨#[32, 119, 104, 101, 114, 101, 32, 110, 111, 116, 32, 40, 97, 32, 60, 32]⟩ : ByteArray) ++ xb ++ (⟨#[41, 32, 111, 114, 32, 98, 32, 61, 32, 39, 99, 39]⟩ : ByteArray)), .string ((⟨#[32, 119, 104, 101, 114, 101, 32, 97, 32, 43, 32, 49, 32, 60, 61, 32]⟩ : ByteArray) ++ xb ++ (⟨#[32, 42, 32, 50]⟩ : ByteArray)), .string ((⟨#[32, 119, 104, 101, 114, 101, 32, 98, 32, 60, 32, 39, 100, 39]⟩ : ByteArray))] 9)) ∧ Below w4.heap.size w4 W_ ∧ Blk W_ (w4.heap.size) 9 #[.string ((⟨#[]⟩ : ByteArray)), .string ((⟨#[32, 119, 104, 101, 114, 101, 32, 97, 32, 61, 32]⟩ : ByteArray) ++ xb), .string ((⟨#[32, 119, 104, 101, 114, 101, 32, 97, 32, 62, 32]⟩ : ByteArray) ++ xb ++ (⟨#[32, 97, 110, 100, 32, 98, 32, 105, 115, 32, 110, 117, 108, 108]⟩ : ByteArray)), .string ((⟨#[32, 119, 104, 101, 114, 101, 32, 110, 111, 116, 32, 40, 97, 32, 60, 32]⟩ : ByteArray) ++ xb ++ (⟨#[41, 32, 111, 114, 32, 98, 32, 61, 32, 39, 99, 39]⟩ : ByteArray)), .string ((⟨#[32, 119, 104, 101, 114, 101, 32, 97, 32, 43, 32, 49, 32, 60, 61, 32]⟩ : ByteArray) ++ xb ++ (⟨#[32, 42, 32, 50]⟩ : ByteArray)), .string ((⟨#[32, 119, 104, 101, 114, 101, 32, 98, 32, 60, 32, 39, 100, 39]⟩ : ByteArray))] :=
    ⟨_, rfl, ((Below.refl _ _).alloc (Nat.le_refl _) _), (blk_new_at w4 (w4.heap.size) _ _ (by simp))⟩
  rw [← hW_]
  clear hW_
  have q5 : W5.cell? ⟨w4.heap.size, k, none⟩ = some (.string wb) := by rw [B5.cell]; exact HCW.out
  have HB5 := Lib.hid (bch0 HB4.out hb5)
  clear B5 hb5 HCW HCT HCU zw1s0 zw10 zw2s0 zw2s2 zw20 zw21 zw3s0 zw3s2 zw30 zw31 zw4s0 zw4s2 zw40 zw41
  --THREE
  refine (WK.out _).mono ?_
  rintro e w6 ⟨rfl, rfl⟩
  go_wp2_with fail
  clear q5
  refine (WN.out _).mono ?_
  rintro e w6 ⟨rfl, rfl⟩
  clear WN WK WT WX WY DX DY hn ha hb
  have hc24 : nn = 0 ∨ nn = 1 ∨ nn = 2 ∨ nn = 3 ∨ nn = 4 ∨ nn = 5 ∨ nn = 6 ∨ nn = 7 ∨ nn = 8 ∨ nn = 9 ∨ nn = 10 ∨ nn = 11 ∨ nn = 12 ∨ nn = 13 ∨ nn = 14 ∨ nn = 15 ∨ nn = 16 ∨ nn = 17 ∨ nn = 18 ∨ nn = 19 ∨ nn = 20 ∨ nn = 21 ∨ nn = 22 ∨ nn = 23 := by omega
  --FOUR
  obtain rfl | rfl | rfl | rfl | rfl | rfl | rfl | rfl | rfl | rfl | rfl | rfl | rfl | rfl | rfl | rfl | rfl | rfl | rfl | rfl | rfl | rfl | rfl | rfl := hc24
  case inl =>
    have zs0 : (⟨#[105, 110, 115, 101, 114, 116, 32, 105, 110, 116, 111, 32]⟩ : ByteArray).size = 12 := rfl
    have zs2 : (⟨#[32, 118, 97, 108, 117, 101, 115, 32, 40]⟩ : ByteArray).size = 9 := rfl
    have zs4 : (⟨#[44, 32, 39, 118]⟩ : ByteArray).size = 4 := rfl
    have zs6 : (⟨#[39, 41]⟩ : ByteArray).size = 2 := rfl
    have z0 : ((⟨#[105, 110, 115, 101, 114, 116, 32, 105, 110, 116, 111, 32]⟩ : ByteArray) ++ tb).size ≤ 14 := by rw [ByteArray.size_append, show (⟨#[105, 110, 115, 101, 114, 116, 32, 105, 110, 116, 111, 32]⟩ : ByteArray).size = 12 from rfl]; omega
    have z1 : ((⟨#[105, 110, 115, 101, 114, 116, 32, 105, 110, 116, 111, 32]⟩ : ByteArray) ++ tb ++ (⟨#[32, 118, 97, 108, 117, 101, 115, 32, 40]⟩ : ByteArray)).size ≤ 23 := by rw [ByteArray.size_append, show (⟨#[32, 118, 97, 108, 117, 101, 115, 32, 40]⟩ : ByteArray).size = 9 from rfl]; omega
    have z2 : ((⟨#[105, 110, 115, 101, 114, 116, 32, 105, 110, 116, 111, 32]⟩ : ByteArray) ++ tb ++ (⟨#[32, 118, 97, 108, 117, 101, 115, 32, 40]⟩ : ByteArray) ++ xb).size ≤ 25 := by rw [ByteArray.size_append]; omega
    have z3 : ((⟨#[105, 110, 115, 101, 114, 116, 32, 105, 110, 116, 111, 32]⟩ : ByteArray) ++ tb ++ (⟨#[32, 118, 97, 108, 117, 101, 115, 32, 40]⟩ : ByteArray) ++ xb ++ (⟨#[44, 32, 39, 118]⟩ : ByteArray)).size ≤ 29 := by rw [ByteArray.size_append, show (⟨#[44, 32, 39, 118]⟩ : ByteArray).size = 4 from rfl]; omega
    have z4 : ((⟨#[105, 110, 115, 101, 114, 116, 32, 105, 110, 116, 111, 32]⟩ : ByteArray) ++ tb ++ (⟨#[32, 118, 97, 108, 117, 101, 115, 32, 40]⟩ : ByteArray) ++ xb ++ (⟨#[44, 32, 39, 118]⟩ : ByteArray) ++ yb).size ≤ 31 := by rw [ByteArray.size_append]; omega
    have z5 : ((⟨#[105, 110, 115, 101, 114, 116, 32, 105, 110, 116, 111, 32]⟩ : ByteArray) ++ tb ++ (⟨#[32, 118, 97, 108, 117, 101, 115, 32, 40]⟩ : ByteArray) ++ xb ++ (⟨#[44, 32, 39, 118]⟩ : ByteArray) ++ yb ++ (⟨#[39, 41]⟩ : ByteArray)).size ≤ 33 := by rw [ByteArray.size_append, show (⟨#[39, 41]⟩ : ByteArray).size = 2 from rfl]; omega
    have HR := Lib.hid (show (⟨#[105, 110, 115, 101, 114, 116, 32, 105, 110, 116, 111, 32]⟩ : ByteArray) ++ tb ++ (⟨#[32, 118, 97, 108, 117, 101, 115, 32, 40]⟩ : ByteArray) ++ xb ++ (⟨#[44, 32, 39, 118]⟩ : ByteArray) ++ yb ++ (⟨#[39, 41]⟩ : ByteArray) = ⟨(sqlT 0 k t x y s).toArray⟩ from by rw [sqlT0, ← (((((((IsT.lit [105, 110, 115, 101, 114, 116, 32, 105, 110, 116, 111, 32]).app HT.out rfl).app (IsT.lit [32, 118, 97, 108, 117, 101, 115, 32, 40]) rfl).app HX.out rfl).app (IsT.lit [44, 32, 39, 118]) rfl).app HY.out rfl).app (IsT.lit [39, 41]) rfl).eq])
    go_wp2
    go_ret
    exact ⟨0, k, t, x, y, s, by decide, hk, ht, hx, hy, hs, congrArg (fun b => Ending.returned (.string b)) HR.out, HB5.out⟩
  case inr.inl =>
    have zs0 : (⟨#[105, 110, 115, 101, 114, 116, 32, 105, 110, 116, 111, 32]⟩ : ByteArray).size = 12 := rfl
    have zs2 : (⟨#[32, 118, 97, 108, 117, 101, 115, 32, 40]⟩ : ByteArray).size = 9 := rfl
    have zs4 : (⟨#[44, 32, 39, 118]⟩ : ByteArray).size = 4 := rfl
    have zs6 : (⟨#[39, 41]⟩ : ByteArray).size = 2 := rfl
    have z0 : ((⟨#[105, 110, 115, 101, 114, 116, 32, 105, 110, 116, 111, 32]⟩ : ByteArray) ++ tb).size ≤ 14 := by rw [ByteArray.size_append, show (⟨#[105, 110, 115, 101, 114, 116, 32, 105, 110, 116, 111, 32]⟩ : ByteArray).size = 12 from rfl]; omega
    have z1 : ((⟨#[105, 110, 115, 101, 114, 116, 32, 105, 110, 116, 111, 32]⟩ : ByteArray) ++ tb ++ (⟨#[32, 118, 97, 108, 117, 101, 115, 32, 40]⟩ : ByteArray)).size ≤ 23 := by rw [ByteArray.size_append, show (⟨#[32, 118, 97, 108, 117, 101, 115, 32, 40]⟩ : ByteArray).size = 9 from rfl]; omega
    have z2 : ((⟨#[105, 110, 115, 101, 114, 116, 32, 105, 110, 116, 111, 32]⟩ : ByteArray) ++ tb ++ (⟨#[32, 118, 97, 108, 117, 101, 115, 32, 40]⟩ : ByteArray) ++ xb).size ≤ 25 := by rw [ByteArray.size_append]; omega
    have z3 : ((⟨#[105, 110, 115, 101, 114, 116, 32, 105, 110, 116, 111, 32]⟩ : ByteArray) ++ tb ++ (⟨#[32, 118, 97, 108, 117, 101, 115, 32, 40]⟩ : ByteArray) ++ xb ++ (⟨#[44, 32, 39, 118]⟩ : ByteArray)).size ≤ 29 := by rw [ByteArray.size_append, show (⟨#[44, 32, 39, 118]⟩ : ByteArray).size = 4 from rfl]; omega
    have z4 : ((⟨#[105, 110, 115, 101, 114, 116, 32, 105, 110, 116, 111, 32]⟩ : ByteArray) ++ tb ++ (⟨#[32, 118, 97, 108, 117, 101, 115, 32, 40]⟩ : ByteArray) ++ xb ++ (⟨#[44, 32, 39, 118]⟩ : ByteArray) ++ yb).size ≤ 31 := by rw [ByteArray.size_append]; omega
    have z5 : ((⟨#[105, 110, 115, 101, 114, 116, 32, 105, 110, 116, 111, 32]⟩ : ByteArray) ++ tb ++ (⟨#[32, 118, 97, 108, 117, 101, 115, 32, 40]⟩ : ByteArray) ++ xb ++ (⟨#[44, 32, 39, 118]⟩ : ByteArray) ++ yb ++ (⟨#[39, 41]⟩ : ByteArray)).size ≤ 33 := by rw [ByteArray.size_append, show (⟨#[39, 41]⟩ : ByteArray).size = 2 from rfl]; omega
    have HR := Lib.hid (show (⟨#[105, 110, 115, 101, 114, 116, 32, 105, 110, 116, 111, 32]⟩ : ByteArray) ++ tb ++ (⟨#[32, 118, 97, 108, 117, 101, 115, 32, 40]⟩ : ByteArray) ++ xb ++ (⟨#[44, 32, 39, 118]⟩ : ByteArray) ++ yb ++ (⟨#[39, 41]⟩ : ByteArray) = ⟨(sqlT 1 k t x y s).toArray⟩ from by rw [sqlT1, ← (((((((IsT.lit [105, 110, 115, 101, 114, 116, 32, 105, 110, 116, 111, 32]).app HT.out rfl).app (IsT.lit [32, 118, 97, 108, 117, 101, 115, 32, 40]) rfl).app HX.out rfl).app (IsT.lit [44, 32, 39, 118]) rfl).app HY.out rfl).app (IsT.lit [39, 41]) rfl).eq])
    go_wp2
    go_ret
    exact ⟨1, k, t, x, y, s, by decide, hk, ht, hx, hy, hs, congrArg (fun b => Ending.returned (.string b)) HR.out, HB5.out⟩
  case inr.inr.inl =>
    have zs0 : (⟨#[105, 110, 115, 101, 114, 116, 32, 105, 110, 116, 111, 32]⟩ : ByteArray).size = 12 := rfl
    have zs2 : (⟨#[32, 118, 97, 108, 117, 101, 115, 32, 40]⟩ : ByteArray).size = 9 := rfl
    have zs4 : (⟨#[44, 32, 39, 118]⟩ : ByteArray).size = 4 := rfl
    have zs6 : (⟨#[39, 41]⟩ : ByteArray).size = 2 := rfl
    have z0 : ((⟨#[105, 110, 115, 101, 114, 116, 32, 105, 110, 116, 111, 32]⟩ : ByteArray) ++ tb).size ≤ 14 := by rw [ByteArray.size_append, show (⟨#[105, 110, 115, 101, 114, 116, 32, 105, 110, 116, 111, 32]⟩ : ByteArray).size = 12 from rfl]; omega
    have z1 : ((⟨#[105, 110, 115, 101, 114, 116, 32, 105, 110, 116, 111, 32]⟩ : ByteArray) ++ tb ++ (⟨#[32, 118, 97, 108, 117, 101, 115, 32, 40]⟩ : ByteArray)).size ≤ 23 := by rw [ByteArray.size_append, show (⟨#[32, 118, 97, 108, 117, 101, 115, 32, 40]⟩ : ByteArray).size = 9 from rfl]; omega
    have z2 : ((⟨#[105, 110, 115, 101, 114, 116, 32, 105, 110, 116, 111, 32]⟩ : ByteArray) ++ tb ++ (⟨#[32, 118, 97, 108, 117, 101, 115, 32, 40]⟩ : ByteArray) ++ xb).size ≤ 25 := by rw [ByteArray.size_append]; omega
    have z3 : ((⟨#[105, 110, 115, 101, 114, 116, 32, 105, 110, 116, 111, 32]⟩ : ByteArray) ++ tb ++ (⟨#[32, 118, 97, 108, 117, 101, 115, 32, 40]⟩ : ByteArray) ++ xb ++ (⟨#[44, 32, 39, 118]⟩ : ByteArray)).size ≤ 29 := by rw [ByteArray.size_append, show (⟨#[44, 32, 39, 118]⟩ : ByteArray).size = 4 from rfl]; omega
    have z4 : ((⟨#[105, 110, 115, 101, 114, 116, 32, 105, 110, 116, 111, 32]⟩ : ByteArray) ++ tb ++ (⟨#[32, 118, 97, 108, 117, 101, 115, 32, 40]⟩ : ByteArray) ++ xb ++ (⟨#[44, 32, 39, 118]⟩ : ByteArray) ++ yb).size ≤ 31 := by rw [ByteArray.size_append]; omega
    have z5 : ((⟨#[105, 110, 115, 101, 114, 116, 32, 105, 110, 116, 111, 32]⟩ : ByteArray) ++ tb ++ (⟨#[32, 118, 97, 108, 117, 101, 115, 32, 40]⟩ : ByteArray) ++ xb ++ (⟨#[44, 32, 39, 118]⟩ : ByteArray) ++ yb ++ (⟨#[39, 41]⟩ : ByteArray)).size ≤ 33 := by rw [ByteArray.size_append, show (⟨#[39, 41]⟩ : ByteArray).size = 2 from rfl]; omega
    have HR := Lib.hid (show (⟨#[105, 110, 115, 101, 114, 116, 32, 105, 110, 116, 111, 32]⟩ : ByteArray) ++ tb ++ (⟨#[32, 118, 97, 108, 117, 101, 115, 32, 40]⟩ : ByteArray) ++ xb ++ (⟨#[44, 32, 39, 118]⟩ : ByteArray) ++ yb ++ (⟨#[39, 41]⟩ : ByteArray) = ⟨(sqlT 2 k t x y s).toArray⟩ from by rw [sqlT2, ← (((((((IsT.lit [105, 110, 115, 101, 114, 116, 32, 105, 110, 116, 111, 32]).app HT.out rfl).app (IsT.lit [32, 118, 97, 108, 117, 101, 115, 32, 40]) rfl).app HX.out rfl).app (IsT.lit [44, 32, 39, 118]) rfl).app HY.out rfl).app (IsT.lit [39, 41]) rfl).eq])
    go_wp2
    go_ret
    exact ⟨2, k, t, x, y, s, by decide, hk, ht, hx, hy, hs, congrArg (fun b => Ending.returned (.string b)) HR.out, HB5.out⟩
  case inr.inr.inr.inl =>
    have zs0 : (⟨#[105, 110, 115, 101, 114, 116, 32, 105, 110, 116, 111, 32]⟩ : ByteArray).size = 12 := rfl
    have zs2 : (⟨#[32, 118, 97, 108, 117, 101, 115, 32, 40]⟩ : ByteArray).size = 9 := rfl
    have zs4 : (⟨#[32, 43, 32]⟩ : ByteArray).size = 3 := rfl
    have zs6 : (⟨#[44, 32, 110, 117, 108, 108, 41]⟩ : ByteArray).size = 7 := rfl
    have z0 : ((⟨#[105, 110, 115, 101, 114, 116, 32, 105, 110, 116, 111, 32]⟩ : ByteArray) ++ tb).size ≤ 14 := by rw [ByteArray.size_append, show (⟨#[105, 110, 115, 101, 114, 116, 32, 105, 110, 116, 111, 32]⟩ : ByteArray).size = 12 from rfl]; omega
    have z1 : ((⟨#[105, 110, 115, 101, 114, 116, 32, 105, 110, 116, 111, 32]⟩ : ByteArray) ++ tb ++ (⟨#[32, 118, 97, 108, 117, 101, 115, 32, 40]⟩ : ByteArray)).size ≤ 23 := by rw [ByteArray.size_append, show (⟨#[32, 118, 97, 108, 117, 101, 115, 32, 40]⟩ : ByteArray).size = 9 from rfl]; omega
    have z2 : ((⟨#[105, 110, 115, 101, 114, 116, 32, 105, 110, 116, 111, 32]⟩ : ByteArray) ++ tb ++ (⟨#[32, 118, 97, 108, 117, 101, 115, 32, 40]⟩ : ByteArray) ++ xb).size ≤ 25 := by rw [ByteArray.size_append]; omega
    have z3 : ((⟨#[105, 110, 115, 101, 114, 116, 32, 105, 110, 116, 111, 32]⟩ : ByteArray) ++ tb ++ (⟨#[32, 118, 97, 108, 117, 101, 115, 32, 40]⟩ : ByteArray) ++ xb ++ (⟨#[32, 43, 32]⟩ : ByteArray)).size ≤ 28 := by rw [ByteArray.size_append, show (⟨#[32, 43, 32]⟩ : ByteArray).size = 3 from rfl]; omega
    have z4 : ((⟨#[105, 110, 115, 101, 114, 116, 32, 105, 110, 116, 111, 32]⟩ : ByteArray) ++ tb ++ (⟨#[32, 118, 97, 108, 117, 101, 115, 32, 40]⟩ : ByteArray) ++ xb ++ (⟨#[32, 43, 32]⟩ : ByteArray) ++ yb).size ≤ 30 := by rw [ByteArray.size_append]; omega
    have z5 : ((⟨#[105, 110, 115, 101, 114, 116, 32, 105, 110, 116, 111, 32]⟩ : ByteArray) ++ tb ++ (⟨#[32, 118, 97, 108, 117, 101, 115, 32, 40]⟩ : ByteArray) ++ xb ++ (⟨#[32, 43, 32]⟩ : ByteArray) ++ yb ++ (⟨#[44, 32, 110, 117, 108, 108, 41]⟩ : ByteArray)).size ≤ 37 := by rw [ByteArray.size_append, show (⟨#[44, 32, 110, 117, 108, 108, 41]⟩ : ByteArray).size = 7 from rfl]; omega
    have HR := Lib.hid (show (⟨#[105, 110, 115, 101, 114, 116, 32, 105, 110, 116, 111, 32]⟩ : ByteArray) ++ tb ++ (⟨#[32, 118, 97, 108, 117, 101, 115, 32, 40]⟩ : ByteArray) ++ xb ++ (⟨#[32, 43, 32]⟩ : ByteArray) ++ yb ++ (⟨#[44, 32, 110, 117, 108, 108, 41]⟩ : ByteArray) = ⟨(sqlT 3 k t x y s).toArray⟩ from by rw [sqlT3, ← (((((((IsT.lit [105, 110, 115, 101, 114, 116, 32, 105, 110, 116, 111, 32]).app HT.out rfl).app (IsT.lit [32, 118, 97, 108, 117, 101, 115, 32, 40]) rfl).app HX.out rfl).app (IsT.lit [32, 43, 32]) rfl).app HY.out rfl).app (IsT.lit [44, 32, 110, 117, 108, 108, 41]) rfl).eq])
    go_wp2
    go_ret
    exact ⟨3, k, t, x, y, s, by decide, hk, ht, hx, hy, hs, congrArg (fun b => Ending.returned (.string b)) HR.out, HB5.out⟩
  case inr.inr.inr.inr.inl =>
    have zs0 : (⟨#[117, 112, 100, 97, 116, 101, 32]⟩ : ByteArray).size = 7 := rfl
    have zs2 : (⟨#[32, 115, 101, 116, 32, 98, 32, 61, 32, 39, 119]⟩ : ByteArray).size = 11 := rfl
    have zs4 : (⟨#[39]⟩ : ByteArray).size = 1 := rfl
    have z0 : ((⟨#[117, 112, 100, 97, 116, 101, 32]⟩ : ByteArray) ++ tb).size ≤ 9 := by rw [ByteArray.size_append, show (⟨#[117, 112, 100, 97, 116, 101, 32]⟩ : ByteArray).size = 7 from rfl]; omega
    have z1 : ((⟨#[117, 112, 100, 97, 116, 101, 32]⟩ : ByteArray) ++ tb ++ (⟨#[32, 115, 101, 116, 32, 98, 32, 61, 32, 39, 119]⟩ : ByteArray)).size ≤ 20 := by rw [ByteArray.size_append, show (⟨#[32, 115, 101, 116, 32, 98, 32, 61, 32, 39, 119]⟩ : ByteArray).size = 11 from rfl]; omega
    have z2 : ((⟨#[117, 112, 100, 97, 116, 101, 32]⟩ : ByteArray) ++ tb ++ (⟨#[32, 115, 101, 116, 32, 98, 32, 61, 32, 39, 119]⟩ : ByteArray) ++ yb).size ≤ 22 := by rw [ByteArray.size_append]; omega
    have z3 : ((⟨#[117, 112, 100, 97, 116, 101, 32]⟩ : ByteArray) ++ tb ++ (⟨#[32, 115, 101, 116, 32, 98, 32, 61, 32, 39, 119]⟩ : ByteArray) ++ yb ++ (⟨#[39]⟩ : ByteArray)).size ≤ 23 := by rw [ByteArray.size_append, show (⟨#[39]⟩ : ByteArray).size = 1 from rfl]; omega
    have z4 : ((⟨#[117, 112, 100, 97, 116, 101, 32]⟩ : ByteArray) ++ tb ++ (⟨#[32, 115, 101, 116, 32, 98, 32, 61, 32, 39, 119]⟩ : ByteArray) ++ yb ++ (⟨#[39]⟩ : ByteArray) ++ wb).size ≤ 63 := by rw [ByteArray.size_append]; omega
    have HR := Lib.hid (show (⟨#[117, 112, 100, 97, 116, 101, 32]⟩ : ByteArray) ++ tb ++ (⟨#[32, 115, 101, 116, 32, 98, 32, 61, 32, 39, 119]⟩ : ByteArray) ++ yb ++ (⟨#[39]⟩ : ByteArray) ++ wb = ⟨(sqlT 4 k t x y s).toArray⟩ from by rw [sqlT4, ← ((((((IsT.lit [117, 112, 100, 97, 116, 101, 32]).app HT.out rfl).app (IsT.lit [32, 115, 101, 116, 32, 98, 32, 61, 32, 39, 119]) rfl).app HY.out rfl).app (IsT.lit [39]) rfl).app HW.out rfl).eq])
    go_wp2
    go_ret
    exact ⟨4, k, t, x, y, s, by decide, hk, ht, hx, hy, hs, congrArg (fun b => Ending.returned (.string b)) HR.out, HB5.out⟩
  case inr.inr.inr.inr.inr.inl =>
    have zs0 : (⟨#[117, 112, 100, 97, 116, 101, 32]⟩ : ByteArray).size = 7 := rfl
    have zs2 : (⟨#[32, 115, 101, 116, 32, 97, 32, 61, 32, 97, 32, 43, 32]⟩ : ByteArray).size = 13 := rfl
    have z0 : ((⟨#[117, 112, 100, 97, 116, 101, 32]⟩ : ByteArray) ++ tb).size ≤ 9 := by rw [ByteArray.size_append, show (⟨#[117, 112, 100, 97, 116, 101, 32]⟩ : ByteArray).size = 7 from rfl]; omega
    have z1 : ((⟨#[117, 112, 100, 97, 116, 101, 32]⟩ : ByteArray) ++ tb ++ (⟨#[32, 115, 101, 116, 32, 97, 32, 61, 32, 97, 32, 43, 32]⟩ : ByteArray)).size ≤ 22 := by rw [ByteArray.size_append, show (⟨#[32, 115, 101, 116, 32, 97, 32, 61, 32, 97, 32, 43, 32]⟩ : ByteArray).size = 13 from rfl]; omega
    have z2 : ((⟨#[117, 112, 100, 97, 116, 101, 32]⟩ : ByteArray) ++ tb ++ (⟨#[32, 115, 101, 116, 32, 97, 32, 61, 32, 97, 32, 43, 32]⟩ : ByteArray) ++ yb).size ≤ 24 := by rw [ByteArray.size_append]; omega
    have z3 : ((⟨#[117, 112, 100, 97, 116, 101, 32]⟩ : ByteArray) ++ tb ++ (⟨#[32, 115, 101, 116, 32, 97, 32, 61, 32, 97, 32, 43, 32]⟩ : ByteArray) ++ yb ++ wb).size ≤ 64 := by rw [ByteArray.size_append]; omega
    have HR := Lib.hid (show (⟨#[117, 112, 100, 97, 116, 101, 32]⟩ : ByteArray) ++ tb ++ (⟨#[32, 115, 101, 116, 32, 97, 32, 61, 32, 97, 32, 43, 32]⟩ : ByteArray) ++ yb ++ wb = ⟨(sqlT 5 k t x y s).toArray⟩ from by rw [sqlT5, ← (((((IsT.lit [117, 112, 100, 97, 116, 101, 32]).app HT.out rfl).app (IsT.lit [32, 115, 101, 116, 32, 97, 32, 61, 32, 97, 32, 43, 32]) rfl).app HY.out rfl).app HW.out rfl).eq])
    go_wp2
    go_ret
    exact ⟨5, k, t, x, y, s, by decide, hk, ht, hx, hy, hs, congrArg (fun b => Ending.returned (.string b)) HR.out, HB5.out⟩
  case inr.inr.inr.inr.inr.inr.inl =>
    have zs0 : (⟨#[117, 112, 100, 97, 116, 101, 32]⟩ : ByteArray).size = 7 := rfl
    have zs2 : (⟨#[32, 115, 101, 116, 32, 97, 32, 61, 32, 45, 32, 97, 44, 32, 98, 32, 61, 32, 110, 117, 108, 108]⟩ : ByteArray).size = 22 := rfl
    have z0 : ((⟨#[117, 112, 100, 97, 116, 101, 32]⟩ : ByteArray) ++ tb).size ≤ 9 := by rw [ByteArray.size_append, show (⟨#[117, 112, 100, 97, 116, 101, 32]⟩ : ByteArray).size = 7 from rfl]; omega
    have z1 : ((⟨#[117, 112, 100, 97, 116, 101, 32]⟩ : ByteArray) ++ tb ++ (⟨#[32, 115, 101, 116, 32, 97, 32, 61, 32, 45, 32, 97, 44, 32, 98, 32, 61, 32, 110, 117, 108, 108]⟩ : ByteArray)).size ≤ 31 := by rw [ByteArray.size_append, show (⟨#[32, 115, 101, 116, 32, 97, 32, 61, 32, 45, 32, 97, 44, 32, 98, 32, 61, 32, 110, 117, 108, 108]⟩ : ByteArray).size = 22 from rfl]; omega
    have z2 : ((⟨#[117, 112, 100, 97, 116, 101, 32]⟩ : ByteArray) ++ tb ++ (⟨#[32, 115, 101, 116, 32, 97, 32, 61, 32, 45, 32, 97, 44, 32, 98, 32, 61, 32, 110, 117, 108, 108]⟩ : ByteArray) ++ wb).size ≤ 71 := by rw [ByteArray.size_append]; omega
    have HR := Lib.hid (show (⟨#[117, 112, 100, 97, 116, 101, 32]⟩ : ByteArray) ++ tb ++ (⟨#[32, 115, 101, 116, 32, 97, 32, 61, 32, 45, 32, 97, 44, 32, 98, 32, 61, 32, 110, 117, 108, 108]⟩ : ByteArray) ++ wb = ⟨(sqlT 6 k t x y s).toArray⟩ from by rw [sqlT6, ← ((((IsT.lit [117, 112, 100, 97, 116, 101, 32]).app HT.out rfl).app (IsT.lit [32, 115, 101, 116, 32, 97, 32, 61, 32, 45, 32, 97, 44, 32, 98, 32, 61, 32, 110, 117, 108, 108]) rfl).app HW.out rfl).eq])
    go_wp2
    go_ret
    exact ⟨6, k, t, x, y, s, by decide, hk, ht, hx, hy, hs, congrArg (fun b => Ending.returned (.string b)) HR.out, HB5.out⟩
  case inr.inr.inr.inr.inr.inr.inr.inl =>
    have zs0 : (⟨#[100, 101, 108, 101, 116, 101, 32, 102, 114, 111, 109, 32]⟩ : ByteArray).size = 12 := rfl
    have z0 : ((⟨#[100, 101, 108, 101, 116, 101, 32, 102, 114, 111, 109, 32]⟩ : ByteArray) ++ tb).size ≤ 14 := by rw [ByteArray.size_append, show (⟨#[100, 101, 108, 101, 116, 101, 32, 102, 114, 111, 109, 32]⟩ : ByteArray).size = 12 from rfl]; omega
    have z1 : ((⟨#[100, 101, 108, 101, 116, 101, 32, 102, 114, 111, 109, 32]⟩ : ByteArray) ++ tb ++ wb).size ≤ 54 := by rw [ByteArray.size_append]; omega
    have HR := Lib.hid (show (⟨#[100, 101, 108, 101, 116, 101, 32, 102, 114, 111, 109, 32]⟩ : ByteArray) ++ tb ++ wb = ⟨(sqlT 7 k t x y s).toArray⟩ from by rw [sqlT7, ← (((IsT.lit [100, 101, 108, 101, 116, 101, 32, 102, 114, 111, 109, 32]).app HT.out rfl).app HW.out rfl).eq])
    go_wp2
    go_ret
    exact ⟨7, k, t, x, y, s, by decide, hk, ht, hx, hy, hs, congrArg (fun b => Ending.returned (.string b)) HR.out, HB5.out⟩
  case inr.inr.inr.inr.inr.inr.inr.inr.inl =>
    have zs0 : (⟨#[100, 101, 108, 101, 116, 101, 32, 102, 114, 111, 109, 32]⟩ : ByteArray).size = 12 := rfl
    have z0 : ((⟨#[100, 101, 108, 101, 116, 101, 32, 102, 114, 111, 109, 32]⟩ : ByteArray) ++ tb).size ≤ 14 := by rw [ByteArray.size_append, show (⟨#[100, 101, 108, 101, 116, 101, 32, 102, 114, 111, 109, 32]⟩ : ByteArray).size = 12 from rfl]; omega
    have z1 : ((⟨#[100, 101, 108, 101, 116, 101, 32, 102, 114, 111, 109, 32]⟩ : ByteArray) ++ tb ++ wb).size ≤ 54 := by rw [ByteArray.size_append]; omega
    have HR := Lib.hid (show (⟨#[100, 101, 108, 101, 116, 101, 32, 102, 114, 111, 109, 32]⟩ : ByteArray) ++ tb ++ wb = ⟨(sqlT 8 k t x y s).toArray⟩ from by rw [sqlT8, ← (((IsT.lit [100, 101, 108, 101, 116, 101, 32, 102, 114, 111, 109, 32]).app HT.out rfl).app HW.out rfl).eq])
    go_wp2
    go_ret
    exact ⟨8, k, t, x, y, s, by decide, hk, ht, hx, hy, hs, congrArg (fun b => Ending.returned (.string b)) HR.out, HB5.out⟩
  case inr.inr.inr.inr.inr.inr.inr.inr.inr.inl =>
    have zs0 : (⟨#[115, 101, 108, 101, 99, 116, 32, 42, 32, 102, 114, 111, 109, 32]⟩ : ByteArray).size = 14 := rfl
    have z0 : ((⟨#[115, 101, 108, 101, 99, 116, 32, 42, 32, 102, 114, 111, 109, 32]⟩ : ByteArray) ++ tb).size ≤ 16 := by rw [ByteArray.size_append, show (⟨#[115, 101, 108, 101, 99, 116, 32, 42, 32, 102, 114, 111, 109, 32]⟩ : ByteArray).size = 14 from rfl]; omega
    have z1 : ((⟨#[115, 101, 108, 101, 99, 116, 32, 42, 32, 102, 114, 111, 109, 32]⟩ : ByteArray) ++ tb ++ wb).size ≤ 56 := by rw [ByteArray.size_append]; omega
    have HR := Lib.hid (show (⟨#[115, 101, 108, 101, 99, 116, 32, 42, 32, 102, 114, 111, 109, 32]⟩ : ByteArray) ++ tb ++ wb = ⟨(sqlT 9 k t x y s).toArray⟩ from by rw [sqlT9, ← (((IsT.lit [115, 101, 108, 101, 99, 116, 32, 42, 32, 102, 114, 111, 109, 32]).app HT.out rfl).app HW.out rfl).eq])
    go_wp2
    go_ret
    exact ⟨9, k, t, x, y, s, by decide, hk, ht, hx, hy, hs, congrArg (fun b => Ending.returned (.string b)) HR.out, HB5.out⟩
  case inr.inr.inr.inr.inr.inr.inr.inr.inr.inr.inl =>
    have zs0 : (⟨#[115, 101, 108, 101, 99, 116, 32, 97, 44, 32, 98, 32, 102, 114, 111, 109, 32]⟩ : ByteArray).size = 17 := rfl
    have zs3 : (⟨#[32, 111, 114, 100, 101, 114, 32, 98, 121, 32, 98, 32, 100, 101, 115, 99, 32, 108, 105, 109, 105, 116, 32]⟩ : ByteArray).size = 23 := rfl
    have z0 : ((⟨#[115, 101, 108, 101, 99, 116, 32, 97, 44, 32, 98, 32, 102, 114, 111, 109, 32]⟩ : ByteArray) ++ tb).size ≤ 19 := by rw [ByteArray.size_append, show (⟨#[115, 101, 108, 101, 99, 116, 32, 97, 44, 32, 98, 32, 102, 114, 111, 109, 32]⟩ : ByteArray).size = 17 from rfl]; omega
    have z1 : ((⟨#[115, 101, 108, 101, 99, 116, 32, 97, 44, 32, 98, 32, 102, 114, 111, 109, 32]⟩ : ByteArray) ++ tb ++ wb).size ≤ 59 := by rw [ByteArray.size_append]; omega
    have z2 : ((⟨#[115, 101, 108, 101, 99, 116, 32, 97, 44, 32, 98, 32, 102, 114, 111, 109, 32]⟩ : ByteArray) ++ tb ++ wb ++ (⟨#[32, 111, 114, 100, 101, 114, 32, 98, 121, 32, 98, 32, 100, 101, 115, 99, 32, 108, 105, 109, 105, 116, 32]⟩ : ByteArray)).size ≤ 82 := by rw [ByteArray.size_append, show (⟨#[32, 111, 114, 100, 101, 114, 32, 98, 121, 32, 98, 32, 100, 101, 115, 99, 32, 108, 105, 109, 105, 116, 32]⟩ : ByteArray).size = 23 from rfl]; omega
    have z3 : ((⟨#[115, 101, 108, 101, 99, 116, 32, 97, 44, 32, 98, 32, 102, 114, 111, 109, 32]⟩ : ByteArray) ++ tb ++ wb ++ (⟨#[32, 111, 114, 100, 101, 114, 32, 98, 121, 32, 98, 32, 100, 101, 115, 99, 32, 108, 105, 109, 105, 116, 32]⟩ : ByteArray) ++ xb).size ≤ 84 := by rw [ByteArray.size_append]; omega
    have HR := Lib.hid (show (⟨#[115, 101, 108, 101, 99, 116, 32, 97, 44, 32, 98, 32, 102, 114, 111, 109, 32]⟩ : ByteArray) ++ tb ++ wb ++ (⟨#[32, 111, 114, 100, 101, 114, 32, 98, 121, 32, 98, 32, 100, 101, 115, 99, 32, 108, 105, 109, 105, 116, 32]⟩ : ByteArray) ++ xb = ⟨(sqlT 10 k t x y s).toArray⟩ from by rw [sqlT10, ← (((((IsT.lit [115, 101, 108, 101, 99, 116, 32, 97, 44, 32, 98, 32, 102, 114, 111, 109, 32]).app HT.out rfl).app HW.out rfl).app (IsT.lit [32, 111, 114, 100, 101, 114, 32, 98, 121, 32, 98, 32, 100, 101, 115, 99, 32, 108, 105, 109, 105, 116, 32]) rfl).app HX.out rfl).eq])
    go_wp2
    go_ret
    exact ⟨10, k, t, x, y, s, by decide, hk, ht, hx, hy, hs, congrArg (fun b => Ending.returned (.string b)) HR.out, HB5.out⟩
  case inr.inr.inr.inr.inr.inr.inr.inr.inr.inr.inr.inl =>
    have zs0 : (⟨#[115, 101, 108, 101, 99, 116, 32, 99, 111, 117, 110, 116, 40, 42, 41, 44, 32, 115, 117, 109, 40, 97, 41, 44, 32, 109, 105, 110, 40, 98, 41, 44, 32, 109, 97, 120, 40, 97, 41, 32, 102, 114, 111, 109, 32]⟩ : ByteArray).size = 45 := rfl
    have z0 : ((⟨#[115, 101, 108, 101, 99, 116, 32, 99, 111, 117, 110, 116, 40, 42, 41, 44, 32, 115, 117, 109, 40, 97, 41, 44, 32, 109, 105, 110, 40, 98, 41, 44, 32, 109, 97, 120, 40, 97, 41, 32, 102, 114, 111, 109, 32]⟩ : ByteArray) ++ tb).size ≤ 47 := by rw [ByteArray.size_append, show (⟨#[115, 101, 108, 101, 99, 116, 32, 99, 111, 117, 110, 116, 40, 42, 41, 44, 32, 115, 117, 109, 40, 97, 41, 44, 32, 109, 105, 110, 40, 98, 41, 44, 32, 109, 97, 120, 40, 97, 41, 32, 102, 114, 111, 109, 32]⟩ : ByteArray).size = 45 from rfl]; omega
    have z1 : ((⟨#[115, 101, 108, 101, 99, 116, 32, 99, 111, 117, 110, 116, 40, 42, 41, 44, 32, 115, 117, 109, 40, 97, 41, 44, 32, 109, 105, 110, 40, 98, 41, 44, 32, 109, 97, 120, 40, 97, 41, 32, 102, 114, 111, 109, 32]⟩ : ByteArray) ++ tb ++ wb).size ≤ 87 := by rw [ByteArray.size_append]; omega
    have HR := Lib.hid (show (⟨#[115, 101, 108, 101, 99, 116, 32, 99, 111, 117, 110, 116, 40, 42, 41, 44, 32, 115, 117, 109, 40, 97, 41, 44, 32, 109, 105, 110, 40, 98, 41, 44, 32, 109, 97, 120, 40, 97, 41, 32, 102, 114, 111, 109, 32]⟩ : ByteArray) ++ tb ++ wb = ⟨(sqlT 11 k t x y s).toArray⟩ from by rw [sqlT11, ← (((IsT.lit [115, 101, 108, 101, 99, 116, 32, 99, 111, 117, 110, 116, 40, 42, 41, 44, 32, 115, 117, 109, 40, 97, 41, 44, 32, 109, 105, 110, 40, 98, 41, 44, 32, 109, 97, 120, 40, 97, 41, 32, 102, 114, 111, 109, 32]).app HT.out rfl).app HW.out rfl).eq])
    go_wp2
    go_ret
    exact ⟨11, k, t, x, y, s, by decide, hk, ht, hx, hy, hs, congrArg (fun b => Ending.returned (.string b)) HR.out, HB5.out⟩
  case inr.inr.inr.inr.inr.inr.inr.inr.inr.inr.inr.inr.inl =>
    have zs0 : (⟨#[115, 101, 108, 101, 99, 116, 32, 98, 44, 32, 99, 111, 117, 110, 116, 40, 42, 41, 32, 102, 114, 111, 109, 32]⟩ : ByteArray).size = 24 := rfl
    have zs2 : (⟨#[32, 103, 114, 111, 117, 112, 32, 98, 121, 32, 98, 32, 111, 114, 100, 101, 114, 32, 98, 121, 32, 98]⟩ : ByteArray).size = 22 := rfl
    have z0 : ((⟨#[115, 101, 108, 101, 99, 116, 32, 98, 44, 32, 99, 111, 117, 110, 116, 40, 42, 41, 32, 102, 114, 111, 109, 32]⟩ : ByteArray) ++ tb).size ≤ 26 := by rw [ByteArray.size_append, show (⟨#[115, 101, 108, 101, 99, 116, 32, 98, 44, 32, 99, 111, 117, 110, 116, 40, 42, 41, 32, 102, 114, 111, 109, 32]⟩ : ByteArray).size = 24 from rfl]; omega
    have z1 : ((⟨#[115, 101, 108, 101, 99, 116, 32, 98, 44, 32, 99, 111, 117, 110, 116, 40, 42, 41, 32, 102, 114, 111, 109, 32]⟩ : ByteArray) ++ tb ++ (⟨#[32, 103, 114, 111, 117, 112, 32, 98, 121, 32, 98, 32, 111, 114, 100, 101, 114, 32, 98, 121, 32, 98]⟩ : ByteArray)).size ≤ 48 := by rw [ByteArray.size_append, show (⟨#[32, 103, 114, 111, 117, 112, 32, 98, 121, 32, 98, 32, 111, 114, 100, 101, 114, 32, 98, 121, 32, 98]⟩ : ByteArray).size = 22 from rfl]; omega
    have HR := Lib.hid (show (⟨#[115, 101, 108, 101, 99, 116, 32, 98, 44, 32, 99, 111, 117, 110, 116, 40, 42, 41, 32, 102, 114, 111, 109, 32]⟩ : ByteArray) ++ tb ++ (⟨#[32, 103, 114, 111, 117, 112, 32, 98, 121, 32, 98, 32, 111, 114, 100, 101, 114, 32, 98, 121, 32, 98]⟩ : ByteArray) = ⟨(sqlT 12 k t x y s).toArray⟩ from by rw [sqlT12, ← (((IsT.lit [115, 101, 108, 101, 99, 116, 32, 98, 44, 32, 99, 111, 117, 110, 116, 40, 42, 41, 32, 102, 114, 111, 109, 32]).app HT.out rfl).app (IsT.lit [32, 103, 114, 111, 117, 112, 32, 98, 121, 32, 98, 32, 111, 114, 100, 101, 114, 32, 98, 121, 32, 98]) rfl).eq])
    go_wp2
    go_ret
    exact ⟨12, k, t, x, y, s, by decide, hk, ht, hx, hy, hs, congrArg (fun b => Ending.returned (.string b)) HR.out, HB5.out⟩
  case inr.inr.inr.inr.inr.inr.inr.inr.inr.inr.inr.inr.inr.inl =>
    have HR := Lib.hid (show (⟨#[115, 101, 108, 101, 99, 116, 32, 116, 97, 46, 97, 44, 32, 116, 98, 46, 98, 32, 102, 114, 111, 109, 32, 116, 97, 32, 106, 111, 105, 110, 32, 116, 98, 32, 111, 110, 32, 116, 97, 46, 97, 32, 61, 32, 116, 98, 46, 97]⟩ : ByteArray) = ⟨(sqlT 13 k t x y s).toArray⟩ from by rw [sqlT13])
    go_wp2
    go_ret
    exact ⟨13, k, t, x, y, s, by decide, hk, ht, hx, hy, hs, congrArg (fun b => Ending.returned (.string b)) HR.out, HB5.out⟩
  case inr.inr.inr.inr.inr.inr.inr.inr.inr.inr.inr.inr.inr.inr.inl =>
    have zs0 : (⟨#[115, 101, 108, 101, 99, 116, 32]⟩ : ByteArray).size = 7 := rfl
    have zs2 : (⟨#[46, 97, 32, 102, 114, 111, 109, 32]⟩ : ByteArray).size = 8 := rfl
    have zs4 : (⟨#[32, 106, 111, 105, 110, 32]⟩ : ByteArray).size = 6 := rfl
    have zs6 : (⟨#[32, 111, 110, 32]⟩ : ByteArray).size = 4 := rfl
    have zs8 : (⟨#[46, 97, 32, 60, 32]⟩ : ByteArray).size = 5 := rfl
    have zs10 : (⟨#[46, 97, 32, 119, 104, 101, 114, 101, 32]⟩ : ByteArray).size = 9 := rfl
    have zs12 : (⟨#[46, 98, 32, 105, 115, 32, 110, 117, 108, 108]⟩ : ByteArray).size = 10 := rfl
    have z0 : ((⟨#[115, 101, 108, 101, 99, 116, 32]⟩ : ByteArray) ++ tb).size ≤ 9 := by rw [ByteArray.size_append, show (⟨#[115, 101, 108, 101, 99, 116, 32]⟩ : ByteArray).size = 7 from rfl]; omega
    have z1 : ((⟨#[115, 101, 108, 101, 99, 116, 32]⟩ : ByteArray) ++ tb ++ (⟨#[46, 97, 32, 102, 114, 111, 109, 32]⟩ : ByteArray)).size ≤ 17 := by rw [ByteArray.size_append, show (⟨#[46, 97, 32, 102, 114, 111, 109, 32]⟩ : ByteArray).size = 8 from rfl]; omega
    have z2 : ((⟨#[115, 101, 108, 101, 99, 116, 32]⟩ : ByteArray) ++ tb ++ (⟨#[46, 97, 32, 102, 114, 111, 109, 32]⟩ : ByteArray) ++ tb).size ≤ 19 := by rw [ByteArray.size_append]; omega
    have z3 : ((⟨#[115, 101, 108, 101, 99, 116, 32]⟩ : ByteArray) ++ tb ++ (⟨#[46, 97, 32, 102, 114, 111, 109, 32]⟩ : ByteArray) ++ tb ++ (⟨#[32, 106, 111, 105, 110, 32]⟩ : ByteArray)).size ≤ 25 := by rw [ByteArray.size_append, show (⟨#[32, 106, 111, 105, 110, 32]⟩ : ByteArray).size = 6 from rfl]; omega
    have z4 : ((⟨#[115, 101, 108, 101, 99, 116, 32]⟩ : ByteArray) ++ tb ++ (⟨#[46, 97, 32, 102, 114, 111, 109, 32]⟩ : ByteArray) ++ tb ++ (⟨#[32, 106, 111, 105, 110, 32]⟩ : ByteArray) ++ ub).size ≤ 27 := by rw [ByteArray.size_append]; omega
    have z5 : ((⟨#[115, 101, 108, 101, 99, 116, 32]⟩ : ByteArray) ++ tb ++ (⟨#[46, 97, 32, 102, 114, 111, 109, 32]⟩ : ByteArray) ++ tb ++ (⟨#[32, 106, 111, 105, 110, 32]⟩ : ByteArray) ++ ub ++ (⟨#[32, 111, 110, 32]⟩ : ByteArray)).size ≤ 31 := by rw [ByteArray.size_append, show (⟨#[32, 111, 110, 32]⟩ : ByteArray).size = 4 from rfl]; omega
    have z6 : ((⟨#[115, 101, 108, 101, 99, 116, 32]⟩ : ByteArray) ++ tb ++ (⟨#[46, 97, 32, 102, 114, 111, 109, 32]⟩ : ByteArray) ++ tb ++ (⟨#[32, 106, 111, 105, 110, 32]⟩ : ByteArray) ++ ub ++ (⟨#[32, 111, 110, 32]⟩ : ByteArray) ++ tb).size ≤ 33 := by rw [ByteArray.size_append]; omega
    have z7 : ((⟨#[115, 101, 108, 101, 99, 116, 32]⟩ : ByteArray) ++ tb ++ (⟨#[46, 97, 32, 102, 114, 111, 109, 32]⟩ : ByteArray) ++ tb ++ (⟨#[32, 106, 111, 105, 110, 32]⟩ : ByteArray) ++ ub ++ (⟨#[32, 111, 110, 32]⟩ : ByteArray) ++ tb ++ (⟨#[46, 97, 32, 60, 32]⟩ : ByteArray)).size ≤ 38 := by rw [ByteArray.size_append, show (⟨#[46, 97, 32, 60, 32]⟩ : ByteArray).size = 5 from rfl]; omega
    have z8 : ((⟨#[115, 101, 108, 101, 99, 116, 32]⟩ : ByteArray) ++ tb ++ (⟨#[46, 97, 32, 102, 114, 111, 109, 32]⟩ : ByteArray) ++ tb ++ (⟨#[32, 106, 111, 105, 110, 32]⟩ : ByteArray) ++ ub ++ (⟨#[32, 111, 110, 32]⟩ : ByteArray) ++ tb ++ (⟨#[46, 97, 32, 60, 32]⟩ : ByteArray) ++ ub).size ≤ 40 := by rw [ByteArray.size_append]; omega
    have z9 : ((⟨#[115, 101, 108, 101, 99, 116, 32]⟩ : ByteArray) ++ tb ++ (⟨#[46, 97, 32, 102, 114, 111, 109, 32]⟩ : ByteArray) ++ tb ++ (⟨#[32, 106, 111, 105, 110, 32]⟩ : ByteArray) ++ ub ++ (⟨#[32, 111, 110, 32]⟩ : ByteArray) ++ tb ++ (⟨#[46, 97, 32, 60, 32]⟩ : ByteArray) ++ ub ++ (⟨#[46, 97, 32, 119, 104, 101, 114, 101, 32]⟩ : ByteArray)).size ≤ 49 := by rw [ByteArray.size_append, show (⟨#[46, 97, 32, 119, 104, 101, 114, 101, 32]⟩ : ByteArray).size = 9 from rfl]; omega
    have z10 : ((⟨#[115, 101, 108, 101, 99, 116, 32]⟩ : ByteArray) ++ tb ++ (⟨#[46, 97, 32, 102, 114, 111, 109, 32]⟩ : ByteArray) ++ tb ++ (⟨#[32, 106, 111, 105, 110, 32]⟩ : ByteArray) ++ ub ++ (⟨#[32, 111, 110, 32]⟩ : ByteArray) ++ tb ++ (⟨#[46, 97, 32, 60, 32]⟩ : ByteArray) ++ ub ++ (⟨#[46, 97, 32, 119, 104, 101, 114, 101, 32]⟩ : ByteArray) ++ tb).size ≤ 51 := by rw [ByteArray.size_append]; omega
    have z11 : ((⟨#[115, 101, 108, 101, 99, 116, 32]⟩ : ByteArray) ++ tb ++ (⟨#[46, 97, 32, 102, 114, 111, 109, 32]⟩ : ByteArray) ++ tb ++ (⟨#[32, 106, 111, 105, 110, 32]⟩ : ByteArray) ++ ub ++ (⟨#[32, 111, 110, 32]⟩ : ByteArray) ++ tb ++ (⟨#[46, 97, 32, 60, 32]⟩ : ByteArray) ++ ub ++ (⟨#[46, 97, 32, 119, 104, 101, 114, 101, 32]⟩ : ByteArray) ++ tb ++ (⟨#[46, 98, 32, 105, 115, 32, 110, 117, 108, 108]⟩ : ByteArray)).size ≤ 61 := by rw [ByteArray.size_append, show (⟨#[46, 98, 32, 105, 115, 32, 110, 117, 108, 108]⟩ : ByteArray).size = 10 from rfl]; omega
    have HR := Lib.hid (show (⟨#[115, 101, 108, 101, 99, 116, 32]⟩ : ByteArray) ++ tb ++ (⟨#[46, 97, 32, 102, 114, 111, 109, 32]⟩ : ByteArray) ++ tb ++ (⟨#[32, 106, 111, 105, 110, 32]⟩ : ByteArray) ++ ub ++ (⟨#[32, 111, 110, 32]⟩ : ByteArray) ++ tb ++ (⟨#[46, 97, 32, 60, 32]⟩ : ByteArray) ++ ub ++ (⟨#[46, 97, 32, 119, 104, 101, 114, 101, 32]⟩ : ByteArray) ++ tb ++ (⟨#[46, 98, 32, 105, 115, 32, 110, 117, 108, 108]⟩ : ByteArray) = ⟨(sqlT 14 k t x y s).toArray⟩ from by rw [sqlT14, ← (((((((((((((IsT.lit [115, 101, 108, 101, 99, 116, 32]).app HT.out rfl).app (IsT.lit [46, 97, 32, 102, 114, 111, 109, 32]) rfl).app HT.out rfl).app (IsT.lit [32, 106, 111, 105, 110, 32]) rfl).app HU.out rfl).app (IsT.lit [32, 111, 110, 32]) rfl).app HT.out rfl).app (IsT.lit [46, 97, 32, 60, 32]) rfl).app HU.out rfl).app (IsT.lit [46, 97, 32, 119, 104, 101, 114, 101, 32]) rfl).app HT.out rfl).app (IsT.lit [46, 98, 32, 105, 115, 32, 110, 117, 108, 108]) rfl).eq])
    go_wp2
    go_ret
    exact ⟨14, k, t, x, y, s, by decide, hk, ht, hx, hy, hs, congrArg (fun b => Ending.returned (.string b)) HR.out, HB5.out⟩
  case inr.inr.inr.inr.inr.inr.inr.inr.inr.inr.inr.inr.inr.inr.inr.inl =>
    have zs0 : (⟨#[115, 101, 108, 101, 99, 116, 32, 97, 32, 42, 32]⟩ : ByteArray).size = 11 := rfl
    have zs2 : (⟨#[32, 45, 32, 49, 32, 102, 114, 111, 109, 32]⟩ : ByteArray).size = 10 := rfl
    have zs4 : (⟨#[32, 111, 114, 100, 101, 114, 32, 98, 121, 32, 97, 32, 100, 101, 115, 99]⟩ : ByteArray).size = 16 := rfl
    have z0 : ((⟨#[115, 101, 108, 101, 99, 116, 32, 97, 32, 42, 32]⟩ : ByteArray) ++ yb).size ≤ 13 := by rw [ByteArray.size_append, show (⟨#[115, 101, 108, 101, 99, 116, 32, 97, 32, 42, 32]⟩ : ByteArray).size = 11 from rfl]; omega
    have z1 : ((⟨#[115, 101, 108, 101, 99, 116, 32, 97, 32, 42, 32]⟩ : ByteArray) ++ yb ++ (⟨#[32, 45, 32, 49, 32, 102, 114, 111, 109, 32]⟩ : ByteArray)).size ≤ 23 := by rw [ByteArray.size_append, show (⟨#[32, 45, 32, 49, 32, 102, 114, 111, 109, 32]⟩ : ByteArray).size = 10 from rfl]; omega
    have z2 : ((⟨#[115, 101, 108, 101, 99, 116, 32, 97, 32, 42, 32]⟩ : ByteArray) ++ yb ++ (⟨#[32, 45, 32, 49, 32, 102, 114, 111, 109, 32]⟩ : ByteArray) ++ tb).size ≤ 25 := by rw [ByteArray.size_append]; omega
    have z3 : ((⟨#[115, 101, 108, 101, 99, 116, 32, 97, 32, 42, 32]⟩ : ByteArray) ++ yb ++ (⟨#[32, 45, 32, 49, 32, 102, 114, 111, 109, 32]⟩ : ByteArray) ++ tb ++ (⟨#[32, 111, 114, 100, 101, 114, 32, 98, 121, 32, 97, 32, 100, 101, 115, 99]⟩ : ByteArray)).size ≤ 41 := by rw [ByteArray.size_append, show (⟨#[32, 111, 114, 100, 101, 114, 32, 98, 121, 32, 97, 32, 100, 101, 115, 99]⟩ : ByteArray).size = 16 from rfl]; omega
    have HR := Lib.hid (show (⟨#[115, 101, 108, 101, 99, 116, 32, 97, 32, 42, 32]⟩ : ByteArray) ++ yb ++ (⟨#[32, 45, 32, 49, 32, 102, 114, 111, 109, 32]⟩ : ByteArray) ++ tb ++ (⟨#[32, 111, 114, 100, 101, 114, 32, 98, 121, 32, 97, 32, 100, 101, 115, 99]⟩ : ByteArray) = ⟨(sqlT 15 k t x y s).toArray⟩ from by rw [sqlT15, ← (((((IsT.lit [115, 101, 108, 101, 99, 116, 32, 97, 32, 42, 32]).app HY.out rfl).app (IsT.lit [32, 45, 32, 49, 32, 102, 114, 111, 109, 32]) rfl).app HT.out rfl).app (IsT.lit [32, 111, 114, 100, 101, 114, 32, 98, 121, 32, 97, 32, 100, 101, 115, 99]) rfl).eq])
    go_wp2
    go_ret
    exact ⟨15, k, t, x, y, s, by decide, hk, ht, hx, hy, hs, congrArg (fun b => Ending.returned (.string b)) HR.out, HB5.out⟩
  case inr.inr.inr.inr.inr.inr.inr.inr.inr.inr.inr.inr.inr.inr.inr.inr.inl =>
    have zs0 : (⟨#[115, 97, 118, 101, 112, 111, 105, 110, 116, 32, 115]⟩ : ByteArray).size = 11 := rfl
    have z0 : ((⟨#[115, 97, 118, 101, 112, 111, 105, 110, 116, 32, 115]⟩ : ByteArray) ++ sb).size ≤ 13 := by rw [ByteArray.size_append, show (⟨#[115, 97, 118, 101, 112, 111, 105, 110, 116, 32, 115]⟩ : ByteArray).size = 11 from rfl]; omega
    go_wp2_with fail
    refine (WS.out _).mono ?_
    rintro e w7 ⟨rfl, rfl⟩
    go_wp2_with fail
    refine (DS.out _).mono ?_
    rintro e w7 ⟨rfl, hb7⟩
    have HB7 := Lib.hid (bch0 HB5.out hb7)
    clear hb7
    have HR := Lib.hid (show (⟨#[115, 97, 118, 101, 112, 111, 105, 110, 116, 32, 115]⟩ : ByteArray) ++ sb = ⟨(sqlT 16 k t x y s).toArray⟩ from by rw [sqlT16, ← ((IsT.lit [115, 97, 118, 101, 112, 111, 105, 110, 116, 32, 115]).app HS.out rfl).eq])
    go_wp2
    go_ret
    exact ⟨16, k, t, x, y, s, by decide, hk, ht, hx, hy, hs, congrArg (fun b => Ending.returned (.string b)) HR.out, HB7.out⟩
  case inr.inr.inr.inr.inr.inr.inr.inr.inr.inr.inr.inr.inr.inr.inr.inr.inr.inl =>
    have zs0 : (⟨#[114, 111, 108, 108, 98, 97, 99, 107, 32, 116, 111, 32, 115]⟩ : ByteArray).size = 13 := rfl
    have z0 : ((⟨#[114, 111, 108, 108, 98, 97, 99, 107, 32, 116, 111, 32, 115]⟩ : ByteArray) ++ sb).size ≤ 15 := by rw [ByteArray.size_append, show (⟨#[114, 111, 108, 108, 98, 97, 99, 107, 32, 116, 111, 32, 115]⟩ : ByteArray).size = 13 from rfl]; omega
    go_wp2_with fail
    refine (WS.out _).mono ?_
    rintro e w7 ⟨rfl, rfl⟩
    go_wp2_with fail
    refine (DS.out _).mono ?_
    rintro e w7 ⟨rfl, hb7⟩
    have HB7 := Lib.hid (bch0 HB5.out hb7)
    clear hb7
    have HR := Lib.hid (show (⟨#[114, 111, 108, 108, 98, 97, 99, 107, 32, 116, 111, 32, 115]⟩ : ByteArray) ++ sb = ⟨(sqlT 17 k t x y s).toArray⟩ from by rw [sqlT17, ← ((IsT.lit [114, 111, 108, 108, 98, 97, 99, 107, 32, 116, 111, 32, 115]).app HS.out rfl).eq])
    go_wp2
    go_ret
    exact ⟨17, k, t, x, y, s, by decide, hk, ht, hx, hy, hs, congrArg (fun b => Ending.returned (.string b)) HR.out, HB7.out⟩
  case inr.inr.inr.inr.inr.inr.inr.inr.inr.inr.inr.inr.inr.inr.inr.inr.inr.inr.inl =>
    have HR := Lib.hid (show (⟨#[114, 111, 108, 108, 98, 97, 99, 107]⟩ : ByteArray) = ⟨(sqlT 18 k t x y s).toArray⟩ from by rw [sqlT18])
    go_wp2
    go_ret
    exact ⟨18, k, t, x, y, s, by decide, hk, ht, hx, hy, hs, congrArg (fun b => Ending.returned (.string b)) HR.out, HB5.out⟩
  case inr.inr.inr.inr.inr.inr.inr.inr.inr.inr.inr.inr.inr.inr.inr.inr.inr.inr.inr.inl =>
    have HR := Lib.hid (show (⟨#[98, 101, 103, 105, 110]⟩ : ByteArray) = ⟨(sqlT 19 k t x y s).toArray⟩ from by rw [sqlT19])
    go_wp2
    go_ret
    exact ⟨19, k, t, x, y, s, by decide, hk, ht, hx, hy, hs, congrArg (fun b => Ending.returned (.string b)) HR.out, HB5.out⟩
  case inr.inr.inr.inr.inr.inr.inr.inr.inr.inr.inr.inr.inr.inr.inr.inr.inr.inr.inr.inr.inl =>
    have HR := Lib.hid (show (⟨#[98, 101, 103, 105, 110]⟩ : ByteArray) = ⟨(sqlT 20 k t x y s).toArray⟩ from by rw [sqlT20])
    go_wp2
    go_ret
    exact ⟨20, k, t, x, y, s, by decide, hk, ht, hx, hy, hs, congrArg (fun b => Ending.returned (.string b)) HR.out, HB5.out⟩
  case inr.inr.inr.inr.inr.inr.inr.inr.inr.inr.inr.inr.inr.inr.inr.inr.inr.inr.inr.inr.inr.inl =>
    have zs0 : (⟨#[115, 101, 108, 101, 99, 116, 32, 109, 97, 120, 40, 97, 41, 32, 102, 114, 111, 109, 32]⟩ : ByteArray).size = 19 := rfl
    have zs2 : (⟨#[32, 103, 114, 111, 117, 112, 32, 98, 121, 32, 97, 32, 108, 105, 109, 105, 116, 32, 51]⟩ : ByteArray).size = 19 := rfl
    have z0 : ((⟨#[115, 101, 108, 101, 99, 116, 32, 109, 97, 120, 40, 97, 41, 32, 102, 114, 111, 109, 32]⟩ : ByteArray) ++ tb).size ≤ 21 := by rw [ByteArray.size_append, show (⟨#[115, 101, 108, 101, 99, 116, 32, 109, 97, 120, 40, 97, 41, 32, 102, 114, 111, 109, 32]⟩ : ByteArray).size = 19 from rfl]; omega
    have z1 : ((⟨#[115, 101, 108, 101, 99, 116, 32, 109, 97, 120, 40, 97, 41, 32, 102, 114, 111, 109, 32]⟩ : ByteArray) ++ tb ++ (⟨#[32, 103, 114, 111, 117, 112, 32, 98, 121, 32, 97, 32, 108, 105, 109, 105, 116, 32, 51]⟩ : ByteArray)).size ≤ 40 := by rw [ByteArray.size_append, show (⟨#[32, 103, 114, 111, 117, 112, 32, 98, 121, 32, 97, 32, 108, 105, 109, 105, 116, 32, 51]⟩ : ByteArray).size = 19 from rfl]; omega
    have HR := Lib.hid (show (⟨#[115, 101, 108, 101, 99, 116, 32, 109, 97, 120, 40, 97, 41, 32, 102, 114, 111, 109, 32]⟩ : ByteArray) ++ tb ++ (⟨#[32, 103, 114, 111, 117, 112, 32, 98, 121, 32, 97, 32, 108, 105, 109, 105, 116, 32, 51]⟩ : ByteArray) = ⟨(sqlT 21 k t x y s).toArray⟩ from by rw [sqlT21, ← (((IsT.lit [115, 101, 108, 101, 99, 116, 32, 109, 97, 120, 40, 97, 41, 32, 102, 114, 111, 109, 32]).app HT.out rfl).app (IsT.lit [32, 103, 114, 111, 117, 112, 32, 98, 121, 32, 97, 32, 108, 105, 109, 105, 116, 32, 51]) rfl).eq])
    go_wp2
    go_ret
    exact ⟨21, k, t, x, y, s, by decide, hk, ht, hx, hy, hs, congrArg (fun b => Ending.returned (.string b)) HR.out, HB5.out⟩
  case inr.inr.inr.inr.inr.inr.inr.inr.inr.inr.inr.inr.inr.inr.inr.inr.inr.inr.inr.inr.inr.inr.inl =>
    have zs0 : (⟨#[105, 110, 115, 101, 114, 116, 32, 105, 110, 116, 111, 32]⟩ : ByteArray).size = 12 := rfl
    have zs2 : (⟨#[32, 118, 97, 108, 117, 101, 115, 32, 40]⟩ : ByteArray).size = 9 := rfl
    have zs4 : (⟨#[41]⟩ : ByteArray).size = 1 := rfl
    have z0 : ((⟨#[105, 110, 115, 101, 114, 116, 32, 105, 110, 116, 111, 32]⟩ : ByteArray) ++ tb).size ≤ 14 := by rw [ByteArray.size_append, show (⟨#[105, 110, 115, 101, 114, 116, 32, 105, 110, 116, 111, 32]⟩ : ByteArray).size = 12 from rfl]; omega
    have z1 : ((⟨#[105, 110, 115, 101, 114, 116, 32, 105, 110, 116, 111, 32]⟩ : ByteArray) ++ tb ++ (⟨#[32, 118, 97, 108, 117, 101, 115, 32, 40]⟩ : ByteArray)).size ≤ 23 := by rw [ByteArray.size_append, show (⟨#[32, 118, 97, 108, 117, 101, 115, 32, 40]⟩ : ByteArray).size = 9 from rfl]; omega
    have z2 : ((⟨#[105, 110, 115, 101, 114, 116, 32, 105, 110, 116, 111, 32]⟩ : ByteArray) ++ tb ++ (⟨#[32, 118, 97, 108, 117, 101, 115, 32, 40]⟩ : ByteArray) ++ xb).size ≤ 25 := by rw [ByteArray.size_append]; omega
    have z3 : ((⟨#[105, 110, 115, 101, 114, 116, 32, 105, 110, 116, 111, 32]⟩ : ByteArray) ++ tb ++ (⟨#[32, 118, 97, 108, 117, 101, 115, 32, 40]⟩ : ByteArray) ++ xb ++ (⟨#[41]⟩ : ByteArray)).size ≤ 26 := by rw [ByteArray.size_append, show (⟨#[41]⟩ : ByteArray).size = 1 from rfl]; omega
    have HR := Lib.hid (show (⟨#[105, 110, 115, 101, 114, 116, 32, 105, 110, 116, 111, 32]⟩ : ByteArray) ++ tb ++ (⟨#[32, 118, 97, 108, 117, 101, 115, 32, 40]⟩ : ByteArray) ++ xb ++ (⟨#[41]⟩ : ByteArray) = ⟨(sqlT 22 k t x y s).toArray⟩ from by rw [sqlT22, ← (((((IsT.lit [105, 110, 115, 101, 114, 116, 32, 105, 110, 116, 111, 32]).app HT.out rfl).app (IsT.lit [32, 118, 97, 108, 117, 101, 115, 32, 40]) rfl).app HX.out rfl).app (IsT.lit [41]) rfl).eq])
    go_wp2
    go_ret
    exact ⟨22, k, t, x, y, s, by decide, hk, ht, hx, hy, hs, congrArg (fun b => Ending.returned (.string b)) HR.out, HB5.out⟩
  case inr.inr.inr.inr.inr.inr.inr.inr.inr.inr.inr.inr.inr.inr.inr.inr.inr.inr.inr.inr.inr.inr.inr =>
    have zs0 : (⟨#[115, 101, 108, 101, 99, 116, 32, 99, 32, 102, 114, 111, 109, 32]⟩ : ByteArray).size = 14 := rfl
    have z0 : ((⟨#[115, 101, 108, 101, 99, 116, 32, 99, 32, 102, 114, 111, 109, 32]⟩ : ByteArray) ++ tb).size ≤ 16 := by rw [ByteArray.size_append, show (⟨#[115, 101, 108, 101, 99, 116, 32, 99, 32, 102, 114, 111, 109, 32]⟩ : ByteArray).size = 14 from rfl]; omega
    have z1 : ((⟨#[115, 101, 108, 101, 99, 116, 32, 99, 32, 102, 114, 111, 109, 32]⟩ : ByteArray) ++ tb ++ wb).size ≤ 56 := by rw [ByteArray.size_append]; omega
    have HR := Lib.hid (show (⟨#[115, 101, 108, 101, 99, 116, 32, 99, 32, 102, 114, 111, 109, 32]⟩ : ByteArray) ++ tb ++ wb = ⟨(sqlT 23 k t x y s).toArray⟩ from by rw [sqlT23, ← (((IsT.lit [115, 101, 108, 101, 99, 116, 32, 99, 32, 102, 114, 111, 109, 32]).app HT.out rfl).app HW.out rfl).eq])
    go_wp2
    go_ret
    exact ⟨23, k, t, x, y, s, by decide, hk, ht, hx, hy, hs, congrArg (fun b => Ending.returned (.string b)) HR.out, HB5.out⟩
end Go.Proofs.YtfnceamkephpjaaGreat.pg
