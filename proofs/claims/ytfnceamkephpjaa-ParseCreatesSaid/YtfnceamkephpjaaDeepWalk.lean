/- ParseDeep: the walk. Printed by gen20.py. -/
import Derived.Test.YtfnceamkephpjaaMP18
namespace Go.Proofs.Ytfnceamkephpjaa.pg
open Go.ChangeShapes Go.WideShapes Go.ChangeAt Go.RowKit Go.Proofs.Ytfnceamkephpjaa.lib Go.Proofs.Ytfnceamkephpjaa.lx
set_option linter.unusedVariables false

/-- bytes as a string of their own -/
structure IsT (s : ByteArray) (l : List UInt8) : Prop where
  eq : s = ⟨l.toArray⟩
theorem IsT.size {s : ByteArray} {l : List UInt8} (h : IsT s l) : s.size = l.length := by rw [h.eq]; exact size_mk l
theorem IsT.app {s t : ByteArray} {l m k : List UInt8} (h : IsT s l) (h2 : IsT t m) (e : l ++ m = k) : IsT (s ++ t) k := ⟨by rw [h.eq, h2.eq, app_mk, e]⟩
theorem IsT.lit (l : List UInt8) : IsT ⟨l.toArray⟩ l := ⟨rfl⟩
theorem plusT_snoc : ∀ n, plusT n ++ [43, 49] = plusT (n + 1)
  | 0 => rfl
  | n + 1 => by
    have := plusT_snoc n
    simp only [plusT, List.cons_append] at this ⊢
    rw [this]
theorem deep_up (n k : Nat) : [40] ++ deepT n k ++ [41] = deepT n (k + 1) := by
  unfold deepT
  rw [List.replicate_succ, show List.replicate (k + 1) (41 : UInt8) = List.replicate k 41 ++ [41] by rw [List.replicate_succ']]
  simp
theorem last_op {es : List Nd} {n : Nat} (hl : es.length = 2 * n + 1) (ho : (es.getLast?.map (·.op)) = some 14) : ∃ x, es[2 * n]? = some x ∧ x.op = 14 := by
  rw [List.getLast?_eq_getElem?, hl, show 2 * n + 1 - 1 = 2 * n by omega] at ho
  cases h : es[2 * n]? with
  | none => rw [h] at ho; cases ho
  | some x => rw [h] at ho; exact ⟨x, rfl, by injection ho⟩
set_option maxRecDepth 1000000 in
set_option maxHeartbeats 4000000 in
theorem deep_walk (a k : Int) (w : World) (ha : ok64 a) (hk : ok64 k) :
    Calls Try.prog 3 #[.int .i64 a, .int .i64 k] w fun e w' => e = .returned (.bool true) ∧ Below w.heap.size w w' := by
  have HN := Lib.hid (fun W => withinN a 8 W (by decide) (by decide) ha)
  have HK := Lib.hid (fun W => withinN k 60 W (by decide) (by decide) hk)
  clear ha hk
  go_enter Try.func3, Try.ntmps3
  go_wp2_with fail
  refine (known_ _).mono ?_
  rintro e w1 ⟨rfl, hb1⟩
  have HB1 := Lib.hid hb1
  clear hb1
  go_wp2_with fail
  refine (HN.out _).mono ?_
  rintro e w2 ⟨n0, hn0, rfl, rfl⟩
  go_wp2_with fail
  refine (HK.out _).mono ?_
  rintro e w2 ⟨d, hd, rfl, rfl⟩
  obtain ⟨n, hn, hn1, hn2⟩ : ∃ n : Nat, (27 : Int) + n0 = (n : Int) ∧ 27 ≤ n ∧ n ≤ 34 := ⟨27 + n0, by omega, by omega, by omega⟩
  go_upto_region 4 with fail
  clear hn hn0 HN HK
  have hd60 : d ≤ 59 := by omega
  go_wp2_with fail
  go_loopw [5, 6] (fun sv iv wr => ∃ (i : Nat) (s : ByteArray), iv = .int .i64 i ∧ i ≤ n ∧ sv = .string s ∧ Hid (IsT s (deepT i 0)) ∧ w1 = wr) (fun _ iv _ => n - (intOf iv).toNat)
  case atStart => exact ⟨0, _, rfl, Nat.zero_le _, rfl, Lib.hid (IsT.lit _), rfl⟩
  case round =>
    obtain ⟨i, s, rfl, hi, rfl, HS, rfl⟩ := hrel
    have z1 : s.size ≤ 69 := by rw [HS.out.size, deepT_len]; omega
    rcases Nat.lt_or_ge i n with hlt | hge
    case inl =>
      have c1 : decide ((i : Int) < (n : Int)) = true := by simp; omega
      have z2 : (s ++ (⟨#[43, 49]⟩ : ByteArray)).size ≤ 71 := by rw [ByteArray.size_append, show (⟨#[43, 49]⟩ : ByteArray).size = 2 from rfl]; omega
      have HS2 := Lib.hid (HS.out.app (IsT.lit [43, 49]) (show deepT i 0 ++ [43, 49] = deepT (i + 1) 0 by
        unfold deepT
        simp [← plusT_snoc i]))
      go_wp2
      go_roundw
      case rel => exact ⟨i + 1, _, by go_num, by omega, by first | rfl | trivial, HS2, by first | rfl | trivial⟩
      case measure => simp [intOf]; omega
    have c1 : decide ((i : Int) < (n : Int)) = false := by simp; omega
    obtain rfl : i = n := by omega
    clear hge hi
    go_wp2_with fail
    clear c1
    go_loopw [5, 7] (fun sv iv wr => ∃ (j : Nat) (s : ByteArray), iv = .int .i64 j ∧ j ≤ d ∧ sv = .string s ∧ Hid (IsT s (deepT i j)) ∧ w1 = wr) (fun _ iv _ => d - (intOf iv).toNat)
    case atStart => exact ⟨0, _, rfl, Nat.zero_le _, rfl, HS, rfl⟩
    case round =>
      clear z1 HS
      obtain ⟨j, s2, rfl, hj, rfl, HS, rfl⟩ := hrel
      have z1 : s2.size ≤ 187 := by rw [HS.out.size, deepT_len]; omega
      rcases Nat.lt_or_ge j d with hlt | hge
      case inl =>
        have c1 : decide ((j : Int) < (d : Int)) = true := by simp; omega
        have z2 : ((⟨#[40]⟩ : ByteArray) ++ s2).size ≤ 188 := by rw [ByteArray.size_append, show (⟨#[40]⟩ : ByteArray).size = 1 from rfl]; omega
        have z3 : ((⟨#[40]⟩ : ByteArray) ++ s2 ++ (⟨#[41]⟩ : ByteArray)).size ≤ 189 := by rw [ByteArray.size_append, show (⟨#[41]⟩ : ByteArray).size = 1 from rfl]; omega
        have HS2 := Lib.hid (((IsT.lit [40]).app HS.out rfl).app (IsT.lit [41]) (deep_up i j))
        go_wp2
        go_roundw
        case rel => exact ⟨j + 1, _, by go_num, by omega, by first | rfl | trivial, HS2, by first | rfl | trivial⟩
        case measure => simp [intOf]; omega
      have c1 : decide ((j : Int) < (d : Int)) = false := by simp; omega
      obtain rfl : j = d := by omega
      have hlen : 2 * j + 2 * i + 1 ≤ 600 := by omega
      have HE := Lib.hid (Expr_ (deepT i j) (by rw [deepT_len]; omega) w1)
      replace HE := HE.out
      rw [← HS.out.eq] at HE
      rcases deep_expr i j hlen with ⟨hi29, es, he, hl, ho⟩ | ⟨hi29, he⟩
      · rw [he] at HE
        obtain ⟨x, hx, hop⟩ := last_op hl (ho (by omega))
        replace HE := Lib.hid HE
        have HX := Lib.hid hx
        have HOP := Lib.hid hop
        have HL := Lib.hid hl
        clear he hl ho hge hj HS hlen hx hop
        go_wp2_with fail
        refine (HE.out).mono ?_
        rintro e w4 ⟨v, rfl, hown, hb4⟩
        obtain ⟨g, c, rfl, h1, h2⟩ := hown.form (by have := HL.out; simp only; omega)
        have q := own_node hown (2 * i) x HX.out 0 _ rfl
        have hz : (0, es).2.length = 2 * i + 1 := HL.out
        have HB := Lib.hid (bch0 HB1.out hb4)
        rw [HOP.out] at q
        simp only [Nat.add_zero] at q
        rw [hz]
        clear hown h1 h2 hb4 hz
        go_wp2
        go_ret
        exact ⟨rfl, HB.out⟩
      · rw [he] at HE
        replace HE := Lib.hid HE
        have c2 : decide (60 < (2 : Int) * (i : Int) + 1) = true := by simp; omega
        clear he hge hj HS hlen
        go_wp2_with fail
        refine (HE.out).mono ?_
        rintro e w4 ⟨v, rfl, hown, hb4⟩
        obtain ⟨A, c, rfl⟩ := own_sl hown
        have HB := Lib.hid (bch0 HB1.out hb4)
        clear hown hb4
        go_wp2
        go_ret
        exact ⟨rfl, HB.out⟩
end Go.Proofs.Ytfnceamkephpjaa.pg
