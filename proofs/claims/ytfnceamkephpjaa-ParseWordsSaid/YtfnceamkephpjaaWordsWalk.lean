/- ParseWords: the walk. Printed by genwords.py. -/
import Derived.Test.YtfnceamkephpjaaManyWalk
namespace Go.Proofs.Ytfnceamkephpjaa.pg
open Go.ChangeShapes Go.WideShapes Go.ChangeAt Go.RowKit Go.Proofs.Ytfnceamkephpjaa.lib Go.Proofs.Ytfnceamkephpjaa.lx
set_option linter.unusedVariables false

def langW : List (List UInt8) := [[116, 97, 98, 108, 101], [115, 101, 108, 101, 99, 116], [102, 114, 111, 109], [110, 117, 108, 108], [116, 114, 117, 101], [99, 111, 117, 110, 116], [107, 101, 121], [119, 104, 101, 114, 101], [111, 114], [118, 97, 108, 117, 101, 115]]
def textW : List (List UInt8) := [[100, 114, 111, 112, 32, 116, 97, 98, 108, 101, 32, 87], [105, 110, 115, 101, 114, 116, 32, 105, 110, 116, 111, 32, 87, 32, 118, 97, 108, 117, 101, 115, 32, 40, 49, 41], [100, 101, 108, 101, 116, 101, 32, 102, 114, 111, 109, 32, 87], [115, 97, 118, 101, 112, 111, 105, 110, 116, 32, 87], [114, 111, 108, 108, 98, 97, 99, 107, 32, 116, 111, 32, 87], [117, 112, 100, 97, 116, 101, 32, 87, 32, 115, 101, 116, 32, 97, 32, 61, 32, 49], [117, 112, 100, 97, 116, 101, 32, 116, 32, 115, 101, 116, 32, 87, 32, 61, 32, 49], [115, 101, 108, 101, 99, 116, 32, 97, 32, 102, 114, 111, 109, 32, 87], [115, 101, 108, 101, 99, 116, 32, 97, 32, 102, 114, 111, 109, 32, 116, 32, 103, 114, 111, 117, 112, 32, 98, 121, 32, 87], [115, 101, 108, 101, 99, 116, 32, 116, 46, 87, 32, 102, 114, 111, 109, 32, 116], [100, 114, 111, 112, 32, 116, 97, 98, 108, 101, 32, 97, 98, 99, 100, 101, 102, 103, 104, 105, 106, 107, 108, 109]]
/-- the word laid in -/
def subW (w : List UInt8) : List UInt8 → List UInt8
  | [] => []
  | c :: r => (if c = 87 then w else [c]) ++ subW w r
theorem subW_snoc (w : List UInt8) (c : UInt8) : ∀ l, subW w (l ++ [c]) = subW w l ++ (if c = 87 then w else [c])
  | [] => by simp [subW]
  | d :: r => by
    have ih := subW_snoc w c r
    simp only [List.cons_append, subW, ih, List.append_assoc]
theorem subW_len {w : List UInt8} (hw : w.length ≤ 6) : ∀ l, (subW w l).length ≤ 6 * l.length
  | [] => by simp [subW]
  | c :: r => by
    have ih := subW_len hw r
    have : (if c = 87 then w else [c]).length ≤ 6 := by split; exact hw; simp
    simp only [subW, List.length_append, List.length_cons]
    omega
theorem lang_all : (langW.all fun w => decide (w.length ≤ 6)) = true := by decide +kernel
theorem text_all : (textW.all fun s => decide (s.length ≤ 30)) = true := by decide +kernel
theorem words_all : (langW.all fun w => textW.all fun s => decide ((stmtL (subW w s)).1 = 6)) = true := by decide +kernel
theorem words_ok {w s : List UInt8} (hw : w ∈ langW) (hs : s ∈ textW) : (stmtL (subW w s)).1 = 6 := by
  have := List.all_eq_true.1 (List.all_eq_true.1 words_all w hw) s hs
  simpa using this
set_option maxRecDepth 1000000 in
set_option maxHeartbeats 8000000 in
theorem words_walk (a k : Int) (w : World) (ha : ok64 a) (hk : ok64 k) :
    Calls Try.prog 5 #[.int .i64 a, .int .i64 k] w fun e w' => e = .returned (.bool true) ∧ Below w.heap.size w w' := by
  obtain ⟨n, hn, hna⟩ := mod_nat a 10 (by decide)
  obtain ⟨d, hd, hdk⟩ := mod_nat k 11 (by decide)
  have HN := Lib.hid (fun W => within_ a 10 W (by decide) (by decide) ha)
  have HK := Lib.hid (fun W => within_ k 11 W (by decide) (by decide) hk)
  replace HN := HN.out
  replace HK := HK.out
  rw [show a % 10 = (n : Int) from hna] at HN
  rw [show k % 11 = (d : Int) from hdk] at HK
  replace HN := Lib.hid HN
  replace HK := Lib.hid HK
  have hn3 : (n : Int) < 10 := by omega
  have hd3 : (d : Int) < 11 := by omega
  obtain ⟨lw, hlw⟩ : ∃ x, langW[n]? = some x := ⟨_, List.getElem?_eq_getElem (show n < langW.length from hn)⟩
  obtain ⟨sl, hsl⟩ : ∃ x, textW[d]? = some x := ⟨_, List.getElem?_eq_getElem (show d < textW.length from hd)⟩
  have HLW := Lib.hid hlw
  have HSL := Lib.hid hsl
  have hwl : lw.length ≤ 6 := by have := List.all_eq_true.1 lang_all lw (List.mem_of_getElem? hlw); simpa using this
  have hll : sl.length ≤ 30 := by have := List.all_eq_true.1 text_all sl (List.mem_of_getElem? hsl); simpa using this
  have HOKK := Lib.hid (words_ok (List.mem_of_getElem? hlw) (List.mem_of_getElem? hsl))
  clear ha hk hna hdk hlw hsl
  go_enter Try.func5, Try.ntmps5
  go_wp2_with fail
  refine (known_ _).mono ?_
  rintro e w1 ⟨rfl, hb1⟩
  have HB1 := Lib.hid hb1
  clear hb1
  go_upto_region 4 with fail
  obtain ⟨W2, hW_, hb2, BL⟩ : ∃ W_, W_ = (w1.alloc (.cells #[.string ⟨#[116, 97, 98, 108, 101]⟩, .string ⟨#[115, 101, 108, 101, 99, 116]⟩, .string ⟨#[102, 114, 111, 109]⟩, .string ⟨#[110, 117, 108, 108]⟩, .string ⟨#[116, 114, 117, 101]⟩, .string ⟨#[99, 111, 117, 110, 116]⟩, .string ⟨#[107, 101, 121]⟩, .string ⟨#[119, 104, 101, 114, 101]⟩, .string ⟨#[111, 114]⟩, .string ⟨#[118, 97, 108, 117, 101, 115]⟩] 9)) ∧ Below w1.heap.size w1 W_ ∧ Blk W_ (w1.heap.size) 9 #[.string ⟨#[116, 97, 98, 108, 101]⟩, .string ⟨#[115, 101, 108, 101, 99, 116]⟩, .string ⟨#[102, 114, 111, 109]⟩, .string ⟨#[110, 117, 108, 108]⟩, .string ⟨#[116, 114, 117, 101]⟩, .string ⟨#[99, 111, 117, 110, 116]⟩, .string ⟨#[107, 101, 121]⟩, .string ⟨#[119, 104, 101, 114, 101]⟩, .string ⟨#[111, 114]⟩, .string ⟨#[118, 97, 108, 117, 101, 115]⟩] :=
    ⟨_, rfl, ((Below.refl _ _).alloc (Nat.le_refl _) _), (blk_new_at w1 (w1.heap.size) _ _ (by simp))⟩
  rw [← hW_]
  clear hW_
  have HB2 := Lib.hid (bch0 HB1.out hb2)
  obtain ⟨wv, hwv⟩ : ∃ r : ByteArray, r = ⟨lw.toArray⟩ := ⟨_, rfl⟩
  have HWV := Lib.hid (IsT.mk hwv)
  have hc : W2.cell? ⟨w1.heap.size, n, none⟩ = some (.string wv) := by
    have hrow : Row W2 0 (some ⟨w1.heap.size, 0, none⟩) 10 10 (langW.map fun s => Value.string ⟨s.toArray⟩) := Row.of_blk BL (Nat.zero_le _) 10 10 (Nat.le_refl _)
    have := hrow.at_ (i := n) (u := .string ⟨lw.toArray⟩) (by rw [List.getElem?_map, HLW.out]; rfl)
    rw [hwv]
    simpa using this
  have zw : wv.size ≤ 6 := by rw [HWV.out.size]; exact hwl
  clear hb2 BL hwv
  go_wp2_with fail
  refine (HN.out _).mono ?_
  rintro e w2 ⟨rfl, rfl⟩
  go_upto_region 5 with fail
  clear hc
  go_wp2_with fail
  obtain ⟨W3, hW_, hb3, BT⟩ : ∃ W_, W_ = (W2.alloc (.cells #[.string ⟨#[100, 114, 111, 112, 32, 116, 97, 98, 108, 101, 32, 87]⟩, .string ⟨#[105, 110, 115, 101, 114, 116, 32, 105, 110, 116, 111, 32, 87, 32, 118, 97, 108, 117, 101, 115, 32, 40, 49, 41]⟩, .string ⟨#[100, 101, 108, 101, 116, 101, 32, 102, 114, 111, 109, 32, 87]⟩, .string ⟨#[115, 97, 118, 101, 112, 111, 105, 110, 116, 32, 87]⟩, .string ⟨#[114, 111, 108, 108, 98, 97, 99, 107, 32, 116, 111, 32, 87]⟩, .string ⟨#[117, 112, 100, 97, 116, 101, 32, 87, 32, 115, 101, 116, 32, 97, 32, 61, 32, 49]⟩, .string ⟨#[117, 112, 100, 97, 116, 101, 32, 116, 32, 115, 101, 116, 32, 87, 32, 61, 32, 49]⟩, .string ⟨#[115, 101, 108, 101, 99, 116, 32, 97, 32, 102, 114, 111, 109, 32, 87]⟩, .string ⟨#[115, 101, 108, 101, 99, 116, 32, 97, 32, 102, 114, 111, 109, 32, 116, 32, 103, 114, 111, 117, 112, 32, 98, 121, 32, 87]⟩, .string ⟨#[115, 101, 108, 101, 99, 116, 32, 116, 46, 87, 32, 102, 114, 111, 109, 32, 116]⟩, .string ⟨#[100, 114, 111, 112, 32, 116, 97, 98, 108, 101, 32, 97, 98, 99, 100, 101, 102, 103, 104, 105, 106, 107, 108, 109]⟩] 9)) ∧ Below W2.heap.size W2 W_ ∧ Blk W_ (W2.heap.size) 9 #[.string ⟨#[100, 114, 111, 112, 32, 116, 97, 98, 108, 101, 32, 87]⟩, .string ⟨#[105, 110, 115, 101, 114, 116, 32, 105, 110, 116, 111, 32, 87, 32, 118, 97, 108, 117, 101, 115, 32, 40, 49, 41]⟩, .string ⟨#[100, 101, 108, 101, 116, 101, 32, 102, 114, 111, 109, 32, 87]⟩, .string ⟨#[115, 97, 118, 101, 112, 111, 105, 110, 116, 32, 87]⟩, .string ⟨#[114, 111, 108, 108, 98, 97, 99, 107, 32, 116, 111, 32, 87]⟩, .string ⟨#[117, 112, 100, 97, 116, 101, 32, 87, 32, 115, 101, 116, 32, 97, 32, 61, 32, 49]⟩, .string ⟨#[117, 112, 100, 97, 116, 101, 32, 116, 32, 115, 101, 116, 32, 87, 32, 61, 32, 49]⟩, .string ⟨#[115, 101, 108, 101, 99, 116, 32, 97, 32, 102, 114, 111, 109, 32, 87]⟩, .string ⟨#[115, 101, 108, 101, 99, 116, 32, 97, 32, 102, 114, 111, 109, 32, 116, 32, 103, 114, 111, 117, 112, 32, 98, 121, 32, 87]⟩, .string ⟨#[115, 101, 108, 101, 99, 116, 32, 116, 46, 87, 32, 102, 114, 111, 109, 32, 116]⟩, .string ⟨#[100, 114, 111, 112, 32, 116, 97, 98, 108, 101, 32, 97, 98, 99, 100, 101, 102, 103, 104, 105, 106, 107, 108, 109]⟩] :=
    ⟨_, rfl, ((Below.refl _ _).alloc (Nat.le_refl _) _), (blk_new_at W2 (W2.heap.size) _ _ (by simp))⟩
  rw [← hW_]
  clear hW_
  have HB3 := Lib.hid (bch0 HB2.out hb3)
  obtain ⟨sv, hsv⟩ : ∃ r : ByteArray, r = ⟨sl.toArray⟩ := ⟨_, rfl⟩
  have HSV := Lib.hid (StrB.mk hsv)
  have hc : W3.cell? ⟨W2.heap.size, d, none⟩ = some (.string sv) := by
    have hrow : Row W3 0 (some ⟨W2.heap.size, 0, none⟩) 11 11 (textW.map fun s => Value.string ⟨s.toArray⟩) := Row.of_blk BT (Nat.zero_le _) 11 11 (Nat.le_refl _)
    have := hrow.at_ (i := d) (u := .string ⟨sl.toArray⟩) (by rw [List.getElem?_map, HSL.out]; rfl)
    rw [hsv]
    simpa using this
  have zs : sv.size ≤ 30 := by rw [HSV.out.size]; exact hll
  have HZS := Lib.hid HSV.out.size
  clear hb3 BT hsv
  refine (HK.out _).mono ?_
  rintro e w2 ⟨rfl, rfl⟩
  go_upto_region 7 with fail
  clear hc HN HK
  go_wp2_with fail
  go_loopw [8, 9] (fun tv iv wr => ∃ (i : Nat) (u : ByteArray), iv = .int .i64 i ∧ i ≤ sv.size ∧ tv = .string u ∧ Hid (IsT u (subW lw (sl.take i))) ∧ W3 = wr) (fun _ iv _ => sv.size - (intOf iv).toNat)
  case atStart => exact ⟨0, _, rfl, by omega, rfl, Lib.hid (IsT.lit []), rfl⟩
  case round =>
    obtain ⟨i, u, rfl, hi, rfl, HS, rfl⟩ := hrel
    have zu : u.size ≤ 180 := by
      have h1 := subW_len hwl (sl.take i)
      have h2 : (sl.take i).length ≤ 30 := by rw [List.length_take]; omega
      rw [HS.out.size]; omega
    rcases Nat.lt_or_ge i sv.size with hlt | hge
    case inl =>
      have c1 : decide ((i : Int) < (sv.size : Int)) = true := by simp; omega
      have c1b : decide (i < sv.size) = true := by simp; omega
      have hil : i < sl.length := by rw [← HZS.out]; exact hlt
      have hgt := HSV.out.get i hlt hil
      obtain ⟨c, hc⟩ : ∃ c, (sv[i]'hlt).toNat = c := ⟨_, rfl⟩
      have HC := Lib.hid (show sl[i].toNat = c by rw [← hgt]; exact hc)
      have HTK := Lib.hid (show sl.take (i + 1) = sl.take i ++ [sl[i]] by rw [List.take_add_one, List.getElem?_eq_getElem hil]; rfl)
      have HEX := Lib.hid (show IsT (sv.extract i (i + 1)) [sl[i]] from ⟨by
        have he := HSV.out.eq
        rw [he]
        apply ByteArray.ext
        apply Array.ext'
        simp only [ByteArray.data_extract, Array.toList_extract, List.extract_eq_take_drop]
        rw [show i + 1 - i = 1 by omega, List.drop_eq_getElem_cons hil]
        rfl⟩)
      have ze : (u ++ sv.extract i (i + 1)).size ≤ 181 := by rw [ByteArray.size_append, HEX.out.size]; simp only [List.length_cons, List.length_nil]; omega
      have zw2 : (u ++ wv).size ≤ 186 := by rw [ByteArray.size_append]; omega
      clear hgt
      by_cases h87 : c = 87
      case pos =>
        have f87 : ((c : Int) == 87) = true := by subst h87; rfl
        have HS2 := Lib.hid (HS.out.app HWV.out (show subW lw (sl.take i) ++ lw = subW lw (sl.take (i + 1)) by
          rw [HTK.out, subW_snoc, if_pos (UInt8.toNat_inj.1 (by rw [HC.out, h87]; rfl))]))
        clear h87
        go_wp2
        go_roundw
        case rel => exact ⟨i + 1, _, by go_num, by omega, by first | rfl | trivial, HS2, by first | rfl | trivial⟩
        case measure => simp [intOf]; omega
      have f87 : ((c : Int) == 87) = false := by simp; omega
      have HS2 := Lib.hid (HS.out.app HEX.out (show subW lw (sl.take i) ++ [sl[i]] = subW lw (sl.take (i + 1)) by
        rw [HTK.out, subW_snoc, if_neg (fun e => h87 (by rw [← HC.out, e]; rfl))]))
      clear h87
      go_wp2
      go_roundw
      case rel => exact ⟨i + 1, _, by go_num, by omega, by first | rfl | trivial, HS2, by first | rfl | trivial⟩
      case measure => simp [intOf]; omega
    have c1 : decide ((i : Int) < (sv.size : Int)) = false := by simp; omega
    have c1b : decide (i < sv.size) = false := by simp; omega
    have ht : sl.take i = sl := List.take_of_length_le (by rw [← HZS.out]; exact hge)
    have HU := HS.out.eq
    rw [ht] at HU
    have HST := Lib.hid (Stmt_ (subW lw sl) (by have := subW_len hwl sl; omega) W3)
    obtain ⟨⟨er, st⟩, hres⟩ : ∃ X, stmtL (subW lw sl) = X := ⟨_, rfl⟩
    replace HST := HST.out
    have hok := HOKK.out
    rw [hres] at HST hok
    obtain rfl : er = 6 := hok
    rw [← HU] at HST
    replace HST := Lib.hid HST
    clear hres HU ht hge hi
    go_wp2_with fail
    refine (HST.out).mono ?_
    rintro e w4 ⟨v, rfl, ho, hb4⟩
    have HB4 := Lib.hid (bch0 HB3.out hb4)
    simp only
    obtain ⟨w9, hw9, BX9, hg9⟩ := Blk.setRow (Blk.new w4 44 #[.int .i64 0, .string ⟨#[]⟩, .slice none 0 0, .int .i64 0, .bool false, .string ⟨#[]⟩, .string ⟨#[]⟩, .slice none 0 0, .slice none 0 0, .slice none 0 0, .slice none 0 0, .slice none 0 0, .string ⟨#[]⟩, .string ⟨#[]⟩, .bool false, .int .i64 0, .string ⟨#[]⟩]) (cellsSt st v)
    have HW9 := Lib.hid hw9
    have hal := (Below.refl w4.heap.size w4).alloc (Nat.le_refl _) (.cells #[.int .i64 0, .string ⟨#[]⟩, .slice none 0 0, .int .i64 0, .bool false, .string ⟨#[]⟩, .string ⟨#[]⟩, .slice none 0 0, .slice none 0 0, .slice none 0 0, .slice none 0 0, .slice none 0 0, .string ⟨#[]⟩, .string ⟨#[]⟩, .bool false, .int .i64 0, .string ⟨#[]⟩] 44)
    have HB9 := Lib.hid (bch0 HB4.out (hal.grown hg9 (by have := hal.size; omega) (by intro k hk; injection hk with hk; omega)))
    have H1 := Lib.hid (st_one ho)
    clear hw9 BX9 hg9 hal ho hb4
    go_wp2_with (first | ((with_reducible show wpList _ _ _ (Oper.mk _ (Op.store 44 _ _) _ _ _ _ :: _) _ _); refine wpList_store_row rfl 44 _ _ rfl w4.heap.size (cellsSt st v) rfl rfl 44 _ (Blk.new w4 44 #[.int .i64 0, .string ⟨#[]⟩, .slice none 0 0, .int .i64 0, .bool false, .string ⟨#[]⟩, .string ⟨#[]⟩, .slice none 0 0, .slice none 0 0, .slice none 0 0, .slice none 0 0, .slice none 0 0, .string ⟨#[]⟩, .string ⟨#[]⟩, .bool false, .int .i64 0, .string ⟨#[]⟩]) (by kernel_rfl) rfl (H1.out) ?_; rw [← HW9.out]))
    go_ret
    exact ⟨rfl, HB9.out⟩
end Go.Proofs.Ytfnceamkephpjaa.pg
