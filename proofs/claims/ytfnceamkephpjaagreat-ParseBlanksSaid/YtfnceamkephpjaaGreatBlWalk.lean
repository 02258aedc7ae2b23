/- ParseBlanks: the walk. Printed by genblw.py. -/
import Derived.Test.YtfnceamkephpjaaGreatSqlWalk
import Derived.Test.YtfnceamkephpjaaGreatSm
namespace Go.Proofs.YtfnceamkephpjaaGreat.pg
open Go.ChangeShapes Go.WideShapes Go.ChangeAt Go.RowKit Go.Proofs.YtfnceamkephpjaaGreat.lib Go.Proofs.YtfnceamkephpjaaGreat.lx
set_option linter.unusedVariables false

theorem wpList_load_rowg {P : Program} {ops : Array Oper} {rest : List Oper} {o : Oper} {a : Act} {w : World} {Q : Exit → Act → World → Prop} (hw : Region.wanted o (yielded ops a.tmps) = true) (ty : TypeId) (x : Operand) (ho : o.op = .load ty x)
    (g : Nat) (hx : a.eval x = .pointer (some ⟨g, 0, none⟩)) (t : TypeId) (cs : Array Value) (fr : Nat × Nat) (d : TypeDesc) (hg : w.heap[g]? = some (.cells cs t fr))
    (hu : P.underlying ty = some d) (hd : (match d with | .struct _ | .array _ _ => true | _ => false) = true) (hi : (P.info? ty).map (·.size) = some cs.size)
    (h : wpList P ops Q rest (a.put o.dst (.agg cs)) w) : wpList P ops Q (o :: rest) a w := by
  unfold wpList
  rw [if_pos hw]
  exact .inl (wp_load_row ty x ho g hx t cs fr d hg hu hd hi h)
theorem blk_idx {d : Nat} (hd : d < 4) : ∃ g : List UInt8, #[Value.string ⟨#[32, 32]⟩, Value.string ⟨#[9]⟩, Value.string ⟨#[10]⟩, Value.string ⟨#[32, 10, 32]⟩][d]? = some (.string ⟨g.toArray⟩) ∧ g ≠ [] ∧ g.length ≤ 3 ∧ ∀ c ∈ g, blankB c = true := by
  obtain rfl | rfl | rfl | rfl : d = 0 ∨ d = 1 ∨ d = 2 ∨ d = 3 := by omega
  · exact ⟨[32, 32], rfl, by decide, by decide, by decide⟩
  · exact ⟨[9], rfl, by decide, by decide, by decide⟩
  · exact ⟨[10], rfl, by decide, by decide, by decide⟩
  · exact ⟨[32, 10, 32], rfl, by decide, by decide, by decide⟩
set_option maxRecDepth 1000000 in
set_option maxHeartbeats 16000000 in
theorem blanks_walk (a b n : Int) (w : World) (ha : ok64 a) (hb : ok64 b) (hn : ok64 n) :
    Calls Tryz.prog 3 #[.int .i64 a, .int .i64 b, .int .i64 n] w fun e w' => e = .returned (.bool true) ∧ Below w.heap.size w w' := by
  have HSQ := Lib.hid (fun W => sql_ n a b W hn ha hb)
  have HW4 := Lib.hid (fun (i : Nat) W => within_ (wrap64 (a + (i : Int))) 4 W (by decide) (by decide) (by unfold ok64 wrap64; omega))
  clear ha hb hn
  go_enter Tryz.func3, Tryz.ntmps3
  go_wp2_with fail
  refine (known_ _).mono ?_
  rintro e w1 ⟨rfl, hb1⟩
  have HB1 := Lib.hid hb1
  clear hb1
  go_wp2_with fail
  refine (HSQ.out _).mono ?_
  rintro e w2 ⟨sn, sk, st', sx, sy, ss, hsn, hsk, hst, hsx, hsy, hss, rfl, hb2⟩
  have HB2 := Lib.hid (bch0 HB1.out hb2)
  obtain ⟨st, hread⟩ := sql_read hsn hsk hst hsx hsy hss
  have hbl := fun u => sql_len (n := sn) (k := sk) hst hsx hsy hss (u := u)
  obtain ⟨T, hT⟩ : ∃ T, sqlT sn sk st' sx sy ss = T := ⟨_, rfl⟩
  rw [hT] at hread hbl
  rw [hT]
  have HRD := Lib.hid hread
  have HBL := Lib.hid hbl
  have htl := hbl T (Bl.refl T)
  obtain ⟨tv, htv⟩ : ∃ r : ByteArray, r = ⟨T.toArray⟩ := ⟨_, rfl⟩
  rw [← htv]
  have HSV := Lib.hid (StrB.mk htv)
  have zs : tv.size ≤ 330 := by rw [HSV.out.size]; exact htl
  have HZS := Lib.hid HSV.out.size
  clear hb2 HSQ hread hbl hT htl htv hsn hsk hst hsx hsy hss
  --ONE
  go_wp2_with fail
  go_loopw [8, 9] (fun sv iv wr => ∃ (i : Nat) (u : ByteArray) (m : List UInt8), iv = .int .i64 i ∧ i ≤ tv.size ∧ sv = .string u ∧ Hid (IsT u m) ∧ Hid (Bl (T.take i) m) ∧ Hid (Below w2.heap.size w2 wr)) (fun _ iv _ => tv.size - (intOf iv).toNat)
  case atStart => exact ⟨0, _, [], rfl, by omega, rfl, Lib.hid (IsT.lit []), Lib.hid .nil, Lib.hid (Below.refl _ _)⟩
  case round =>
    obtain ⟨i, u, m, rfl, hi, rfl, HS, HBM, HB⟩ := hrel
    have zu : u.size ≤ 990 := by
      have h1 := Bl.app HBM.out (Bl.refl (T.drop i))
      rw [List.take_append_drop] at h1
      have h2 := HBL.out _ h1
      rw [List.length_append] at h2
      rw [HS.out.size]
      omega
    rcases Nat.lt_or_ge i tv.size with hlt | hge
    case inl =>
      have c1 : decide ((i : Int) < (tv.size : Int)) = true := by simp; omega
      have c1b : decide (i < tv.size) = true := by simp; omega
      have hil : i < T.length := by rw [← HZS.out]; exact hlt
      have hgt := HSV.out.get i hlt hil
      obtain ⟨c, hc⟩ : ∃ c, (tv[i]'hlt).toNat = c := ⟨_, rfl⟩
      have HC := Lib.hid (show T[i].toNat = c by rw [← hgt]; exact hc)
      have HTK := Lib.hid (show T.take (i + 1) = T.take i ++ [T[i]] by rw [List.take_add_one, List.getElem?_eq_getElem hil]; rfl)
      have HEX := Lib.hid (show IsT (tv.extract i (i + 1)) [T[i]] from ⟨by
        have he := HSV.out.eq
        rw [he]
        apply ByteArray.ext
        apply Array.ext'
        simp only [ByteArray.data_extract, Array.toList_extract, List.extract_eq_take_drop]
        rw [show i + 1 - i = 1 by omega, List.drop_eq_getElem_cons hil]
        rfl⟩)
      have ze : (u ++ tv.extract i (i + 1)).size ≤ 991 := by rw [ByteArray.size_append, HEX.out.size]; simp only [List.length_cons, List.length_nil]; omega
      clear hgt
      by_cases h32 : c = 32
      case pos =>
        have f32 : ((c : Int) == 32) = true := by subst h32; rfl
        have hTi : T[i] = 32 := UInt8.toNat_inj.1 (by rw [HC.out, h32]; rfl)
        obtain ⟨d, hd4, hda⟩ := mod_nat' (wrap64 (a + (i : Int))) 4 (by decide)
        have HWW := Lib.hid (fun W => HW4.out i W)
        replace HWW := HWW.out
        rw [show wrap64 (a + (i : Int)) % 4 = (d : Int) from hda] at HWW
        replace HWW := Lib.hid HWW
        obtain ⟨g, hg, hgn, hg3, hgb⟩ := blk_idx hd4
        have HG := Lib.hid hg
        have HBM2 := Lib.hid (show Bl (T.take (i + 1)) (m ++ g) from by rw [HTK.out, hTi]; exact HBM.out.app (Bl.blank hgn hg3 hgb))
        obtain ⟨gv, hgv⟩ : ∃ gv : ByteArray, (⟨g.toArray⟩ : ByteArray) = gv := ⟨_, rfl⟩
        have HGV := Lib.hid (show IsT gv g from ⟨hgv.symm⟩)
        have zg : gv.size ≤ 3 := by rw [HGV.out.size]; exact hg3
        have zz : (u ++ gv).size ≤ 993 := by rw [ByteArray.size_append]; omega
        have HS2 := Lib.hid (HS.out.app HGV.out rfl)
        have hdI : (d : Int) < 4 := by omega
        rw [hgv] at hg
        replace HG := Lib.hid hg
        clear h32 hTi hda hg hgn hg3 hgb hgv
        go_wp2_with fail
        obtain ⟨W3, hW_, hb3, B3⟩ : ∃ W_, W_ = (wr.alloc (.cells #[.string ⟨#[32, 32]⟩, .string ⟨#[9]⟩, .string ⟨#[10]⟩, .string ⟨#[32, 10, 32]⟩] 9)) ∧ Below wr.heap.size wr W_ ∧ Blk W_ (wr.heap.size) 9 #[.string ⟨#[32, 32]⟩, .string ⟨#[9]⟩, .string ⟨#[10]⟩, .string ⟨#[32, 10, 32]⟩] :=
          ⟨_, rfl, ((Below.refl _ _).alloc (Nat.le_refl _) _), (blk_new_at wr (wr.heap.size) _ _ (by simp))⟩
        rw [← hW_]
        clear hW_
        have hc4 : W3.cell? ⟨wr.heap.size, d, none⟩ = some (.string gv) := by rw [B3.cell]; exact HG.out
        have HB3 := Lib.hid (bch0 HB.out hb3)
        clear hb3 B3
        refine (HWW.out _).mono ?_
        rintro e w4 ⟨rfl, rfl⟩
        clear HWW
        go_wp2
        go_roundw
        case rel => exact ⟨i + 1, _, _, by go_num, by omega, by first | rfl | trivial, HS2, HBM2, HB3⟩
        case measure => simp [intOf]; omega
      have f32 : ((c : Int) == 32) = false := by simp; omega
      have HS2 := Lib.hid (HS.out.app HEX.out rfl)
      have HBM2 := Lib.hid (show Bl (T.take (i + 1)) (m ++ [T[i]]) from by rw [HTK.out]; exact HBM.out.app (Bl.one (fun e => h32 (by rw [← HC.out, e]; rfl))))
      clear h32
      go_wp2
      go_roundw
      case rel => exact ⟨i + 1, _, _, by go_num, by omega, by first | rfl | trivial, HS2, HBM2, HB⟩
      case measure => simp [intOf]; omega
    have c1 : decide ((i : Int) < (tv.size : Int)) = false := by simp; omega
    have c1b : decide (i < tv.size) = false := by simp; omega
    have ht : T.take i = T := List.take_of_length_le (by rw [← HZS.out]; exact hge)
    have hbm := HBM.out
    rw [ht] at hbm
    have HST := Lib.hid (fun W => Stmt_ T (by have := HBL.out T (Bl.refl T); omega) W)
    have HST2 := Lib.hid (fun W => Stmt_ m (by have := HBL.out m hbm; omega) W)
    replace HST := HST.out
    replace HST2 := HST2.out
    rw [HRD.out T (Bl.refl T), ← HSV.out.eq] at HST
    rw [HRD.out m hbm, ← HS.out.eq] at HST2
    replace HST := Lib.hid HST
    replace HST2 := Lib.hid HST2
    clear hbm ht HBM HS HRD HBL HSV HZS hge hi HW4
    --TWO
    go_wp2_with fail
    refine (HST.out _).mono ?_
    rintro e w4 ⟨v, rfl, ho, hb4⟩
    have HB4 := Lib.hid (bch0 HB.out hb4)
    simp only
    obtain ⟨w9, hw9, BX9, hg9⟩ := Blk.setRow (Blk.new w4 34 #[.int .i64 0, .string ⟨#[]⟩, .slice none 0 0, .int .i64 0, .bool false, .string ⟨#[]⟩, .string ⟨#[]⟩, .slice none 0 0, .slice none 0 0, .slice none 0 0, .slice none 0 0, .slice none 0 0, .string ⟨#[]⟩, .string ⟨#[]⟩, .bool false, .int .i64 0, .string ⟨#[]⟩]) (cellsSt st v)
    have HW9 := Lib.hid hw9
    have hal := (Below.refl w4.heap.size w4).alloc (Nat.le_refl _) (.cells #[.int .i64 0, .string ⟨#[]⟩, .slice none 0 0, .int .i64 0, .bool false, .string ⟨#[]⟩, .string ⟨#[]⟩, .slice none 0 0, .slice none 0 0, .slice none 0 0, .slice none 0 0, .slice none 0 0, .string ⟨#[]⟩, .string ⟨#[]⟩, .bool false, .int .i64 0, .string ⟨#[]⟩] 34)
    have hb9 := hal.grown hg9 (by have := hal.size; omega) (by intro k hk; injection hk with hk; omega)
    have HB9 := Lib.hid (bch0 HB4.out hb9)
    have H1 := Lib.hid (st_one ho)
    have HO9 := Lib.hid (ho.ext hb9)
    have HX9 := Lib.hid BX9
    have l9 := BX9.lt
    clear hw9 BX9 hg9 hal ho hb4 hb9
    go_wp2_with (first | ((with_reducible show wpList _ _ _ (Oper.mk _ (Op.store 34 _ _) _ _ _ _ :: _) _ _); refine wpList_store_row rfl 34 _ _ rfl w4.heap.size (cellsSt st v) rfl rfl 34 _ (Blk.new w4 34 #[.int .i64 0, .string ⟨#[]⟩, .slice none 0 0, .int .i64 0, .bool false, .string ⟨#[]⟩, .string ⟨#[]⟩, .slice none 0 0, .slice none 0 0, .slice none 0 0, .slice none 0 0, .slice none 0 0, .string ⟨#[]⟩, .string ⟨#[]⟩, .bool false, .int .i64 0, .string ⟨#[]⟩]) (by kernel_rfl) rfl (H1.out) ?_; rw [← HW9.out]))
    refine (HST2.out _).mono ?_
    rintro e w5 ⟨v2, rfl, ho, hb5⟩
    have HB5 := Lib.hid (bch0 HB9.out hb5)
    have HO5 := Lib.hid (HO9.out.ext hb5)
    have HX5 := Lib.hid (HX9.out.ext hb5)
    simp only
    obtain ⟨w6, hw6, BX6, hg6⟩ := Blk.setRow (Blk.new w5 34 #[.int .i64 0, .string ⟨#[]⟩, .slice none 0 0, .int .i64 0, .bool false, .string ⟨#[]⟩, .string ⟨#[]⟩, .slice none 0 0, .slice none 0 0, .slice none 0 0, .slice none 0 0, .slice none 0 0, .string ⟨#[]⟩, .string ⟨#[]⟩, .bool false, .int .i64 0, .string ⟨#[]⟩]) (cellsSt st v2)
    have HW6 := Lib.hid hw6
    have hal := (Below.refl w5.heap.size w5).alloc (Nat.le_refl _) (.cells #[.int .i64 0, .string ⟨#[]⟩, .slice none 0 0, .int .i64 0, .bool false, .string ⟨#[]⟩, .string ⟨#[]⟩, .slice none 0 0, .slice none 0 0, .slice none 0 0, .slice none 0 0, .slice none 0 0, .string ⟨#[]⟩, .string ⟨#[]⟩, .bool false, .int .i64 0, .string ⟨#[]⟩] 34)
    have hb6 := hal.grown hg6 (by have := hal.size; omega) (by intro k hk; injection hk with hk; omega)
    have HB6 := Lib.hid (bch0 HB5.out hb6)
    have H2 := Lib.hid (st_one ho)
    have HO6 := Lib.hid (ho.ext hb6)
    have HO6' := Lib.hid (HO5.out.ext hb6)
    have HX6 := Lib.hid BX6
    have HX6' := Lib.hid (HX5.out.ext hb6)
    clear hw6 BX6 hg6 hal ho hb5 hb6 HO5 HX5 HO9 HX9
    --THREE
    go_wp2_with (first | ((with_reducible show wpList _ _ _ (Oper.mk _ (Op.store 34 _ _) _ _ _ _ :: _) _ _); refine wpList_store_row rfl 34 _ _ rfl w5.heap.size (cellsSt st v2) rfl rfl 34 _ (Blk.new w5 34 #[.int .i64 0, .string ⟨#[]⟩, .slice none 0 0, .int .i64 0, .bool false, .string ⟨#[]⟩, .string ⟨#[]⟩, .slice none 0 0, .slice none 0 0, .slice none 0 0, .slice none 0 0, .slice none 0 0, .string ⟨#[]⟩, .string ⟨#[]⟩, .bool false, .int .i64 0, .string ⟨#[]⟩]) (by kernel_rfl) rfl (H2.out) ?_; rw [← HW6.out]) | ((with_reducible show wpList _ _ _ (Oper.mk _ (Op.load 34 _) _ _ _ _ :: _) _ _); refine wpList_load_rowg (wanted_yes rfl rfl rfl) 34 _ rfl w4.heap.size rfl 34 (cellsSt st v) (0, 0) _ HX6'.out Tryz.underlying34 rfl (by kernel_rfl) ?_) | ((with_reducible show wpList _ _ _ (Oper.mk _ (Op.load 34 _) _ _ _ _ :: _) _ _); refine wpList_load_rowg (wanted_yes rfl rfl rfl) 34 _ rfl w5.heap.size rfl 34 (cellsSt st v2) (0, 0) _ HX6.out Tryz.underlying34 rfl (by kernel_rfl) ?_))
    refine (same_ st v v2 _ HO6'.out HO6.out).mono ?_
    rintro e w7 ⟨rfl, hb7⟩
    have HBZ := Lib.hid (bch0 HB2.out (bch0 HB6.out hb7))
    go_wp2
    go_ret
    exact ⟨rfl, HBZ.out⟩
end Go.Proofs.YtfnceamkephpjaaGreat.pg
