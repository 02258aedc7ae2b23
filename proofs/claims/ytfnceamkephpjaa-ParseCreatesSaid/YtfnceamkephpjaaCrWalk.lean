/- ParseCreates: the walk. Printed by gencrw.py. -/
import Derived.Test.YtfnceamkephpjaaCrPlain
import Derived.Test.YtfnceamkephpjaaR1
import Derived.Test.YtfnceamkephpjaaManyWalk
import Derived.Test.YtfnceamkephpjaaOpen
import Derived.Lib.MinMax
namespace Go.Proofs.Ytfnceamkephpjaa.pg
open Go.ChangeShapes Go.WideShapes Go.ChangeAt Go.RowKit Go.Proofs.Ytfnceamkephpjaa.lib Go.Proofs.Ytfnceamkephpjaa.lx
set_option linter.unusedVariables false


instance : Inhabited Cl := ⟨⟨[], 0, false⟩⟩
theorem cellsCol : Try.prog.cellsOf 38 = 3 := by kernel_rfl
theorem cellsInt : Try.prog.cellsOf 3 = 1 := by kernel_rfl
theorem cellsBool : Try.prog.cellsOf 4 = 1 := by kernel_rfl
theorem cellsStr : Try.prog.cellsOf 9 = 1 := by kernel_rfl
section
open Go.Joins Go.Deep
variable {H : Type} {enc : TypeId × Value → H} {W : World} {spare : Nat → Bool} {held : Bool}
theorem decC (n : Nat) (cs : List Value) (D : DataW H × List MemPlace) (hl : cs.length = 3) (h : DataW.trod enc Try.prog W 0 spare held n 38 cs = some D) : ∃ x, cs = encC x ∧ ok64 x.k := by
  obtain ⟨y0, y1, y2, m, _, hcl, g0, g1, g2⟩ := trod_struct3 Try.underlying38 h
  obtain ⟨v0, v1, v2, rfl⟩ := list3 hl
  simp only [cellsInt, cellsBool, cellsStr] at g0 g1 g2
  obtain ⟨z0, e0, _, h0⟩ := DataW.trod_string Try.underlying9 g0
  obtain ⟨z1, e1, _, h1⟩ := DataW.trod_int Try.underlying3 g1
  obtain ⟨z2, e2, _⟩ := DataW.trod_bool Try.underlying4 g2
  simp at e0 e1 e2
  subst e0 e1 e2
  exact ⟨⟨z0.data.toList, z1, z2⟩, rfl, bd64 h1⟩
set_option maxRecDepth 100000 in
theorem cols_row {v : Value} {d : DataW H} {p : List MemPlace} {base : Nat} (hval : Value.okWide Try.prog W .any base 34 v) (h : DataW.Trod enc Try.prog W 0 spare held 34 v d p) :
    ∃ A n c l, v = .slice A n c ∧ Row W 0 A n c (flatK encC l) ∧ l.length = n ∧ n ≤ maxLen ∧ ∀ x ∈ l, ok64 x.k := by
  obtain ⟨a, len, cap, rfl⟩ := okWide_slice Try.underlying34 hval
  obtain ⟨fuel, hf⟩ := h
  obtain ⟨A, n, c, l, e1, hl, hc, hnc, hr, hp⟩ := open_row (α := Cl) Try.underlying34 3 cellsCol (by decide) encC (fun x => ok64 x.k) kC decC hf
  simp [Value.cells] at e1
  obtain ⟨rfl, rfl, rfl⟩ := e1
  exact ⟨a, len, cap, l, rfl, hr, hl, Nat.le_trans hnc hc, hp⟩
end
/-- the columns as they are typed -/
def kcOf (x : Cl) : KC := ⟨(x.k % 3).toNat, x.nul⟩
def kcs (l : List Cl) (N : Nat) : List KC := (l.take N).map kcOf
theorem kcs_kinds (l : List Cl) (N : Nat) : Kinds (kcs l N) := by
  intro c hc
  simp only [kcs, List.mem_map] at hc
  obtain ⟨x, _, rfl⟩ := hc
  simp only [kcOf]
  omega
theorem kcs_len (l : List Cl) (N : Nat) (h : N ≤ l.length) : (kcs l N).length = N := by simp [kcs]; omega
theorem colsT_snoc : ∀ (L : List KC) (i : Nat) (c : KC), colsT i (L ++ [c]) = colsT i L ++ (colT (i + L.length) c ++ [32])
  | [], i, c => by simp [colsT]
  | x :: L, i, c => by
    have := colsT_snoc L (i + 1) c
    simp only [List.cons_append, colsT, this, List.length_cons]
    rw [show i + 1 + L.length = i + (L.length + 1) by omega]
    simp
theorem clsOf_at : ∀ (L : List KC) (i k : Nat) (c : KC), L[k]? = some c → (clsOf i L)[k]? = some (clOf (i + k) c)
  | [], i, k, c, h => by cases h
  | x :: L, i, 0, c, h => by injection h with h; subst h; rfl
  | x :: L, i, k + 1, c, h => by
    have := clsOf_at L (i + 1) k c h
    rw [show i + 1 + k = i + (k + 1) by omega] at this
    exact this
theorem clsOf_len : ∀ (L : List KC) (i : Nat), (clsOf i L).length = L.length
  | [], i => rfl
  | x :: L, i => by simp [clsOf, clsOf_len L (i + 1)]
/-- one column more -/
theorem kcs_up (only : Bool) (l : List Cl) (j : Nat) (x : Cl) (hx : l[j]? = some x) (hj : j < 10) :
    preT only ++ colsT 0 (kcs l j) ++ [99] ++ digs j ++ [32] ++ kindT (x.k % 3).toNat ++ nulT x.nul ++ [44, 32] = preT only ++ colsT 0 (kcs l (j + 1)) := by
  have hjl := (List.getElem?_eq_some_iff.1 hx).1
  have e : kcs l (j + 1) = kcs l j ++ [kcOf x] := by
    unfold kcs
    rw [List.take_add_one, hx, List.map_append]
    rfl
  rw [e, colsT_snoc, kcs_len l j (by omega), digs_small j hj]
  simp [colT, colNm, kcOf]
theorem pre_col_len (only : Bool) (l : List Cl) (j : Nat) (hj : j ≤ 8) : (preT only ++ colsT 0 (kcs l j)).length ≤ 134 := by
  have h1 := preT_len only
  have h2 := colsT_len (kcs l j) 0
  have h3 : (kcs l j).length ≤ j := by simp [kcs]; omega
  simp only [List.length_append]
  omega
theorem kind_idx (k : Nat) (hk : k < 3) : #[Value.string ⟨#[98, 111, 111, 108]⟩, .string ⟨#[105, 110, 116]⟩, .string ⟨#[116, 101, 120, 116]⟩][k]? = some (.string ⟨(kindT k).toArray⟩) := by
  have : k = 0 ∨ k = 1 ∨ k = 2 := by omega
  rcases this with rfl | rfl | rfl <;> rfl
set_option maxRecDepth 1000000 in
set_option maxHeartbeats 16000000 in
theorem cr_walk (A : Option Addr) (n c : Nat) (l : List Cl) (key : Int) (only miss : Bool) (w : World) (hr : Row w 0 A n c (flatK encC l)) (hl : l.length = n) (hn : n ≤ maxLen) (hk : ∀ x ∈ l, ok64 x.k) (hkey : ok64 key) :
    Calls Try.prog 4 #[.slice A n c, .int .i64 key, .bool only, .bool miss] w fun e w' => e = .returned (.bool true) ∧ Below w.heap.size w w' := by
  obtain ⟨N, hN, hN8, hNn, hNm⟩ : ∃ N : Nat, min (n : Int) 8 = (N : Int) ∧ N ≤ 8 ∧ N ≤ n ∧ (N = 0 → n = 0) := ⟨min n 8, by omega, by omega, by omega, by omega⟩
  unfold maxLen at hn
  have HRW := Lib.hid hr
  have HK := Lib.hid hk
  have HKEY := Lib.hid hkey
  have HL := Lib.hid hl
  clear hr hk hkey hl
  go_enter Try.func4, Try.ntmps4
  go_wp2_with fail
  refine (known_ _).mono ?_
  rintro e w1 ⟨rfl, hb1⟩
  have HB1 := Lib.hid hb1
  have HR1 := Lib.hid (HRW.out.ext hb1)
  clear hb1 HRW
  rcases Nat.eq_zero_or_pos N with h0 | h0
  case inl =>
    subst h0
    go_wp2_with fail
    go_ret
    exact ⟨rfl, HB1.out⟩
  have c0 : ((N : Int) == 0) = false := by simp; omega
  go_upto_if 25 with fail
  clear c0 hN hNm
  go_cut [10] from 25 to 27 (fun s wx => ∃ t : ByteArray, s = .string t ∧ IsT t (if only then [99, 114, 101, 97, 116, 101, 32, 111, 110, 108, 121, 32] else [99, 114, 101, 97, 116, 101, 32]) ∧ w1 = wx)
  case first =>
    cases only with
    | false =>
      go_wp2_with fail
      go_meet
      exact ⟨_, rfl, ⟨rfl⟩, rfl⟩
    | true =>
      go_wp2_with fail
      go_meet
      exact ⟨_, rfl, ⟨rfl⟩, rfl⟩
  obtain ⟨u0, rfl, h_, rfl⟩ := hcut
  have z0 : u0.size ≤ 12 := by rw [h_.size]; cases only <;> decide
  have zz0 : (u0 ++ (⟨#[116, 97, 98, 108, 101, 32, 116, 116, 32, 40]⟩ : ByteArray)).size ≤ 22 := by rw [ByteArray.size_append, show (⟨#[116, 97, 98, 108, 101, 32, 116, 116, 32, 40]⟩ : ByteArray).size = 10 from rfl]; omega
  have HU := Lib.hid (show IsT (u0 ++ (⟨#[116, 97, 98, 108, 101, 32, 116, 116, 32, 40]⟩ : ByteArray)) (preT only ++ colsT 0 (kcs l 0)) from h_.app (IsT.lit [116, 97, 98, 108, 101, 32, 116, 116, 32, 40]) (by cases only <;> rfl))
  clear h_
  go_upto_region 10 with fail
  obtain ⟨u1, hu1⟩ : ∃ u, u0 ++ (⟨#[116, 97, 98, 108, 101, 32, 116, 116, 32, 40]⟩ : ByteArray) = u := ⟨_, rfl⟩
  rw [hu1] at HU ⊢
  clear hu1 zz0 z0
  --ONE
  go_wp2_with fail
  go_loopw [10, 11] (fun sv iv wr => ∃ (j : Nat) (s : ByteArray), iv = .int .i64 j ∧ j ≤ N ∧ sv = .string s ∧ Hid (IsT s (preT only ++ colsT 0 (kcs l j))) ∧ Hid (Below w1.heap.size w1 wr)) (fun _ iv _ => N - (intOf iv).toNat)
  case atStart => exact ⟨0, u1, rfl, by omega, rfl, HU, Lib.hid (Below.refl _ _)⟩
  case round =>
    obtain ⟨j, s, rfl, hjn, rfl, HS, HBR⟩ := hrel
    have z1 : s.size ≤ 134 := by have := pre_col_len only l j (by omega); rw [HS.out.size]; omega
    rcases Nat.lt_or_ge j N with hlt | hge
    case inl =>
      have c1 : decide ((j : Int) < (N : Int)) = true := by simp; omega
      have c2 : decide ((j : Int) < (n : Int)) = true := by simp; omega
      have c3 : (j : Int) < (n : Int) := by omega
      obtain ⟨x, hx⟩ : ∃ x, l[j]? = some x := ⟨_, List.getElem?_eq_getElem (by have := HL.out; omega)⟩
      have HX := Lib.hid hx
      have hxk := HK.out x (List.mem_of_getElem? hx)
      have HXK := Lib.hid hxk
      obtain ⟨b, off, rfl, _, _, hblt⟩ := HR1.out.some_ (by omega)
      have hq1 := HR1.out.at_ (flatK_at encC 3 kC l j x 1 _ hx rfl)
      have hq2 := HR1.out.at_ (flatK_at encC 3 kC l j x 2 _ hx rfl)
      rw [← Nat.add_assoc] at hq1 hq2
      obtain ⟨x0, x1, x2⟩ := x
      simp only at hq1 hq2 hxk
      have D := fun w' (h : Below wr.heap.size wr.drew w') => (show w'.cell? ⟨b, off + j * 3 + 1, none⟩ = some (.int .i64 x1) from ((Below.trans HBR.out (Below.mono (Below.trans (Below.refl _ _).drew h) HBR.out.size)).cell (by simpa using hblt)).trans hq1)
      have zd : (⟨(digs j).toArray⟩ : ByteArray).size ≤ 19 := by rw [size_mk]; exact digs_19 j (by omega)
      have HD := Lib.hid (fun W => rdigits_ j W (by omega))
      obtain ⟨d, hd⟩ : ∃ d : ByteArray, (⟨(digs j).toArray⟩ : ByteArray) = d := ⟨_, rfl⟩
      have HTD : Hid (IsT d (digs j)) := Lib.hid ⟨hd.symm⟩
      replace HD := HD.out
      rw [hd] at HD zd
      replace HD := Lib.hid HD
      obtain ⟨k, hk3, hkk⟩ := mod_nat x1 3 (by decide)
      have HW3 := Lib.hid (fun W => within_ x1 3 W (by decide) (by decide) hxk)
      replace HW3 := HW3.out
      rw [show x1 % 3 = (k : Int) from hkk] at HW3
      replace HW3 := Lib.hid HW3
      obtain ⟨kt, hkt⟩ : ∃ kt : ByteArray, (⟨(kindT k).toArray⟩ : ByteArray) = kt := ⟨_, rfl⟩
      have HKT : Hid (IsT kt (kindT k)) := Lib.hid ⟨hkt.symm⟩
      have hki := kind_idx k hk3
      rw [hkt] at hki
      have HKI := Lib.hid hki
      have zk : kt.size ≤ 4 := by rw [HKT.out.size]; exact kindT_len k
      have y1 : (s ++ (⟨#[99]⟩ : ByteArray)).size ≤ 135 := by rw [ByteArray.size_append, show (⟨#[99]⟩ : ByteArray).size = 1 from rfl]; omega
      have y2 : (s ++ (⟨#[99]⟩ : ByteArray) ++ d).size ≤ 154 := by rw [ByteArray.size_append]; omega
      have y3 : (s ++ (⟨#[99]⟩ : ByteArray) ++ d ++ (⟨#[32]⟩ : ByteArray)).size ≤ 155 := by rw [ByteArray.size_append, show (⟨#[32]⟩ : ByteArray).size = 1 from rfl]; omega
      have y4 : (s ++ (⟨#[99]⟩ : ByteArray) ++ d ++ (⟨#[32]⟩ : ByteArray) ++ kt).size ≤ 159 := by rw [ByteArray.size_append]; omega
      have sz1 : ¬ 9223372036854775807 < s.size + 1 := by omega
      have sz2 : ¬ 9223372036854775807 < s.size + 1 + d.size := by omega
      have sz3 : ¬ 9223372036854775807 < s.size + 1 + d.size + 1 := by omega
      have sz4 : ¬ 9223372036854775807 < s.size + 1 + d.size + 1 + kt.size := by omega
      have HKK := Lib.hid hkk
      have HUP := Lib.hid (kcs_up only l j ⟨x0, x1, x2⟩ hx (by omega))
      have HQ2 := Lib.hid hq2
      have hkI : decide ((k : Int) < 3) = true := by simp; omega
      have hkI2 : (k : Int) < 3 := by omega
      clear hkt hd hki hq1 hq2 hx hxk hkk HX HXK
      --TWO
      go_upto_region 13 with fail
      refine wp_region_mix1 ⟨6, 41, fun g => .slice (some ⟨g, 0, none⟩) 3 3, .cells #[.string ⟨#[98, 111, 111, 108]⟩, .string ⟨#[105, 110, 116]⟩, .string ⟨#[116, 101, 120, 116]⟩] 9⟩
        [(0, true), (1, true), (2, true), (7, true), (8, true), (9, true), (10, true), (11, true)] [(3, false), (4, true), (5, true), (12, false)] [(13, true), (14, false), (15, true), (16, true)] (by kernel_rfl) (by kernel_rfl) ?_
      repeat ((with_reducible show wpI _ _ _ _ _ ((_, true) :: _) _ _); (first | (refine wpI_on (v := ?_) rfl rfl (wanted_free rfl) (fun w' hS => ?_) ?_; rotate_left; (focus (go_simp; (try with_reducible rfl); done)); try simp only [List.setIfInBounds_toArray, List.set_cons_zero, List.set_cons_succ]) | (refine wpI_on (v := ?_) rfl rfl (wanted_yes rfl rfl rfl) (fun w' hS => ?_) ?_; rotate_left; (focus (go_simp; (try with_reducible rfl); done)); try simp only [List.setIfInBounds_toArray, List.set_cons_zero, List.set_cons_succ]) | (refine wpI_off rfl rfl (wanted_no rfl rfl rfl) ?_; try simp only [List.setIfInBounds_toArray, List.set_cons_zero, List.set_cons_succ]) | (refine wpI_off rfl rfl (wanted_undef rfl rfl rfl) ?_; try simp only [List.setIfInBounds_toArray, List.set_cons_zero, List.set_cons_succ])))
      --T1
      refine wpI_done ⟨?_, ?_⟩
      · intro t ht
        simp only [List.mem_cons, List.not_mem_nil, or_false] at ht
        subst ht
        exact ⟨_, rfl, rfl, wanted_free rfl, fun w => by go_simp⟩
      refine wpI_do rfl (wanted_free rfl) (fun wI hI hSI K hK => ?_); go_simp
      refine (HD.out _).mono ?_
      rintro e w3 ⟨rfl, hb3⟩
      refine hK.out _ _ hb3 ?_
      have hI3 := Below.trans (Below.trans (Below.refl wr.heap.size wr).drew (Below.mono hI (Below.refl wr.heap.size wr).drew.size)) (Below.mono hb3 (Below.trans (Below.refl wr.heap.size wr).drew (Below.mono hI (Below.refl wr.heap.size wr).drew.size)).size)
      clear hK K hI hSI hb3
      repeat ((with_reducible show wpI _ _ _ _ _ ((_, true) :: _) _ _); (first | (refine wpI_on (v := ?_) rfl rfl (wanted_free rfl) (fun w' hS => ?_) ?_; rotate_left; (focus (go_simp; (try with_reducible rfl); done)); try simp only [List.setIfInBounds_toArray, List.set_cons_zero, List.set_cons_succ]) | (refine wpI_on (v := ?_) rfl rfl (wanted_yes rfl rfl rfl) (fun w' hS => ?_) ?_; rotate_left; (focus (go_simp; (try with_reducible rfl); done)); try simp only [List.setIfInBounds_toArray, List.set_cons_zero, List.set_cons_succ]) | (refine wpI_off rfl rfl (wanted_no rfl rfl rfl) ?_; try simp only [List.setIfInBounds_toArray, List.set_cons_zero, List.set_cons_succ]) | (refine wpI_off rfl rfl (wanted_undef rfl rfl rfl) ?_; try simp only [List.setIfInBounds_toArray, List.set_cons_zero, List.set_cons_succ])))
      --THREE
      refine wpI_do rfl (wanted_free rfl) (fun wI hI hSI K hK => ?_); go_simp
      refine (HW3.out _).mono ?_
      rintro e w4 ⟨rfl, rfl⟩
      refine hK.out _ _ (Below.refl _ _) ?_
      have hI4 := Below.trans hI3 (Below.mono hI hI3.size)
      clear hK K hI hSI hI3
      refine wpI_done ?_
      intro g1 wf he hS hlo1 hhi1 hat1
      try simp only [List.setIfInBounds_toArray, List.set_cons_zero, List.set_cons_succ]
      have hI5 := Below.trans hI4 (Below.mono he hI4.size)
      have hC : wf.cell? ⟨g1, k, none⟩ = some (.string kt) := by
        rw [(show Blk wf g1 9 #[.string ⟨#[98, 111, 111, 108]⟩, .string ⟨#[105, 110, 116]⟩, .string ⟨#[116, 101, 120, 116]⟩] from hat1).cell k]
        exact HKI.out
      clear he hat1 hI4 hlo1
      go_frame
      repeat ((with_reducible show wpPerm _ _ _ _ ((_, true) :: _) _ _); (first | (refine wpPerm_on (v := ?_) rfl rfl (wanted_free rfl) (fun w' hS => ?_) ?_; rotate_left; (focus (go_simp; (try with_reducible rfl); done)); try simp only [List.setIfInBounds_toArray, List.set_cons_zero, List.set_cons_succ]) | (refine wpPerm_on (v := ?_) rfl rfl (wanted_yes rfl rfl rfl) (fun w' hS => ?_) ?_; rotate_left; (focus (go_simp; (try with_reducible rfl); done)); try simp only [List.setIfInBounds_toArray, List.set_cons_zero, List.set_cons_succ]) | (refine wpPerm_off rfl rfl (wanted_no rfl rfl rfl) ?_; try simp only [List.setIfInBounds_toArray, List.set_cons_zero, List.set_cons_succ]) | (refine wpPerm_off rfl rfl (wanted_undef rfl rfl rfl) ?_; try simp only [List.setIfInBounds_toArray, List.set_cons_zero, List.set_cons_succ])))
      refine wpPerm_do rfl (wanted_free rfl) (fun K hK => ?_); go_simp
      refine hK.out _ _ hS ?_
      clear hK K hC hS
      repeat ((with_reducible show wpPerm _ _ _ _ ((_, true) :: _) _ _); (first | (refine wpPerm_on (v := ?_) rfl rfl (wanted_free rfl) (fun w' hS => ?_) ?_; rotate_left; (focus (go_simp; (try with_reducible rfl); done)); try simp only [List.setIfInBounds_toArray, List.set_cons_zero, List.set_cons_succ]) | (refine wpPerm_on (v := ?_) rfl rfl (wanted_yes rfl rfl rfl) (fun w' hS => ?_) ?_; rotate_left; (focus (go_simp; (try with_reducible rfl); done)); try simp only [List.setIfInBounds_toArray, List.set_cons_zero, List.set_cons_succ]) | (refine wpPerm_off rfl rfl (wanted_no rfl rfl rfl) ?_; try simp only [List.setIfInBounds_toArray, List.set_cons_zero, List.set_cons_succ]) | (refine wpPerm_off rfl rfl (wanted_undef rfl rfl rfl) ?_; try simp only [List.setIfInBounds_toArray, List.set_cons_zero, List.set_cons_succ])))
      refine wpPerm_done ?_
      --FOUR
      have hq2 : wf.cell? ⟨b, off + j * 3 + 2, none⟩ = some (.bool x2) := ((Below.trans HBR.out (Below.mono hI5 HBR.out.size)).cell (by simpa using hblt)).trans HQ2.out
      have HB5 := Lib.hid (Below.trans HBR.out (Below.mono hI5 HBR.out.size))
      have T0 := Lib.hid ((((HS.out.app (IsT.lit [99]) rfl).app HTD.out rfl).app (IsT.lit [32]) rfl).app HKT.out rfl)
      obtain ⟨u, hu⟩ : ∃ u : ByteArray, s ++ (⟨#[99]⟩ : ByteArray) ++ d ++ (⟨#[32]⟩ : ByteArray) ++ kt = u := ⟨_, rfl⟩
      replace T0 := T0.out
      replace HUP := HUP.out
      simp only at HUP
      rw [show (x1 % 3).toNat = k by have h : x1 % 3 = (k : Int) := HKK.out; rw [h]; simp] at HUP
      have zu : u.size ≤ 159 := by rw [← hu]; omega
      have T1 := Lib.hid (show IsT u (preT only ++ colsT 0 (kcs l j) ++ [99] ++ digs j ++ [32] ++ kindT k) from by rw [← hu]; exact T0)
      replace HUP := Lib.hid HUP
      rw [hu]
      clear hu T0 y1 y2 y3 y4 sz1 sz2 sz3 sz4 HS HTD HKT HKI HD HW3 HKK D z1 hkI hkI2
      have y1 : (u ++ (⟨#[44, 32]⟩ : ByteArray)).size ≤ 161 := by rw [ByteArray.size_append, show (⟨#[44, 32]⟩ : ByteArray).size = 2 from rfl]; omega
      have y2 : (u ++ (⟨#[32, 110, 117, 108, 108]⟩ : ByteArray)).size ≤ 164 := by rw [ByteArray.size_append, show (⟨#[32, 110, 117, 108, 108]⟩ : ByteArray).size = 5 from rfl]; omega
      have y3 : (u ++ (⟨#[32, 110, 117, 108, 108]⟩ : ByteArray) ++ (⟨#[44, 32]⟩ : ByteArray)).size ≤ 166 := by rw [ByteArray.size_append, show (⟨#[44, 32]⟩ : ByteArray).size = 2 from rfl]; omega
      --FIVE
      cases x2 with
      | false =>
        have HS2 := Lib.hid (show IsT (u ++ (⟨#[44, 32]⟩ : ByteArray)) (preT only ++ colsT 0 (kcs l (j + 1))) from T1.out.app (IsT.lit [44, 32]) (by have := HUP.out; simpa [nulT] using this))
        clear T1 HUP
        go_wp2
        go_roundw
        case rel => exact ⟨j + 1, _, by go_num, by omega, by first | rfl | trivial, HS2, HB5⟩
        case measure => simp [intOf]; omega
      | true =>
        have HS2 := Lib.hid (show IsT (u ++ (⟨#[32, 110, 117, 108, 108]⟩ : ByteArray) ++ (⟨#[44, 32]⟩ : ByteArray)) (preT only ++ colsT 0 (kcs l (j + 1))) from (T1.out.app (IsT.lit [32, 110, 117, 108, 108]) rfl).app (IsT.lit [44, 32]) (by have := HUP.out; simpa [nulT] using this))
        clear T1 HUP
        go_wp2
        go_roundw
        case rel => exact ⟨j + 1, _, by go_num, by omega, by first | rfl | trivial, HS2, HB5⟩
        case measure => simp [intOf]; omega
    --SIX
    have c1 : decide ((j : Int) < (N : Int)) = false := by simp; omega
    obtain rfl : j = N := by omega
    obtain ⟨k, hkj, hkk⟩ := mod_nat key j (by omega)
    have HKW := Lib.hid (fun W => within_ key j W (by omega) (by omega) HKEY.out)
    replace HKW := HKW.out
    rw [hkk] at HKW
    replace HKW := Lib.hid HKW
    have HDK := Lib.hid (fun W => rdigits_ k W (by omega))
    have zd : (⟨(digs k).toArray⟩ : ByteArray).size ≤ 19 := by rw [size_mk]; exact digs_19 k (by omega)
    obtain ⟨d, hd⟩ : ∃ d : ByteArray, (⟨(digs k).toArray⟩ : ByteArray) = d := ⟨_, rfl⟩
    replace HDK := HDK.out
    rw [hd] at HDK zd
    replace HDK := Lib.hid HDK
    have HTD := Lib.hid (show IsT ((⟨#[99]⟩ : ByteArray) ++ d) (colNm k) from (IsT.lit [99]).app ⟨hd.symm⟩ (by rw [digs_small k (by omega)]; rfl))
    have zc : ((⟨#[99]⟩ : ByteArray) ++ d).size ≤ 20 := by rw [ByteArray.size_append, show (⟨#[99]⟩ : ByteArray).size = 1 from rfl]; omega
    clear hd hkk HKEY
    go_wp2_with fail
    refine (HKW.out _).mono ?_
    rintro e w2 ⟨rfl, rfl⟩
    go_wp2_with fail
    refine (HDK.out _).mono ?_
    rintro e w3 ⟨rfl, hb3⟩
    have HB3 := Lib.hid (Below.trans HBR.out (Below.mono hb3 HBR.out.size))
    clear hb3 HBR
    go_upto_if 66 with fail
    go_cut [13] from 66 to 66 (fun s wx => ∃ t : ByteArray, s = .string t ∧ IsT t (if miss then [122, 122] else colNm k) ∧ w3 = wx)
    case first =>
      cases miss with
      | false =>
        go_wp2_with fail
        go_meet
        exact ⟨_, rfl, HTD.out, rfl⟩
      | true =>
        go_wp2_with fail
        go_meet
        exact ⟨_, rfl, ⟨rfl⟩, rfl⟩
    obtain ⟨nm, rfl, h_, rfl⟩ := hcut
    have hnl : (if miss then [122, 122] else colNm k).length = 2 := by cases miss <;> rfl
    have zn : nm.size = 2 := by rw [h_.size, hnl]
    have HNM := Lib.hid h_
    have g1 : (s ++ (⟨#[112, 114, 105, 109, 97, 114, 121, 32, 107, 101, 121, 32, 40]⟩ : ByteArray)).size ≤ 147 := by rw [ByteArray.size_append, show (⟨#[112, 114, 105, 109, 97, 114, 121, 32, 107, 101, 121, 32, 40]⟩ : ByteArray).size = 13 from rfl]; omega
    have g2 : (s ++ (⟨#[112, 114, 105, 109, 97, 114, 121, 32, 107, 101, 121, 32, 40]⟩ : ByteArray) ++ nm).size ≤ 149 := by rw [ByteArray.size_append]; omega
    have g3 : (s ++ (⟨#[112, 114, 105, 109, 97, 114, 121, 32, 107, 101, 121, 32, 40]⟩ : ByteArray) ++ nm ++ (⟨#[41, 41]⟩ : ByteArray)).size ≤ 151 := by rw [ByteArray.size_append, show (⟨#[41, 41]⟩ : ByteArray).size = 2 from rfl]; omega
    have HT := Lib.hid (show IsT (s ++ (⟨#[112, 114, 105, 109, 97, 114, 121, 32, 107, 101, 121, 32, 40]⟩ : ByteArray) ++ nm ++ (⟨#[41, 41]⟩ : ByteArray)) (crText only (kcs l j) (if miss then [122, 122] else colNm k)) from ((HS.out.app (IsT.lit [112, 114, 105, 109, 97, 114, 121, 32, 107, 101, 121, 32, 40]) rfl).app HNM.out rfl).app (IsT.lit [41, 41]) (by simp [crText, keyT]))
    have hst : stmtL (crText only (kcs l j) (if miss then [122, 122] else colNm k)) = if 6 < j then (4, St0) else if miss then (2, St0) else (0, crSt only (clsOf 0 (kcs l j)) k) := by
      have h1 := kcs_len l j (by have := HL.out; omega)
      cases miss with
      | false =>
        have := create_key only (kcs l j) k (by omega) (by omega) (kcs_kinds l j)
        rw [h1] at this
        exact this
      | true =>
        have := create_miss only (kcs l j) (by omega) (by omega) (kcs_kinds l j)
        rw [h1] at this
        exact this
    obtain ⟨R, hR⟩ : ∃ R : Int × St, (if 6 < j then ((4 : Int), St0) else if miss then (2, St0) else (0, crSt only (clsOf 0 (kcs l j)) k)) = R := ⟨_, rfl⟩
    have HST := Lib.hid (Stmt_ (crText only (kcs l j) (if miss then [122, 122] else colNm k)) (by have := crText_len only (kcs l j) (if miss then [122, 122] else colNm k) (by rw [kcs_len l j (by have := HL.out; omega)]; omega) (by omega); omega) w3)
    replace HST := HST.out
    rw [hst, hR, ← HT.out.eq] at HST
    replace HST := Lib.hid HST
    have HRR := Lib.hid hR
    obtain ⟨er, st⟩ := R
    clear hst hR h_ HNM HT HS hnl HTD HDK HKW
    --SEVEN
    go_wp2_with fail
    refine (HST.out).mono ?_
    rintro e w4 ⟨v, rfl, ho, hb4⟩
    have HB4 := Lib.hid (Below.trans HB3.out (Below.mono hb4 HB3.out.size))
    simp only
    obtain ⟨w9, hw9, BX9, hg9⟩ := Blk.setRow (Blk.new w4 44 #[.int .i64 0, .string ⟨#[]⟩, .slice none 0 0, .int .i64 0, .bool false, .string ⟨#[]⟩, .string ⟨#[]⟩, .slice none 0 0, .slice none 0 0, .slice none 0 0, .slice none 0 0, .slice none 0 0, .string ⟨#[]⟩, .string ⟨#[]⟩, .bool false, .int .i64 0, .string ⟨#[]⟩]) (cellsSt st v)
    have HW9 := Lib.hid hw9
    have hal := (Below.refl w4.heap.size w4).alloc (Nat.le_refl _) (.cells #[.int .i64 0, .string ⟨#[]⟩, .slice none 0 0, .int .i64 0, .bool false, .string ⟨#[]⟩, .string ⟨#[]⟩, .slice none 0 0, .slice none 0 0, .slice none 0 0, .slice none 0 0, .slice none 0 0, .string ⟨#[]⟩, .string ⟨#[]⟩, .bool false, .int .i64 0, .string ⟨#[]⟩] 44)
    have hb9 := hal.grown hg9 (by have := hal.size; omega) (by intro k hk; injection hk with hk; omega)
    have HB9 := Lib.hid (Below.trans HB4.out (Below.mono hb9 HB4.out.size))
    have H1 := Lib.hid (st_one ho)
    have ho9 := ho.ext hb9
    obtain ⟨Ac, cc, hvc⟩ := own_sl ho9.c
    have HOC := Lib.hid ho9.c
    have q0 : w9.cell? ⟨w4.heap.size, 0, none⟩ = some (.int .i64 st.kind) := BX9.cell 0
    have q1 : w9.cell? ⟨w4.heap.size, 1, none⟩ = some (.string ⟨st.sn.toArray⟩) := BX9.cell 1
    have q2 : w9.cell? ⟨w4.heap.size, 2, none⟩ = some (.slice Ac st.cols.length cc) := (BX9.cell 2).trans (congrArg some hvc)
    have q3 : w9.cell? ⟨w4.heap.size, 3, none⟩ = some (.int .i64 st.key) := BX9.cell 3
    have q4 : w9.cell? ⟨w4.heap.size, 4, none⟩ = some (.bool st.only) := BX9.cell 4
    have hlt9 := BX9.lt
    have HBX := Lib.hid BX9
    have HR9 := Lib.hid (HR1.out.ext (show Below w1.heap.size w1 w9 from HB9.out))
    clear hw9 BX9 hg9 hal hb9 ho9 ho hb4
    --EIGHT
    rcases Nat.lt_or_ge 6 j with h6 | h6
    case inl =>
      have hh := HRR.out
      rw [if_pos h6] at hh
      injection hh with hh1 hh2
      subst hh1
      clear hh2
      have c6 : decide ((6 : Int) < (j : Int)) = true := by simp; omega
      clear HRR
      go_wp2_with (first | ((with_reducible show wpList _ _ _ (Oper.mk _ (Op.store 44 _ _) _ _ _ _ :: _) _ _); refine wpList_store_row rfl 44 _ _ rfl w4.heap.size (cellsSt st v) rfl rfl 44 _ (Blk.new w4 44 #[.int .i64 0, .string ⟨#[]⟩, .slice none 0 0, .int .i64 0, .bool false, .string ⟨#[]⟩, .string ⟨#[]⟩, .slice none 0 0, .slice none 0 0, .slice none 0 0, .slice none 0 0, .slice none 0 0, .string ⟨#[]⟩, .string ⟨#[]⟩, .bool false, .int .i64 0, .string ⟨#[]⟩]) (by kernel_rfl) rfl (H1.out) ?_; rw [← HW9.out]))
      go_ret
      exact ⟨rfl, bch0 HB1.out HB9.out⟩
    have c6 : decide ((6 : Int) < (j : Int)) = false := by simp; omega
    cases miss with
    | true =>
      have hh := HRR.out
      rw [if_neg (by omega), if_pos rfl] at hh
      injection hh with hh1 hh2
      subst hh1
      clear hh2
      clear HRR
      go_wp2_with (first | ((with_reducible show wpList _ _ _ (Oper.mk _ (Op.store 44 _ _) _ _ _ _ :: _) _ _); refine wpList_store_row rfl 44 _ _ rfl w4.heap.size (cellsSt st v) rfl rfl 44 _ (Blk.new w4 44 #[.int .i64 0, .string ⟨#[]⟩, .slice none 0 0, .int .i64 0, .bool false, .string ⟨#[]⟩, .string ⟨#[]⟩, .slice none 0 0, .slice none 0 0, .slice none 0 0, .slice none 0 0, .slice none 0 0, .string ⟨#[]⟩, .string ⟨#[]⟩, .bool false, .int .i64 0, .string ⟨#[]⟩]) (by kernel_rfl) rfl (H1.out) ?_; rw [← HW9.out]))
      go_ret
      exact ⟨rfl, bch0 HB1.out HB9.out⟩
    | false =>
      have hh := HRR.out
      rw [if_neg (by omega), if_neg (by decide)] at hh
      injection hh with hh1 hh2
      subst hh1
      have e1 : st.kind = 1 := by rw [← hh2]; rfl
      have e2 : st.sn = [116, 116] := by rw [← hh2]; rfl
      have e3 : st.cols = clsOf 0 (kcs l j) := by rw [← hh2]; rfl
      have e4 : st.key = k := by rw [← hh2]; rfl
      have e5 : st.only = only := by rw [← hh2]; rfl
      have e6 : (clsOf 0 (kcs l j)).length = j := by rw [clsOf_len, kcs_len l j (by have := HL.out; omega)]
      rw [e1] at q0
      rw [e2] at q1
      rw [e3, e6] at q2
      rw [e4] at q3
      rw [e5] at q4
      replace HOC := HOC.out
      rw [hvc, e3, e6] at HOC
      unfold ClsO at HOC
      rw [e6] at HOC
      have HOC9 := Lib.hid (Row.of_own HOC)
      clear e1 e2 e3 e4 e5 e6 hh2 HRR HOC hvc
      have ec : ((#[116, 116] : Array UInt8).toList == [116, 116]) = true := rfl
      --NINE
      go_wp2_with (first | ((with_reducible show wpList _ _ _ (Oper.mk _ (Op.store 44 _ _) _ _ _ _ :: _) _ _); refine wpList_store_row rfl 44 _ _ rfl w4.heap.size (cellsSt st v) rfl rfl 44 _ (Blk.new w4 44 #[.int .i64 0, .string ⟨#[]⟩, .slice none 0 0, .int .i64 0, .bool false, .string ⟨#[]⟩, .string ⟨#[]⟩, .slice none 0 0, .slice none 0 0, .slice none 0 0, .slice none 0 0, .slice none 0 0, .string ⟨#[]⟩, .string ⟨#[]⟩, .bool false, .int .i64 0, .string ⟨#[]⟩]) (by kernel_rfl) rfl (H1.out) ?_; rw [← HW9.out]))
      obtain ⟨W5, hW_, hb5, BS⟩ : ∃ W_, W_ = (w9.alloc (.cells #[.string ⟨#[116, 116]⟩, .slice Ac j cc, .int .i64 k, .bool only] 40)) ∧ Below w9.heap.size w9 W_ ∧ Blk W_ (w9.heap.size) 40 #[.string ⟨#[116, 116]⟩, .slice Ac j cc, .int .i64 k, .bool only] :=
        ⟨_, rfl, ((Below.refl _ _).alloc (Nat.le_refl _) _), (blk_new_at w9 (w9.heap.size) _ _ (by simp))⟩
      rw [← hW_]
      clear hW_
      have HB5 := Lib.hid (Below.trans HB9.out (Below.mono hb5 HB9.out.size))
      have HBS := Lib.hid BS
      have HOC5 := Lib.hid (HOC9.out.ext hb5)
      have HR5 := Lib.hid (HR9.out.ext hb5)
      have hls := BS.lt
      clear hb5 BS HOC9 HR9 q0 q1 q2 q3 q4 HW9 HBX H1 HST ec hlt9
      --TEN
      go_loopw [17] (fun iv wr => ∃ i : Nat, iv = .int .i64 i ∧ i ≤ j ∧ Hid (Below W5.heap.size W5 wr)) (fun iv _ => j - (intOf iv).toNat)
      case atStart => exact ⟨0, rfl, by omega, Lib.hid (Below.refl _ _)⟩
      case round =>
        obtain ⟨i, rfl, hij, HBR⟩ := hrel
        rcases Nat.lt_or_ge i j with hlt | hge
        case inl =>
          have c1 : decide ((i : Int) < (j : Int)) = true := by simp; omega
          have c2 : decide ((i : Int) < (n : Int)) = true := by simp; omega
          have c3 : (i : Int) < (n : Int) := by omega
          have c4 : (i : Int) < (j : Int) := by omega
          obtain ⟨x, hx⟩ : ∃ x, l[i]? = some x := ⟨_, List.getElem?_eq_getElem (by have := HL.out; omega)⟩
          have hxk := HK.out x (List.mem_of_getElem? hx)
          have hcl : (clsOf 0 (kcs l j))[i]? = some (clOf i (kcOf x)) := by
            have h1 : (kcs l j)[i]? = some (kcOf x) := by
              unfold kcs
              rw [List.getElem?_map, List.getElem?_take_of_lt hlt, hx]
              rfl
            have := clsOf_at _ 0 i _ h1
            rwa [Nat.zero_add] at this
          obtain ⟨b, off, rfl, _, _, hblt⟩ := HR5.out.some_ (by omega)
          obtain ⟨b2, off2, rfl, _, _, hblt2⟩ := HOC5.out.some_ (by omega)
          obtain ⟨kk, hk3, hkk⟩ := mod_nat x.k 3 (by decide)
          have hq1 := HR5.out.at_ (flatK_at encC 3 kC l i x 1 _ hx rfl)
          have hq2 := HR5.out.at_ (flatK_at encC 3 kC l i x 2 _ hx rfl)
          have hp0 := HOC5.out.at_ (flatK_at encC 3 kC _ i _ 0 _ hcl rfl)
          have hp1 := HOC5.out.at_ (flatK_at encC 3 kC _ i _ 1 _ hcl rfl)
          have hp2 := HOC5.out.at_ (flatK_at encC 3 kC _ i _ 2 _ hcl rfl)
          rw [← Nat.add_assoc] at hq1 hq2 hp0 hp1 hp2
          obtain ⟨x0, x1, x2⟩ := x
          simp only [clOf, kcOf] at hq1 hq2 hxk hp0 hp1 hp2 hkk
          have hkk2 : (x1 % 3).toNat = kk := by have h : x1 % 3 = (kk : Int) := hkk; rw [h]; simp
          rw [hkk2] at hp1
          obtain ⟨cn, hcn⟩ : ∃ cn : ByteArray, (⟨(colNm i).toArray⟩ : ByteArray) = cn := ⟨_, rfl⟩
          rw [hcn] at hp0
          have zd : (⟨(digs i).toArray⟩ : ByteArray).size ≤ 19 := by rw [size_mk]; exact digs_19 i (by omega)
          have HD := Lib.hid (fun W => rdigits_ i W (by omega))
          obtain ⟨d, hd⟩ : ∃ d : ByteArray, (⟨(digs i).toArray⟩ : ByteArray) = d := ⟨_, rfl⟩
          replace HD := HD.out
          rw [hd] at HD zd
          replace HD := Lib.hid HD
          have hcd : (⟨#[99]⟩ : ByteArray) ++ d = cn := by
            have h1 : IsT ((⟨#[99]⟩ : ByteArray) ++ d) (colNm i) := (IsT.lit [99]).app ⟨hd.symm⟩ (by rw [digs_small i (by omega)]; rfl)
            rw [h1.eq, hcn]
          have hnn : (cn.toList == ((⟨#[99]⟩ : ByteArray) ++ d).toList) = true := by rw [hcd]; simp
          have HW3 := Lib.hid (fun W => within_ x1 3 W (by decide) (by decide) hxk)
          replace HW3 := HW3.out
          rw [show x1 % 3 = (kk : Int) from hkk] at HW3
          replace HW3 := Lib.hid HW3
          have sz1 : ¬ 9223372036854775807 < 1 + d.size := by omega
          have hw1 : IntKind.i64.wrap (1 + (kk : Int)) = 1 + (kk : Int) := by simp [IntKind.wrap, IntKind.bits, IntKind.signed]; omega
          have hbb := HBR.out
          have D := fun w' (h : Below wr.heap.size wr.drew w') => (show w'.cell? ⟨w9.heap.size, 1, none⟩ = some (.slice (some ⟨b2, off2, none⟩) j cc) ∧ w'.cell? ⟨b, off + i * 3 + 1, none⟩ = some (.int .i64 x1) ∧ w'.cell? ⟨b, off + i * 3 + 2, none⟩ = some (.bool x2) ∧ w'.cell? ⟨b2, off2 + i * 3 + 0, none⟩ = some (.string cn) ∧ w'.cell? ⟨b2, off2 + i * 3 + 1, none⟩ = some (.int .i64 (1 + (kk : Int))) ∧ w'.cell? ⟨b2, off2 + i * 3 + 2, none⟩ = some (.bool x2) from by
            have hB := Below.trans hbb (Below.mono (Below.trans (Below.refl _ _).drew h) hbb.size)
            exact ⟨(hB.cell (by simpa using hls)).trans (HBS.out.cell 1), (hB.cell (by simpa using hblt)).trans hq1, (hB.cell (by simpa using hblt)).trans hq2, (hB.cell (by simpa using hblt2)).trans hp0, (hB.cell (by simpa using hblt2)).trans hp1, (hB.cell (by simpa using hblt2)).trans hp2⟩)
          simp only [Nat.add_zero] at D
          clear hbb hq1 hq2 hp0 hp1 hp2 hx hxk hkk hkk2 hcn hd hcl hcd
          --ELEVEN
          go_upto_region 32 with fail
          refine wp_region_one [(0, true), (1, true), (2, true), (3, true), (4, true), (5, true), (6, true), (7, false), (8, true), (9, true), (10, true), (11, true), (12, true), (13, true), (14, true), (15, true), (16, true), (17, true), (18, true), (19, true), (20, true), (21, true), (22, false), (23, true), (24, true), (25, true), (26, true), (27, true), (28, true), (29, true), (30, true), (31, true), (32, true), (33, true), (34, true), (35, true), (36, true), (37, true), (38, true), (39, true)] (by kernel_rfl) (by kernel_rfl) (by kernel_rfl) (by decide) ?_
          repeat ((with_reducible show wpPerm _ _ _ _ ((_, true) :: _) _ _); (first | (refine wpPerm_on (v := ?_) rfl rfl (wanted_free rfl) (fun w' hS => ?_) ?_; rotate_left; (focus (go_simp; (try with_reducible rfl); done)); try simp only [List.setIfInBounds_toArray, List.set_cons_zero, List.set_cons_succ]) | (refine wpPerm_on (v := ?_) rfl rfl (wanted_yes rfl rfl rfl) (fun w' hS => ?_) ?_; rotate_left; (focus (go_simp; (try with_reducible rfl); done)); try simp only [List.setIfInBounds_toArray, List.set_cons_zero, List.set_cons_succ]) | (refine wpPerm_off rfl rfl (wanted_no rfl rfl rfl) ?_; try simp only [List.setIfInBounds_toArray, List.set_cons_zero, List.set_cons_succ]) | (refine wpPerm_off rfl rfl (wanted_undef rfl rfl rfl) ?_; try simp only [List.setIfInBounds_toArray, List.set_cons_zero, List.set_cons_succ])))
          --T2
          refine wpPerm_do rfl (wanted_free rfl) (fun K hK => ?_); go_simp
          refine (HD.out _).mono ?_
          rintro e wa ⟨rfl, hba⟩
          have hsa := Below.trans (Below.refl wr.heap.size wr).drew (Below.mono hba (Below.refl wr.heap.size wr).drew.size)
          refine hK.out _ _ hba ?_
          clear hK K
          repeat ((with_reducible show wpPerm _ _ _ _ ((_, true) :: _) _ _); (first | (refine wpPerm_on (v := ?_) rfl rfl (wanted_free rfl) (fun w' hS => ?_) ?_; rotate_left; (focus (go_simp; (try with_reducible rfl); done)); try simp only [List.setIfInBounds_toArray, List.set_cons_zero, List.set_cons_succ]) | (refine wpPerm_on (v := ?_) rfl rfl (wanted_yes rfl rfl rfl) (fun w' hS => ?_) ?_; rotate_left; (focus (go_simp; (try with_reducible rfl); done)); try simp only [List.setIfInBounds_toArray, List.set_cons_zero, List.set_cons_succ]) | (refine wpPerm_off rfl rfl (wanted_no rfl rfl rfl) ?_; try simp only [List.setIfInBounds_toArray, List.set_cons_zero, List.set_cons_succ]) | (refine wpPerm_off rfl rfl (wanted_undef rfl rfl rfl) ?_; try simp only [List.setIfInBounds_toArray, List.set_cons_zero, List.set_cons_succ])))
          refine wpPerm_do rfl (wanted_yes rfl rfl rfl) (fun K hK => ?_); go_simp
          refine (HW3.out _).mono ?_
          rintro e wb ⟨rfl, rfl⟩
          refine hK.out _ _ hba ?_
          clear hK K hba
          repeat ((with_reducible show wpPerm _ _ _ _ ((_, true) :: _) _ _); (first | (refine wpPerm_on (v := ?_) rfl rfl (wanted_free rfl) (fun w' hS => ?_) ?_; rotate_left; (focus (go_simp; (try with_reducible rfl); done)); try simp only [List.setIfInBounds_toArray, List.set_cons_zero, List.set_cons_succ]) | (refine wpPerm_on (v := ?_) rfl rfl (wanted_yes rfl rfl rfl) (fun w' hS => ?_) ?_; rotate_left; (focus (go_simp; (try with_reducible rfl); done)); try simp only [List.setIfInBounds_toArray, List.set_cons_zero, List.set_cons_succ]) | (refine wpPerm_off rfl rfl (wanted_no rfl rfl rfl) ?_; try simp only [List.setIfInBounds_toArray, List.set_cons_zero, List.set_cons_succ]) | (refine wpPerm_off rfl rfl (wanted_undef rfl rfl rfl) ?_; try simp only [List.setIfInBounds_toArray, List.set_cons_zero, List.set_cons_succ])))
          refine wpPerm_done ?_
          have HBZ := Lib.hid (Below.trans HBR.out (Below.mono hsa HBR.out.size))
          clear D hsa HD HW3 hnn hw1
          go_wp2
          go_roundw
          case rel => exact ⟨i + 1, by go_num, by omega, HBZ⟩
          case measure => simp [intOf]; omega
        have c1 : decide ((i : Int) < (j : Int)) = false := by simp; omega
        have HBZ := Lib.hid (bch0 HB1.out (Below.trans HB5.out (Below.mono HBR.out HB5.out.size)))
        clear HBR
        go_wp2
        go_ret
        exact ⟨rfl, HBZ.out⟩
end Go.Proofs.Ytfnceamkephpjaa.pg
