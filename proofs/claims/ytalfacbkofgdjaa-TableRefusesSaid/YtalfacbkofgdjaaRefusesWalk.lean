/- TableRefuses: the walk. Printed by genrefuse.py. -/
import Derived.Test.YtalfacbkofgdjaaTx
import Derived.Test.YtalfacbkofgdjaaTArg
import Derived.Test.YtalfacbkofgdjaaT
namespace Go.Proofs.Ytalfacbkofgdjaa.tb
open Go.ChangeShapes Go.WideShapes Go.ChangeAt Go.RowKit Go.Proofs.Ytalfacbkofgdjaa.lib Go.Proofs.Ytalfacbkofgdjaa.val
set_option linter.unusedVariables false

set_option maxRecDepth 1000000 in
set_option maxHeartbeats 8000000 in
theorem refuses_walk (s : ByteArray) (A : Option Addr) (n c : Nat) (l : List Col) (key : Int) (only : Bool) (m q : Int) (w : World) (hs : s.size ≤ maxLen) (hC : Cs w 0 A n c l) (hn : n ≤ maxLen) (hp : ∀ x ∈ l, RawC x) (hkey : ok64 key) (hm : ok64 m) (hq : ok64 q) :
    Calls Try.prog 8 #[.agg #[.string s, .slice A n c, .int .i64 key, .bool only], .int .i64 m, .int .i64 q] w fun e W' => e = .returned (.bool true) ∧ Below w.heap.size w W' := by
  obtain ⟨hm1, hm2⟩ := hm
  obtain ⟨hq1, hq2⟩ := hq
  obtain ⟨i0, hi, hz0, hz1, hz2⟩ := info_parts (P := Try.prog) (e := 39) (z := .agg #[.int .i64 0, .int .i64 0, .string ⟨#[]⟩]) (size := 3) (bytes := 32) (by kernel_rfl)
  go_enter Try.func8, Try.ntmps8
  go_upto_region 1 with fail
  obtain ⟨W0, hW_, hbW0, BS⟩ : ∃ W_, W_ = (w.alloc (.cells #[.string s, .slice A n c, .int .i64 key, .bool only] 24)) ∧ Below w.heap.size w W_ ∧ Blk W_ (w.heap.size) 24 #[.string s, .slice A n c, .int .i64 key, .bool only] :=
    ⟨_, rfl, ((Below.refl _ _).alloc (Nat.le_refl _) _), (blk_new_at w (w.heap.size) _ _ (by simp))⟩
  rw [← hW_]
  clear hW_
  go_wp2_with fail
  refine (known_ _).mono ?_
  rintro e w1 ⟨rfl, hb1⟩
  have hbw1 := Below.trans hbW0 (Below.mono hb1 hbW0.size)
  have BS := BS.ext hb1
  clear hbW0 hb1
  have q := four BS (Below.refl _ _)
  go_wp2_with fail
  refine (few9_ s A n c l key only _ hs (hC.ext hbw1) hn (fun x hx => (hp x hx).s)).mono ?_
  rintro e w2 ⟨⟨b, rfl⟩, hb2⟩
  have hbw2 := Below.trans hbw1 (Below.mono hb2 hbw1.size)
  have BS := BS.ext hb2
  clear hbw1 hb2 q
  by_cases hbt : b = true
  case neg =>
    obtain rfl : b = false := by cases b with | false => rfl | true => exact absurd rfl hbt
    go_wp2
    go_ret
    exact ⟨rfl, hbw2⟩
  subst hbt
  have q := four BS (Below.refl _ _)
  go_wp2_with fail
  refine (good9_ s A n c l key only _ (hC.ext hbw2) hn hp hkey).mono ?_
  rintro e w3 ⟨A7, c7, rfl, hC7, hF7, hb3⟩
  have hbw3 := Below.trans hbw2 (Below.mono hb3 hbw2.size)
  have hS : SOk (goodS l key only) := good_ok l key only
  generalize goodS l key only = S at *
  clear hbw2 hb3 q BS
  have h6 := hS.six
  have hn7 : S.cols.length ≤ 100 := by omega
  simp only [schA]
  go_wp2_with fail
  obtain ⟨W, hW_, hbW1, B7⟩ : ∃ W_, W_ = (w3.alloc (.cells #[.string S.name, .slice A7 S.cols.length c7, .int .i64 S.key, .bool S.only] 24)) ∧ Below w3.heap.size w3 W_ ∧ Blk W_ (w3.heap.size) 24 #[.string S.name, .slice A7 S.cols.length c7, .int .i64 S.key, .bool S.only] :=
    ⟨_, rfl, ((Below.refl _ _).alloc (Nat.le_refl _) _), (blk_new_at w3 (w3.heap.size) _ _ (by simp))⟩
  rw [← hW_]
  clear hW_
  have hbW := Below.trans hbw3 (Below.mono hbW1 hbw3.size)
  have hC7 : Cs W 0 A7 S.cols.length c7 S.cols := (hC7.ext hbW1).base (Nat.zero_le _)
  refine (fit_ S _ A7 S.cols.length c7 m _ hC7 hn7 hS.kinds hm1 hm2).mono ?_
  rintro e w5 ⟨Ar, cr, rfl, hown5, hb5⟩
  obtain ⟨kv, hri⟩ := row_i hS m
  generalize fitL S.cols m = r at *
  have hVr : Vs w5 0 Ar S.cols.length cr r := (Vs.of_own hown5).base (Nat.zero_le _)
  have B7 := B7.ext hb5
  have hC7 := hC7.ext hb5
  have hbw5 := Below.trans hbW (Below.mono hb5 hbW.size)
  clear hown5 hb5 hbW1
  have Hri := Lib.hid hri
  have hkl : S.key < S.cols.length := hS.key
  have hki : (S.key : Int) < (S.cols.length : Int) := by omega
  obtain ⟨br, or_, rfl, _, _, _⟩ := hVr.1.some_ (by omega)
  clear hri
  have q7 := four B7 (Below.refl _ _)
  go_wp2_with fail
  clear q7
  refine (put_ S [] r _ A7 S.cols.length c7 none 0 0 0 _ S.cols.length cr _ hC7 (Rs.nil _ 0) (.inl rfl) hVr Hri.out.small hS.ok0 hn7 (by decide) (by omega)).mono ?_
  rw [put_nil Hri.out.fit]
  rintro e w6 ⟨v, rfl, hT6, hb6⟩
  obtain ⟨A9, n9, c9, A10, n10, c10, rfl, hC9, hR9, hF9⟩ := hT6
  simp only [tabA]
  have hbw6 := Below.trans hbw5 (Below.mono hb6 hbw5.size)
  have hC9 := hC9.base (Nat.zero_le _)
  have hR9 := hR9.base (Nat.zero_le _)
  go_wp2_with (at_builtin; refine wpList_append_own _ rfl (.tmp 37) (.tmp 38) 33 rfl (w6.heap.size + 1) 39 i0 _ 3 32 Try.underlying33 hi hz0 hz1 hz2 rfl (by decide) _ _ _ rfl (own_empty (w := w6.alloc (.cells #[.string S.name, .slice A9 n9 c9, .int .i64 S.key, .bool S.only, .slice A10 n10 c10] 32)) (base := w6.heap.size + 1) (g := w6.heap.size + 1) (by simp) (Nat.le_refl _)) ⟨br, or_, none⟩ S.cols.length cr (cellsV r) rfl ?c0 ?c1 ?c2 ?c3 ?c4 ?c5 ?_)
  case c0 => rw [lenV, Hri.out.len]
  case c1 => exact fun j u hu => Row.at_ (((hVr.ext hb6).1.ext ((Below.refl _ _).alloc (Nat.le_refl _) _)).ext ((Below.refl _ _).alloc (Nat.le_refl _) _)) hu
  case c2 => exact oneV r
  case c3 => unfold maxLen; omega
  case c4 => omega
  intro v' w8 hown8 hgrow8 _
  obtain ⟨A8, c8, rfl⟩ := own_slice hown8
  have hown8 := Lib.hid hown8
  have B9 : Blk w8 w6.heap.size 32 #[.string S.name, .slice A9 n9 c9, .int .i64 S.key, .bool S.only, .slice A10 n10 c10] := ((Blk.new _ _ _).alloc _).grown hgrow8 (by simp [Value.ownBlock])
  have hb8 : Below w6.heap.size w6 w8 := (((Below.refl _ _).alloc (Nat.le_refl _) _).alloc (by simp) _).grown hgrow8 (by simp; omega) (fun k hk => by simp [Value.ownBlock] at hk; omega)
  have B7 := B7.ext hb6
  have hVr := hVr.ext hb6
  have hC7 := hC7.ext hb6
  clear hgrow8 hb6
  have hOk1 := Lib.hid (one_ok hS Hri.out)
  obtain ⟨z, hz⟩ : ∃ z : Int, q % 4 = z := ⟨_, rfl⟩
  have hzc : z = 0 ∨ z = 1 ∨ z = 2 ∨ z = 3 := by omega
  have HZ := Lib.hid hz
  clear hz
  go_wp2_with fail
  refine (within10 q 4 z HZ.out _ (by decide) (by decide) hq1 hq2).mono ?_
  rintro e wx ⟨rfl, rfl⟩
  clear HZ
  have hl8 := own_len hown8.out
  obtain ⟨g8, rfl, _, _⟩ := own_some hown8.out (by omega)
  rcases hzc with rfl | rfl | rfl | rfl
  case inl =>
    have hVx : Vs w8 0 (some ⟨g8, 0, none⟩) S.cols.length c8 r := (Vs.of_own hown8.out).base (Nat.zero_le _)
    have hb6x := hb8
    obtain ⟨Ax, hAx⟩ : ∃ Ax, Ax = some (⟨g8, 0, none⟩ : Addr) := ⟨_, rfl⟩
    rw [← hAx] at hVx ⊢
    obtain ⟨cx, hcx⟩ : ∃ cx, cx = c8 := ⟨_, rfl⟩
    rw [← hcx] at hVx ⊢
    clear hAx hcx
    have hbwx := Below.trans hbw6 (Below.mono hb6x hbw6.size)
    have B7 := B7.ext hb6x
    have hVr := hVr.ext hb6x
    have hC7 := hC7.ext hb6x
    have hC9 := hC9.ext hb6x
    have hR9 := hR9.ext hb6x
    clear hown8 hb8 hb6x

    have q9 := five B9 (Below.refl _ _)
    go_wp2_with fail
    clear q9
    refine (put_ S [r] (r) 0 A9 n9 c9 A10 n10 c10 0 Ax S.cols.length cx _ hC9 hR9 hF9 hVx Hri.out.small hOk1.out hn7 (by simp) (by omega)).mono ?_
    rw [put_again Hri.out.fit]
    rintro e wa ⟨v, rfl, hTx, hba⟩
    obtain ⟨A13, n13, c13, A14, n14, c14, rfl, hCx, hRx, hFx⟩ := hTx
    simp only [tabA]
    have hbwa := Below.trans hbwx (Below.mono hba hbwx.size)
    have B7 := B7.ext hba
    have B9 : Blk wa _ 32 #[.string S.name, .slice A9 n9 c9, .int .i64 S.key, .bool S.only, .slice A10 n10 c10] := B9.ext hba
    have hVr := hVr.ext hba
    have hC7 := hC7.ext hba
    have hC9 := hC9.ext hba
    have hR9 := hR9.ext hba
    have hTx : TabR wa 0 (.agg (tabA S A13 n13 c13 A14 n14 c14)) S [r] := TabR.of (hCx.base (Nat.zero_le _)) (hRx.base (Nat.zero_le _)) hFx
    clear hCx hRx hFx hba
    go_wp2_with fail
    obtain ⟨Wb, hW_, hbb, B13⟩ : ∃ W_, W_ = (wa.alloc (.cells #[.string S.name, .slice A13 n13 c13, .int .i64 S.key, .bool S.only, .slice A14 n14 c14] 32)) ∧ Below wa.heap.size wa W_ ∧ Blk W_ (wa.heap.size) 32 #[.string S.name, .slice A13 n13 c13, .int .i64 S.key, .bool S.only, .slice A14 n14 c14] :=
      ⟨_, rfl, ((Below.refl _ _).alloc (Nat.le_refl _) _), (blk_new_at wa (wa.heap.size) _ _ (by simp))⟩
    rw [← hW_]
    clear hW_
    have hbwb := Below.trans hbwa (Below.mono hbb hbwa.size)
    have B7 := B7.ext hbb
    have B9 : Blk Wb _ 32 #[.string S.name, .slice A9 n9 c9, .int .i64 S.key, .bool S.only, .slice A10 n10 c10] := B9.ext hbb
    have hVr := hVr.ext hbb
    have hC7 := hC7.ext hbb
    have hC9 := hC9.ext hbb
    have hR9 := hR9.ext hbb
    have hTx := hTx.ext hbb
    clear hbb
    have Htake := Lib.hid (fun w' (h : Below Wb.heap.size Wb w') => (show Calls _ _ _ _ (TakeP S (2, []) [] w') from take_ S [] kv 0 A7 S.cols.length c7 none 0 0 w' (hC7.ext h) (Rs.nil _ 0) (.inl rfl) hS.ok0 hn7 (by decide)))
    have D7 := fun w' (h : Below Wb.heap.size Wb.drew w') => four B7 (Below.trans (Below.refl _ _).drew h)
    have Dr := fun w' (h : Below Wb.heap.size Wb.drew w') => (hVr.ext (Below.trans (Below.refl _ _).drew h)).at_ Hri.out.key
    refine wp_region_tree (S := fun w' => Below Wb.heap.size Wb.drew w') (.take 0 (.take 1 (.take 2 (.take 3 (.take 4 (.take 5 (.take 6 (.two 7 12 (.take 8 (.take 9 (.take 10 (.take 11 (.one 12 (.one 13 (.take 14 (.take 15 .nil)))))))) (.one 7 (.take 8 (.take 9 (.take 10 (.take 11 (.one 13 (.take 14 (.take 15 .nil))))))))))))))))
      (by kernel_rfl) (by kernel_rfl) (by kernel_rfl) (by decide) (by intro c a d v w h; cases d <;> exact h) (Below.refl _ _) ?_
    repeat ((with_reducible show wpTree _ _ _ _ (.take _ _) _ _); (first | (refine wpTree_on (v := ?_) rfl rfl (wanted_free rfl) (fun w' hS => ?_) ?_; rotate_left; (focus (go_simp; (try with_reducible rfl); done)); try simp only [List.setIfInBounds_toArray, List.set_cons_zero, List.set_cons_succ]) | (refine wpTree_on (v := ?_) rfl rfl (wanted_yes rfl rfl rfl) (fun w' hS => ?_) ?_; rotate_left; (focus (go_simp; (try with_reducible rfl); done)); try simp only [List.setIfInBounds_toArray, List.set_cons_zero, List.set_cons_succ]) | (refine wpTree_off rfl rfl (wanted_no rfl rfl rfl) ?_; try simp only [List.setIfInBounds_toArray, List.set_cons_zero, List.set_cons_succ]) | (refine wpTree_off rfl rfl (wanted_undef rfl rfl rfl) ?_; try simp only [List.setIfInBounds_toArray, List.set_cons_zero, List.set_cons_succ])))
    have hd5 : Below Wb.heap.size Wb Wb.drew := (Below.refl _ _).drew
    have hd5' : Wb.heap.size ≤ Wb.drew.heap.size := Nat.le_refl _
    clear D7 Dr
    generalize Wb.drew = wd at *
    refine wpTree_both rfl (wanted_free rfl) rfl (wanted_free rfl) (fun K hK => ?_) (fun K hK => ?_)
    · go_simp
      refine (Htake.out _ hd5).mono ?_
      rintro e w6 ⟨v, At, mt, ct, rfl, hT6, hVt, hb6⟩
      have hT6' := hT6
      obtain ⟨A5, n5, c5, A6, n6, c6, rfl, _, hRn, _⟩ := hT6
      have hRn := Lib.hid hRn.len
      have hb6' : Below Wb.heap.size wd w6 := hb6.mono hd5'
      refine hK.out _ _ hb6' ?_
      clear hK K
      simp only [tabA]
      repeat ((with_reducible show wpTree _ _ _ _ (.take _ _) _ _); (first | (refine wpTree_on (v := ?_) rfl rfl (wanted_free rfl) (fun w' hS => ?_) ?_; rotate_left; (focus (go_simp; (try with_reducible rfl); done)); try simp only [List.setIfInBounds_toArray, List.set_cons_zero, List.set_cons_succ]) | (refine wpTree_on (v := ?_) rfl rfl (wanted_yes rfl rfl rfl) (fun w' hS => ?_) ?_; rotate_left; (focus (go_simp; (try with_reducible rfl); done)); try simp only [List.setIfInBounds_toArray, List.set_cons_zero, List.set_cons_succ]) | (refine wpTree_off rfl rfl (wanted_no rfl rfl rfl) ?_; try simp only [List.setIfInBounds_toArray, List.set_cons_zero, List.set_cons_succ]) | (refine wpTree_off rfl rfl (wanted_undef rfl rfl rfl) ?_; try simp only [List.setIfInBounds_toArray, List.set_cons_zero, List.set_cons_succ])))
      refine wpTree_do rfl (wanted_free rfl) (fun K hK => ?_); go_simp
      refine hK.out _ _ (hb6'.alloc (by have := hb6.size; omega) _) ?_
      clear hK K
      have B17 : Blk (w6.alloc (.cells #[.string ⟨#[]⟩, .slice none 0 0, .int .i64 0, .bool false, .slice none 0 0] 32)) w6.heap.size 32 #[.string ⟨#[]⟩, .slice none 0 0, .int .i64 0, .bool false, .slice none 0 0] := Blk.new _ _ _
      have f0 := B17.frozen 0
      have f1 := B17.frozen 1
      have f2 := B17.frozen 2
      have f3 := B17.frozen 3
      have f4 := B17.frozen 4
      have q := five B17 (Below.refl _ _)
      refine wpTree_do rfl (wanted_free rfl) (fun K hK => ?_); go_simp
      clear f0 f1 f2 f3 f4 q B17
      obtain ⟨w7, hw7⟩ : ∃ w7, w7 = w6.alloc (.cells #[.string S.name, .slice A5 n5 c5, .int .i64 S.key, .bool S.only, .slice A6 n6 c6] 32) := ⟨_, rfl⟩
      have hb67 : Below w6.heap.size w6 w7 := by rw [hw7]; exact (Below.refl _ _).alloc (Nat.le_refl _) _
      have B17 : Blk w7 w6.heap.size 32 #[.string S.name, .slice A5 n5 c5, .int .i64 S.key, .bool S.only, .slice A6 n6 c6] := by rw [hw7]; exact Blk.new _ _ _
      rw [← hw7]
      clear hw7
      have hT7 := (hT6'.ext hb67).base (Nat.zero_le _)
      have hVt := (hVt.ext hb67).base (Nat.zero_le _)
      have hb7' := Below.trans hb6' (Below.mono hb67 (by have := hb6.size; omega))
      have hb7 : Below Wb.heap.size Wb w7 := Below.trans hd5 hb7'
      refine hK.out _ _ hb7' ?_
      clear hK K
      repeat ((with_reducible show wpTree _ _ _ _ (.take _ _) _ _); (first | (refine wpTree_on (v := ?_) rfl rfl (wanted_free rfl) (fun w' hS => ?_) ?_; rotate_left; (focus (go_simp; (try with_reducible rfl); done)); try simp only [List.setIfInBounds_toArray, List.set_cons_zero, List.set_cons_succ]) | (refine wpTree_on (v := ?_) rfl rfl (wanted_yes rfl rfl rfl) (fun w' hS => ?_) ?_; rotate_left; (focus (go_simp; (try with_reducible rfl); done)); try simp only [List.setIfInBounds_toArray, List.set_cons_zero, List.set_cons_succ]) | (refine wpTree_off rfl rfl (wanted_no rfl rfl rfl) ?_; try simp only [List.setIfInBounds_toArray, List.set_cons_zero, List.set_cons_succ]) | (refine wpTree_off rfl rfl (wanted_undef rfl rfl rfl) ?_; try simp only [List.setIfInBounds_toArray, List.set_cons_zero, List.set_cons_succ])))
      refine wpTree_end ?_
      generalize w6.heap.size = g17 at *
      have q17 := five B17 (Below.refl _ _)
      have q13 := five B13 hb7
      have q9 := five B9 hb7
      obtain rfl : 0 = n6 := hRn.out
      go_wp2_with fail
      refine (same_ S [r] 0 0 _ _ _ hn7 (by simp) (hOk1.out.small hn7) (hTx.ext hb7) ((TabR.of hC9 hR9 hF9).ext hb7)).mono ?_
      rintro e wz ⟨rfl, hbz⟩
      clear q17 q13 q9
      have q17 := five B17 hbz
      go_wp2
      go_ret
      exact ⟨rfl, Below.trans (Below.trans hbwb (Below.mono hb7 hbwb.size)) (Below.mono hbz (by have := hb7.size; have := hbwb.size; omega))⟩
    · go_simp
      refine hK.out _ _ ((Below.refl Wb.heap.size wd).alloc hd5' _) ?_
      clear hK K
      have B12 : Blk (wd.alloc (.cells #[.string ⟨#[]⟩, .slice none 0 0, .int .i64 0, .bool false, .slice none 0 0] 32)) wd.heap.size 32 #[.string ⟨#[]⟩, .slice none 0 0, .int .i64 0, .bool false, .slice none 0 0] := Blk.new _ _ _
      have hda : Below Wb.heap.size wd (wd.alloc (.cells #[.string ⟨#[]⟩, .slice none 0 0, .int .i64 0, .bool false, .slice none 0 0] 32)) := (Below.refl Wb.heap.size wd).alloc hd5' _
      have hgd : wd.heap.size < (wd.alloc (.cells #[.string ⟨#[]⟩, .slice none 0 0, .int .i64 0, .bool false, .slice none 0 0] 32)).heap.size := B12.lt
      generalize hwe : wd.alloc (.cells #[.string ⟨#[]⟩, .slice none 0 0, .int .i64 0, .bool false, .slice none 0 0] 32) = we at *
      clear hwe
      generalize wd.heap.size = g17 at *
      refine wpTree_do rfl (wanted_free rfl) (fun K hK => ?_); go_simp
      refine (Htake.out _ (Below.trans hd5 hda)).mono ?_
      rintro e w6 ⟨v, At, mt, ct, rfl, hT6, hVt, hb6⟩
      have hT6' := hT6
      obtain ⟨A5, n5, c5, A6, n6, c6, rfl, _, hRn, _⟩ := hT6
      have hRn := Lib.hid hRn.len
      have hb6' : Below Wb.heap.size wd w6 := Below.trans hda (hb6.mono (by omega))
      refine hK.out _ _ hb6' ?_
      clear hK K
      simp only [tabA]
      repeat ((with_reducible show wpTree _ _ _ _ (.take _ _) _ _); (first | (refine wpTree_on (v := ?_) rfl rfl (wanted_free rfl) (fun w' hS => ?_) ?_; rotate_left; (focus (go_simp; (try with_reducible rfl); done)); try simp only [List.setIfInBounds_toArray, List.set_cons_zero, List.set_cons_succ]) | (refine wpTree_on (v := ?_) rfl rfl (wanted_yes rfl rfl rfl) (fun w' hS => ?_) ?_; rotate_left; (focus (go_simp; (try with_reducible rfl); done)); try simp only [List.setIfInBounds_toArray, List.set_cons_zero, List.set_cons_succ]) | (refine wpTree_off rfl rfl (wanted_no rfl rfl rfl) ?_; try simp only [List.setIfInBounds_toArray, List.set_cons_zero, List.set_cons_succ]) | (refine wpTree_off rfl rfl (wanted_undef rfl rfl rfl) ?_; try simp only [List.setIfInBounds_toArray, List.set_cons_zero, List.set_cons_succ])))
      have B12 := B12.ext hb6
      have f0 := B12.frozen 0
      have f1 := B12.frozen 1
      have f2 := B12.frozen 2
      have f3 := B12.frozen 3
      have f4 := B12.frozen 4
      have q := five B12 (Below.refl _ _)
      refine wpTree_do rfl (wanted_free rfl) (fun K hK => ?_); go_simp
      clear f0 f1 f2 f3 f4 q
      obtain ⟨w7, hw7, B17, hlow7, hgr7⟩ := Blk.set5 B12 (.string S.name) (.slice A5 n5 c5) (.int .i64 S.key) (.bool S.only) (.slice A6 n6 c6)
      rw [← hw7]
      clear hw7 B12
      have hT7 := (hT6'.grownL hgr7 hgd).base (Nat.zero_le _)
      have hVt := (hVt.grownL hgr7 hgd).base (Nat.zero_le _)
      have hb7' := Below.trans hb6' (hlow7 Wb.heap.size hd5')
      have hb7 : Below Wb.heap.size Wb w7 := Below.trans hd5 hb7'
      refine hK.out _ _ hb7' ?_
      clear hK K
      repeat ((with_reducible show wpTree _ _ _ _ (.take _ _) _ _); (first | (refine wpTree_on (v := ?_) rfl rfl (wanted_free rfl) (fun w' hS => ?_) ?_; rotate_left; (focus (go_simp; (try with_reducible rfl); done)); try simp only [List.setIfInBounds_toArray, List.set_cons_zero, List.set_cons_succ]) | (refine wpTree_on (v := ?_) rfl rfl (wanted_yes rfl rfl rfl) (fun w' hS => ?_) ?_; rotate_left; (focus (go_simp; (try with_reducible rfl); done)); try simp only [List.setIfInBounds_toArray, List.set_cons_zero, List.set_cons_succ]) | (refine wpTree_off rfl rfl (wanted_no rfl rfl rfl) ?_; try simp only [List.setIfInBounds_toArray, List.set_cons_zero, List.set_cons_succ]) | (refine wpTree_off rfl rfl (wanted_undef rfl rfl rfl) ?_; try simp only [List.setIfInBounds_toArray, List.set_cons_zero, List.set_cons_succ])))
      refine wpTree_end ?_
      have q17 := five B17 (Below.refl _ _)
      have q13 := five B13 hb7
      have q9 := five B9 hb7
      obtain rfl : 0 = n6 := hRn.out
      go_wp2_with fail
      refine (same_ S [r] 0 0 _ _ _ hn7 (by simp) (hOk1.out.small hn7) (hTx.ext hb7) ((TabR.of hC9 hR9 hF9).ext hb7)).mono ?_
      rintro e wz ⟨rfl, hbz⟩
      clear q17 q13 q9
      have q17 := five B17 hbz
      go_wp2
      go_ret
      exact ⟨rfl, Below.trans (Below.trans hbwb (Below.mono hb7 hbwb.size)) (Below.mono hbz (by have := hb7.size; have := hbwb.size; omega))⟩
  case inr.inl =>
    go_wp2_with (at_builtin; refine wpList_append_own _ rfl (.tmp 44) (.tmp 46) 33 rfl (w6.heap.size + 1) 39 i0 _ 3 32 Try.underlying33 hi hz0 hz1 hz2 rfl (by decide) _ _ _ rfl (hown8.out.alloc _) ⟨w8.heap.size, 0, none⟩ 1 1 [.int .i64 0, .int .i64 0, .string ⟨#[]⟩] rfl rfl ?d1 ?d2 ?d3 ?d4 ?d5 ?_)
    case d1 => first | exact (Row.of_blk (Blk.new w8 39 #[.int .i64 0, .int .i64 0, .string ⟨#[]⟩]) (Nat.zero_le _) 1 1 (Nat.le_refl _)).src | (intro j u hu; have h := Row.at_ (Row.of_blk (Blk.new w8 39 #[.int .i64 0, .int .i64 0, .string ⟨#[]⟩]) (Nat.zero_le _) 1 1 (Nat.le_refl _)) hu; rw [Nat.zero_add] at h; exact h)
    case d2 => exact fun u hu => oneV [zV] u hu
    case d3 => unfold maxLen; omega
    case d4 => omega
    case d5 => have := hb8.size; simp; omega
    intro v' w9 hown9 hgrow9 _
    obtain ⟨Ax, cx, rfl⟩ := own_slice hown9
    have hb6x : Below w6.heap.size w6 w9 := (hb8.alloc hb8.size _).grown hgrow9 (by have := hb8.size; simp; omega) (fun k hk => by simp [Value.ownBlock] at hk; omega)
    have B9 : Blk w9 _ 32 #[.string S.name, .slice A9 n9 c9, .int .i64 S.key, .bool S.only, .slice A10 n10 c10] := (B9.alloc _).grown hgrow9 (by simp [Value.ownBlock]; omega)
    have hVx : Vs w9 0 Ax (S.cols.length + 1) cx (r ++ [zV]) := (Vs.of_own (by
      have e : cellsV (r ++ [zV]) = cellsV r ++ [.int .i64 0, .int .i64 0, .string ⟨#[]⟩] := by unfold cellsV; rw [flatK_append, flatK_one]; rfl
      rw [e]; exact hown9)).base (Nat.zero_le _)
    clear hgrow9 hown9
    have hbwx := Below.trans hbw6 (Below.mono hb6x hbw6.size)
    have B7 := B7.ext hb6x
    have hVr := hVr.ext hb6x
    have hC7 := hC7.ext hb6x
    have hC9 := hC9.ext hb6x
    have hR9 := hR9.ext hb6x
    clear hown8 hb8 hb6x

    have q9 := five B9 (Below.refl _ _)
    go_wp2_with fail
    clear q9
    refine (put_ S [r] (r ++ [zV]) 0 A9 n9 c9 A10 n10 c10 0 Ax (S.cols.length + 1) cx _ hC9 hR9 hF9 hVx (small_snoc Hri.out.small zV (by decide)) hOk1.out hn7 (by simp) (by omega)).mono ?_
    rw [put_bad (fits_longer Hri.out.fit zV) (by decide)]
    rintro e wa ⟨v, rfl, hTx, hba⟩
    obtain ⟨A13, n13, c13, A14, n14, c14, rfl, hCx, hRx, hFx⟩ := hTx
    simp only [tabA]
    have hbwa := Below.trans hbwx (Below.mono hba hbwx.size)
    have B7 := B7.ext hba
    have B9 : Blk wa _ 32 #[.string S.name, .slice A9 n9 c9, .int .i64 S.key, .bool S.only, .slice A10 n10 c10] := B9.ext hba
    have hVr := hVr.ext hba
    have hC7 := hC7.ext hba
    have hC9 := hC9.ext hba
    have hR9 := hR9.ext hba
    have hTx : TabR wa 0 (.agg (tabA S A13 n13 c13 A14 n14 c14)) S [r] := TabR.of (hCx.base (Nat.zero_le _)) (hRx.base (Nat.zero_le _)) hFx
    clear hCx hRx hFx hba
    go_wp2_with fail
    obtain ⟨Wb, hW_, hbb, B13⟩ : ∃ W_, W_ = (wa.alloc (.cells #[.string S.name, .slice A13 n13 c13, .int .i64 S.key, .bool S.only, .slice A14 n14 c14] 32)) ∧ Below wa.heap.size wa W_ ∧ Blk W_ (wa.heap.size) 32 #[.string S.name, .slice A13 n13 c13, .int .i64 S.key, .bool S.only, .slice A14 n14 c14] :=
      ⟨_, rfl, ((Below.refl _ _).alloc (Nat.le_refl _) _), (blk_new_at wa (wa.heap.size) _ _ (by simp))⟩
    rw [← hW_]
    clear hW_
    have hbwb := Below.trans hbwa (Below.mono hbb hbwa.size)
    have B7 := B7.ext hbb
    have B9 : Blk Wb _ 32 #[.string S.name, .slice A9 n9 c9, .int .i64 S.key, .bool S.only, .slice A10 n10 c10] := B9.ext hbb
    have hVr := hVr.ext hbb
    have hC7 := hC7.ext hbb
    have hC9 := hC9.ext hbb
    have hR9 := hR9.ext hbb
    have hTx := hTx.ext hbb
    clear hbb
    have Htake := Lib.hid (fun w' (h : Below Wb.heap.size Wb w') => (show Calls _ _ _ _ (TakeP S (2, []) [] w') from take_ S [] kv 0 A7 S.cols.length c7 none 0 0 w' (hC7.ext h) (Rs.nil _ 0) (.inl rfl) hS.ok0 hn7 (by decide)))
    have D7 := fun w' (h : Below Wb.heap.size Wb.drew w') => four B7 (Below.trans (Below.refl _ _).drew h)
    have Dr := fun w' (h : Below Wb.heap.size Wb.drew w') => (hVr.ext (Below.trans (Below.refl _ _).drew h)).at_ Hri.out.key
    refine wp_region_tree (S := fun w' => Below Wb.heap.size Wb.drew w') (.take 0 (.take 1 (.take 2 (.take 3 (.take 4 (.take 5 (.take 6 (.two 7 12 (.take 8 (.take 9 (.take 10 (.take 11 (.one 12 (.one 13 (.take 14 (.take 15 .nil)))))))) (.one 7 (.take 8 (.take 9 (.take 10 (.take 11 (.one 13 (.take 14 (.take 15 .nil))))))))))))))))
      (by kernel_rfl) (by kernel_rfl) (by kernel_rfl) (by decide) (by intro c a d v w h; cases d <;> exact h) (Below.refl _ _) ?_
    repeat ((with_reducible show wpTree _ _ _ _ (.take _ _) _ _); (first | (refine wpTree_on (v := ?_) rfl rfl (wanted_free rfl) (fun w' hS => ?_) ?_; rotate_left; (focus (go_simp; (try with_reducible rfl); done)); try simp only [List.setIfInBounds_toArray, List.set_cons_zero, List.set_cons_succ]) | (refine wpTree_on (v := ?_) rfl rfl (wanted_yes rfl rfl rfl) (fun w' hS => ?_) ?_; rotate_left; (focus (go_simp; (try with_reducible rfl); done)); try simp only [List.setIfInBounds_toArray, List.set_cons_zero, List.set_cons_succ]) | (refine wpTree_off rfl rfl (wanted_no rfl rfl rfl) ?_; try simp only [List.setIfInBounds_toArray, List.set_cons_zero, List.set_cons_succ]) | (refine wpTree_off rfl rfl (wanted_undef rfl rfl rfl) ?_; try simp only [List.setIfInBounds_toArray, List.set_cons_zero, List.set_cons_succ])))
    have hd5 : Below Wb.heap.size Wb Wb.drew := (Below.refl _ _).drew
    have hd5' : Wb.heap.size ≤ Wb.drew.heap.size := Nat.le_refl _
    clear D7 Dr
    generalize Wb.drew = wd at *
    refine wpTree_both rfl (wanted_free rfl) rfl (wanted_free rfl) (fun K hK => ?_) (fun K hK => ?_)
    · go_simp
      refine (Htake.out _ hd5).mono ?_
      rintro e w6 ⟨v, At, mt, ct, rfl, hT6, hVt, hb6⟩
      have hT6' := hT6
      obtain ⟨A5, n5, c5, A6, n6, c6, rfl, _, hRn, _⟩ := hT6
      have hRn := Lib.hid hRn.len
      have hb6' : Below Wb.heap.size wd w6 := hb6.mono hd5'
      refine hK.out _ _ hb6' ?_
      clear hK K
      simp only [tabA]
      repeat ((with_reducible show wpTree _ _ _ _ (.take _ _) _ _); (first | (refine wpTree_on (v := ?_) rfl rfl (wanted_free rfl) (fun w' hS => ?_) ?_; rotate_left; (focus (go_simp; (try with_reducible rfl); done)); try simp only [List.setIfInBounds_toArray, List.set_cons_zero, List.set_cons_succ]) | (refine wpTree_on (v := ?_) rfl rfl (wanted_yes rfl rfl rfl) (fun w' hS => ?_) ?_; rotate_left; (focus (go_simp; (try with_reducible rfl); done)); try simp only [List.setIfInBounds_toArray, List.set_cons_zero, List.set_cons_succ]) | (refine wpTree_off rfl rfl (wanted_no rfl rfl rfl) ?_; try simp only [List.setIfInBounds_toArray, List.set_cons_zero, List.set_cons_succ]) | (refine wpTree_off rfl rfl (wanted_undef rfl rfl rfl) ?_; try simp only [List.setIfInBounds_toArray, List.set_cons_zero, List.set_cons_succ])))
      refine wpTree_do rfl (wanted_free rfl) (fun K hK => ?_); go_simp
      refine hK.out _ _ (hb6'.alloc (by have := hb6.size; omega) _) ?_
      clear hK K
      have B17 : Blk (w6.alloc (.cells #[.string ⟨#[]⟩, .slice none 0 0, .int .i64 0, .bool false, .slice none 0 0] 32)) w6.heap.size 32 #[.string ⟨#[]⟩, .slice none 0 0, .int .i64 0, .bool false, .slice none 0 0] := Blk.new _ _ _
      have f0 := B17.frozen 0
      have f1 := B17.frozen 1
      have f2 := B17.frozen 2
      have f3 := B17.frozen 3
      have f4 := B17.frozen 4
      have q := five B17 (Below.refl _ _)
      refine wpTree_do rfl (wanted_free rfl) (fun K hK => ?_); go_simp
      clear f0 f1 f2 f3 f4 q B17
      obtain ⟨w7, hw7⟩ : ∃ w7, w7 = w6.alloc (.cells #[.string S.name, .slice A5 n5 c5, .int .i64 S.key, .bool S.only, .slice A6 n6 c6] 32) := ⟨_, rfl⟩
      have hb67 : Below w6.heap.size w6 w7 := by rw [hw7]; exact (Below.refl _ _).alloc (Nat.le_refl _) _
      have B17 : Blk w7 w6.heap.size 32 #[.string S.name, .slice A5 n5 c5, .int .i64 S.key, .bool S.only, .slice A6 n6 c6] := by rw [hw7]; exact Blk.new _ _ _
      rw [← hw7]
      clear hw7
      have hT7 := (hT6'.ext hb67).base (Nat.zero_le _)
      have hVt := (hVt.ext hb67).base (Nat.zero_le _)
      have hb7' := Below.trans hb6' (Below.mono hb67 (by have := hb6.size; omega))
      have hb7 : Below Wb.heap.size Wb w7 := Below.trans hd5 hb7'
      refine hK.out _ _ hb7' ?_
      clear hK K
      repeat ((with_reducible show wpTree _ _ _ _ (.take _ _) _ _); (first | (refine wpTree_on (v := ?_) rfl rfl (wanted_free rfl) (fun w' hS => ?_) ?_; rotate_left; (focus (go_simp; (try with_reducible rfl); done)); try simp only [List.setIfInBounds_toArray, List.set_cons_zero, List.set_cons_succ]) | (refine wpTree_on (v := ?_) rfl rfl (wanted_yes rfl rfl rfl) (fun w' hS => ?_) ?_; rotate_left; (focus (go_simp; (try with_reducible rfl); done)); try simp only [List.setIfInBounds_toArray, List.set_cons_zero, List.set_cons_succ]) | (refine wpTree_off rfl rfl (wanted_no rfl rfl rfl) ?_; try simp only [List.setIfInBounds_toArray, List.set_cons_zero, List.set_cons_succ]) | (refine wpTree_off rfl rfl (wanted_undef rfl rfl rfl) ?_; try simp only [List.setIfInBounds_toArray, List.set_cons_zero, List.set_cons_succ])))
      refine wpTree_end ?_
      generalize w6.heap.size = g17 at *
      have q17 := five B17 (Below.refl _ _)
      have q13 := five B13 hb7
      have q9 := five B9 hb7
      obtain rfl : 0 = n6 := hRn.out
      go_wp2_with fail
      refine (same_ S [r] 0 0 _ _ _ hn7 (by simp) (hOk1.out.small hn7) (hTx.ext hb7) ((TabR.of hC9 hR9 hF9).ext hb7)).mono ?_
      rintro e wz ⟨rfl, hbz⟩
      clear q17 q13 q9
      have q17 := five B17 hbz
      go_wp2
      go_ret
      exact ⟨rfl, Below.trans (Below.trans hbwb (Below.mono hb7 hbwb.size)) (Below.mono hbz (by have := hb7.size; have := hbwb.size; omega))⟩
    · go_simp
      refine hK.out _ _ ((Below.refl Wb.heap.size wd).alloc hd5' _) ?_
      clear hK K
      have B12 : Blk (wd.alloc (.cells #[.string ⟨#[]⟩, .slice none 0 0, .int .i64 0, .bool false, .slice none 0 0] 32)) wd.heap.size 32 #[.string ⟨#[]⟩, .slice none 0 0, .int .i64 0, .bool false, .slice none 0 0] := Blk.new _ _ _
      have hda : Below Wb.heap.size wd (wd.alloc (.cells #[.string ⟨#[]⟩, .slice none 0 0, .int .i64 0, .bool false, .slice none 0 0] 32)) := (Below.refl Wb.heap.size wd).alloc hd5' _
      have hgd : wd.heap.size < (wd.alloc (.cells #[.string ⟨#[]⟩, .slice none 0 0, .int .i64 0, .bool false, .slice none 0 0] 32)).heap.size := B12.lt
      generalize hwe : wd.alloc (.cells #[.string ⟨#[]⟩, .slice none 0 0, .int .i64 0, .bool false, .slice none 0 0] 32) = we at *
      clear hwe
      generalize wd.heap.size = g17 at *
      refine wpTree_do rfl (wanted_free rfl) (fun K hK => ?_); go_simp
      refine (Htake.out _ (Below.trans hd5 hda)).mono ?_
      rintro e w6 ⟨v, At, mt, ct, rfl, hT6, hVt, hb6⟩
      have hT6' := hT6
      obtain ⟨A5, n5, c5, A6, n6, c6, rfl, _, hRn, _⟩ := hT6
      have hRn := Lib.hid hRn.len
      have hb6' : Below Wb.heap.size wd w6 := Below.trans hda (hb6.mono (by omega))
      refine hK.out _ _ hb6' ?_
      clear hK K
      simp only [tabA]
      repeat ((with_reducible show wpTree _ _ _ _ (.take _ _) _ _); (first | (refine wpTree_on (v := ?_) rfl rfl (wanted_free rfl) (fun w' hS => ?_) ?_; rotate_left; (focus (go_simp; (try with_reducible rfl); done)); try simp only [List.setIfInBounds_toArray, List.set_cons_zero, List.set_cons_succ]) | (refine wpTree_on (v := ?_) rfl rfl (wanted_yes rfl rfl rfl) (fun w' hS => ?_) ?_; rotate_left; (focus (go_simp; (try with_reducible rfl); done)); try simp only [List.setIfInBounds_toArray, List.set_cons_zero, List.set_cons_succ]) | (refine wpTree_off rfl rfl (wanted_no rfl rfl rfl) ?_; try simp only [List.setIfInBounds_toArray, List.set_cons_zero, List.set_cons_succ]) | (refine wpTree_off rfl rfl (wanted_undef rfl rfl rfl) ?_; try simp only [List.setIfInBounds_toArray, List.set_cons_zero, List.set_cons_succ])))
      have B12 := B12.ext hb6
      have f0 := B12.frozen 0
      have f1 := B12.frozen 1
      have f2 := B12.frozen 2
      have f3 := B12.frozen 3
      have f4 := B12.frozen 4
      have q := five B12 (Below.refl _ _)
      refine wpTree_do rfl (wanted_free rfl) (fun K hK => ?_); go_simp
      clear f0 f1 f2 f3 f4 q
      obtain ⟨w7, hw7, B17, hlow7, hgr7⟩ := Blk.set5 B12 (.string S.name) (.slice A5 n5 c5) (.int .i64 S.key) (.bool S.only) (.slice A6 n6 c6)
      rw [← hw7]
      clear hw7 B12
      have hT7 := (hT6'.grownL hgr7 hgd).base (Nat.zero_le _)
      have hVt := (hVt.grownL hgr7 hgd).base (Nat.zero_le _)
      have hb7' := Below.trans hb6' (hlow7 Wb.heap.size hd5')
      have hb7 : Below Wb.heap.size Wb w7 := Below.trans hd5 hb7'
      refine hK.out _ _ hb7' ?_
      clear hK K
      repeat ((with_reducible show wpTree _ _ _ _ (.take _ _) _ _); (first | (refine wpTree_on (v := ?_) rfl rfl (wanted_free rfl) (fun w' hS => ?_) ?_; rotate_left; (focus (go_simp; (try with_reducible rfl); done)); try simp only [List.setIfInBounds_toArray, List.set_cons_zero, List.set_cons_succ]) | (refine wpTree_on (v := ?_) rfl rfl (wanted_yes rfl rfl rfl) (fun w' hS => ?_) ?_; rotate_left; (focus (go_simp; (try with_reducible rfl); done)); try simp only [List.setIfInBounds_toArray, List.set_cons_zero, List.set_cons_succ]) | (refine wpTree_off rfl rfl (wanted_no rfl rfl rfl) ?_; try simp only [List.setIfInBounds_toArray, List.set_cons_zero, List.set_cons_succ]) | (refine wpTree_off rfl rfl (wanted_undef rfl rfl rfl) ?_; try simp only [List.setIfInBounds_toArray, List.set_cons_zero, List.set_cons_succ])))
      refine wpTree_end ?_
      have q17 := five B17 (Below.refl _ _)
      have q13 := five B13 hb7
      have q9 := five B9 hb7
      obtain rfl : 0 = n6 := hRn.out
      go_wp2_with fail
      refine (same_ S [r] 0 0 _ _ _ hn7 (by simp) (hOk1.out.small hn7) (hTx.ext hb7) ((TabR.of hC9 hR9 hF9).ext hb7)).mono ?_
      rintro e wz ⟨rfl, hbz⟩
      clear q17 q13 q9
      have q17 := five B17 hbz
      go_wp2
      go_ret
      exact ⟨rfl, Below.trans (Below.trans hbwb (Below.mono hb7 hbwb.size)) (Below.mono hbz (by have := hb7.size; have := hbwb.size; omega))⟩
  case inr.inr.inl =>
    have q7 := four B7 hb8
    obtain ⟨⟨q0, q1, q2⟩, f0, f1, f2⟩ := own_six hown8.out (show r[S.key]? = some kv from Hri.out.key)
    go_upto_region 19 with fail
    clear q7 q0 q1 q2 f0 f1 f2
    obtain ⟨wx, hwx0, hownx, hgrx, hlowx⟩ := own_set hown8.out S.key (by omega) zV
    have hwx : wx = ((w8.setCell ⟨g8, S.key * 3, none⟩ (.int .i64 0)).setCell ⟨g8, S.key * 3 + 1, none⟩ (.int .i64 0)).setCell ⟨g8, S.key * 3 + 2, none⟩ (.string ⟨#[]⟩) := hwx0
    rw [← hwx]
    clear hwx hwx0
    have hb6x : Below w6.heap.size w6 wx := Below.trans hb8 (hlowx _ (by omega))
    have B9 : Blk wx _ 32 #[.string S.name, .slice A9 n9 c9, .int .i64 S.key, .bool S.only, .slice A10 n10 c10] := B9.grown hgrx (by simp; omega)
    have hVx : Vs wx 0 (some ⟨g8, 0, none⟩) S.cols.length c8 (r.set S.key zV) := (Vs.of_own hownx).base (Nat.zero_le _)
    obtain ⟨Ax, hAx⟩ : ∃ Ax, Ax = some (⟨g8, 0, none⟩ : Addr) := ⟨_, rfl⟩
    rw [← hAx] at hVx ⊢
    obtain ⟨cx, hcx⟩ : ∃ cx, cx = c8 := ⟨_, rfl⟩
    rw [← hcx] at hVx ⊢
    clear hAx hcx hgrx hownx
    have hbwx := Below.trans hbw6 (Below.mono hb6x hbw6.size)
    have B7 := B7.ext hb6x
    have hVr := hVr.ext hb6x
    have hC7 := hC7.ext hb6x
    have hC9 := hC9.ext hb6x
    have hR9 := hR9.ext hb6x
    clear hown8 hb8 hb6x

    have q9 := five B9 (Below.refl _ _)
    go_wp2_with fail
    clear q9
    refine (put_ S [r] (r.set S.key zV) 0 A9 n9 c9 A10 n10 c10 0 Ax S.cols.length cx _ hC9 hR9 hF9 hVx (small_set Hri.out.small _ _ (by decide)) hOk1.out hn7 (by simp) (by omega)).mono ?_
    rw [put_bad (fits_null hS Hri.out) (by decide)]
    rintro e wa ⟨v, rfl, hTx, hba⟩
    obtain ⟨A13, n13, c13, A14, n14, c14, rfl, hCx, hRx, hFx⟩ := hTx
    simp only [tabA]
    have hbwa := Below.trans hbwx (Below.mono hba hbwx.size)
    have B7 := B7.ext hba
    have B9 : Blk wa _ 32 #[.string S.name, .slice A9 n9 c9, .int .i64 S.key, .bool S.only, .slice A10 n10 c10] := B9.ext hba
    have hVr := hVr.ext hba
    have hC7 := hC7.ext hba
    have hC9 := hC9.ext hba
    have hR9 := hR9.ext hba
    have hTx : TabR wa 0 (.agg (tabA S A13 n13 c13 A14 n14 c14)) S [r] := TabR.of (hCx.base (Nat.zero_le _)) (hRx.base (Nat.zero_le _)) hFx
    clear hCx hRx hFx hba
    go_wp2_with fail
    obtain ⟨Wb, hW_, hbb, B13⟩ : ∃ W_, W_ = (wa.alloc (.cells #[.string S.name, .slice A13 n13 c13, .int .i64 S.key, .bool S.only, .slice A14 n14 c14] 32)) ∧ Below wa.heap.size wa W_ ∧ Blk W_ (wa.heap.size) 32 #[.string S.name, .slice A13 n13 c13, .int .i64 S.key, .bool S.only, .slice A14 n14 c14] :=
      ⟨_, rfl, ((Below.refl _ _).alloc (Nat.le_refl _) _), (blk_new_at wa (wa.heap.size) _ _ (by simp))⟩
    rw [← hW_]
    clear hW_
    have hbwb := Below.trans hbwa (Below.mono hbb hbwa.size)
    have B7 := B7.ext hbb
    have B9 : Blk Wb _ 32 #[.string S.name, .slice A9 n9 c9, .int .i64 S.key, .bool S.only, .slice A10 n10 c10] := B9.ext hbb
    have hVr := hVr.ext hbb
    have hC7 := hC7.ext hbb
    have hC9 := hC9.ext hbb
    have hR9 := hR9.ext hbb
    have hTx := hTx.ext hbb
    clear hbb
    have Htake := Lib.hid (fun w' (h : Below Wb.heap.size Wb w') => (show Calls _ _ _ _ (TakeP S (2, []) [] w') from take_ S [] kv 0 A7 S.cols.length c7 none 0 0 w' (hC7.ext h) (Rs.nil _ 0) (.inl rfl) hS.ok0 hn7 (by decide)))
    have D7 := fun w' (h : Below Wb.heap.size Wb.drew w') => four B7 (Below.trans (Below.refl _ _).drew h)
    have Dr := fun w' (h : Below Wb.heap.size Wb.drew w') => (hVr.ext (Below.trans (Below.refl _ _).drew h)).at_ Hri.out.key
    refine wp_region_tree (S := fun w' => Below Wb.heap.size Wb.drew w') (.take 0 (.take 1 (.take 2 (.take 3 (.take 4 (.take 5 (.take 6 (.two 7 12 (.take 8 (.take 9 (.take 10 (.take 11 (.one 12 (.one 13 (.take 14 (.take 15 .nil)))))))) (.one 7 (.take 8 (.take 9 (.take 10 (.take 11 (.one 13 (.take 14 (.take 15 .nil))))))))))))))))
      (by kernel_rfl) (by kernel_rfl) (by kernel_rfl) (by decide) (by intro c a d v w h; cases d <;> exact h) (Below.refl _ _) ?_
    repeat ((with_reducible show wpTree _ _ _ _ (.take _ _) _ _); (first | (refine wpTree_on (v := ?_) rfl rfl (wanted_free rfl) (fun w' hS => ?_) ?_; rotate_left; (focus (go_simp; (try with_reducible rfl); done)); try simp only [List.setIfInBounds_toArray, List.set_cons_zero, List.set_cons_succ]) | (refine wpTree_on (v := ?_) rfl rfl (wanted_yes rfl rfl rfl) (fun w' hS => ?_) ?_; rotate_left; (focus (go_simp; (try with_reducible rfl); done)); try simp only [List.setIfInBounds_toArray, List.set_cons_zero, List.set_cons_succ]) | (refine wpTree_off rfl rfl (wanted_no rfl rfl rfl) ?_; try simp only [List.setIfInBounds_toArray, List.set_cons_zero, List.set_cons_succ]) | (refine wpTree_off rfl rfl (wanted_undef rfl rfl rfl) ?_; try simp only [List.setIfInBounds_toArray, List.set_cons_zero, List.set_cons_succ])))
    have hd5 : Below Wb.heap.size Wb Wb.drew := (Below.refl _ _).drew
    have hd5' : Wb.heap.size ≤ Wb.drew.heap.size := Nat.le_refl _
    clear D7 Dr
    generalize Wb.drew = wd at *
    refine wpTree_both rfl (wanted_free rfl) rfl (wanted_free rfl) (fun K hK => ?_) (fun K hK => ?_)
    · go_simp
      refine (Htake.out _ hd5).mono ?_
      rintro e w6 ⟨v, At, mt, ct, rfl, hT6, hVt, hb6⟩
      have hT6' := hT6
      obtain ⟨A5, n5, c5, A6, n6, c6, rfl, _, hRn, _⟩ := hT6
      have hRn := Lib.hid hRn.len
      have hb6' : Below Wb.heap.size wd w6 := hb6.mono hd5'
      refine hK.out _ _ hb6' ?_
      clear hK K
      simp only [tabA]
      repeat ((with_reducible show wpTree _ _ _ _ (.take _ _) _ _); (first | (refine wpTree_on (v := ?_) rfl rfl (wanted_free rfl) (fun w' hS => ?_) ?_; rotate_left; (focus (go_simp; (try with_reducible rfl); done)); try simp only [List.setIfInBounds_toArray, List.set_cons_zero, List.set_cons_succ]) | (refine wpTree_on (v := ?_) rfl rfl (wanted_yes rfl rfl rfl) (fun w' hS => ?_) ?_; rotate_left; (focus (go_simp; (try with_reducible rfl); done)); try simp only [List.setIfInBounds_toArray, List.set_cons_zero, List.set_cons_succ]) | (refine wpTree_off rfl rfl (wanted_no rfl rfl rfl) ?_; try simp only [List.setIfInBounds_toArray, List.set_cons_zero, List.set_cons_succ]) | (refine wpTree_off rfl rfl (wanted_undef rfl rfl rfl) ?_; try simp only [List.setIfInBounds_toArray, List.set_cons_zero, List.set_cons_succ])))
      refine wpTree_do rfl (wanted_free rfl) (fun K hK => ?_); go_simp
      refine hK.out _ _ (hb6'.alloc (by have := hb6.size; omega) _) ?_
      clear hK K
      have B17 : Blk (w6.alloc (.cells #[.string ⟨#[]⟩, .slice none 0 0, .int .i64 0, .bool false, .slice none 0 0] 32)) w6.heap.size 32 #[.string ⟨#[]⟩, .slice none 0 0, .int .i64 0, .bool false, .slice none 0 0] := Blk.new _ _ _
      have f0 := B17.frozen 0
      have f1 := B17.frozen 1
      have f2 := B17.frozen 2
      have f3 := B17.frozen 3
      have f4 := B17.frozen 4
      have q := five B17 (Below.refl _ _)
      refine wpTree_do rfl (wanted_free rfl) (fun K hK => ?_); go_simp
      clear f0 f1 f2 f3 f4 q B17
      obtain ⟨w7, hw7⟩ : ∃ w7, w7 = w6.alloc (.cells #[.string S.name, .slice A5 n5 c5, .int .i64 S.key, .bool S.only, .slice A6 n6 c6] 32) := ⟨_, rfl⟩
      have hb67 : Below w6.heap.size w6 w7 := by rw [hw7]; exact (Below.refl _ _).alloc (Nat.le_refl _) _
      have B17 : Blk w7 w6.heap.size 32 #[.string S.name, .slice A5 n5 c5, .int .i64 S.key, .bool S.only, .slice A6 n6 c6] := by rw [hw7]; exact Blk.new _ _ _
      rw [← hw7]
      clear hw7
      have hT7 := (hT6'.ext hb67).base (Nat.zero_le _)
      have hVt := (hVt.ext hb67).base (Nat.zero_le _)
      have hb7' := Below.trans hb6' (Below.mono hb67 (by have := hb6.size; omega))
      have hb7 : Below Wb.heap.size Wb w7 := Below.trans hd5 hb7'
      refine hK.out _ _ hb7' ?_
      clear hK K
      repeat ((with_reducible show wpTree _ _ _ _ (.take _ _) _ _); (first | (refine wpTree_on (v := ?_) rfl rfl (wanted_free rfl) (fun w' hS => ?_) ?_; rotate_left; (focus (go_simp; (try with_reducible rfl); done)); try simp only [List.setIfInBounds_toArray, List.set_cons_zero, List.set_cons_succ]) | (refine wpTree_on (v := ?_) rfl rfl (wanted_yes rfl rfl rfl) (fun w' hS => ?_) ?_; rotate_left; (focus (go_simp; (try with_reducible rfl); done)); try simp only [List.setIfInBounds_toArray, List.set_cons_zero, List.set_cons_succ]) | (refine wpTree_off rfl rfl (wanted_no rfl rfl rfl) ?_; try simp only [List.setIfInBounds_toArray, List.set_cons_zero, List.set_cons_succ]) | (refine wpTree_off rfl rfl (wanted_undef rfl rfl rfl) ?_; try simp only [List.setIfInBounds_toArray, List.set_cons_zero, List.set_cons_succ])))
      refine wpTree_end ?_
      generalize w6.heap.size = g17 at *
      have q17 := five B17 (Below.refl _ _)
      have q13 := five B13 hb7
      have q9 := five B9 hb7
      obtain rfl : 0 = n6 := hRn.out
      go_wp2_with fail
      refine (same_ S [r] 0 0 _ _ _ hn7 (by simp) (hOk1.out.small hn7) (hTx.ext hb7) ((TabR.of hC9 hR9 hF9).ext hb7)).mono ?_
      rintro e wz ⟨rfl, hbz⟩
      clear q17 q13 q9
      have q17 := five B17 hbz
      go_wp2
      go_ret
      exact ⟨rfl, Below.trans (Below.trans hbwb (Below.mono hb7 hbwb.size)) (Below.mono hbz (by have := hb7.size; have := hbwb.size; omega))⟩
    · go_simp
      refine hK.out _ _ ((Below.refl Wb.heap.size wd).alloc hd5' _) ?_
      clear hK K
      have B12 : Blk (wd.alloc (.cells #[.string ⟨#[]⟩, .slice none 0 0, .int .i64 0, .bool false, .slice none 0 0] 32)) wd.heap.size 32 #[.string ⟨#[]⟩, .slice none 0 0, .int .i64 0, .bool false, .slice none 0 0] := Blk.new _ _ _
      have hda : Below Wb.heap.size wd (wd.alloc (.cells #[.string ⟨#[]⟩, .slice none 0 0, .int .i64 0, .bool false, .slice none 0 0] 32)) := (Below.refl Wb.heap.size wd).alloc hd5' _
      have hgd : wd.heap.size < (wd.alloc (.cells #[.string ⟨#[]⟩, .slice none 0 0, .int .i64 0, .bool false, .slice none 0 0] 32)).heap.size := B12.lt
      generalize hwe : wd.alloc (.cells #[.string ⟨#[]⟩, .slice none 0 0, .int .i64 0, .bool false, .slice none 0 0] 32) = we at *
      clear hwe
      generalize wd.heap.size = g17 at *
      refine wpTree_do rfl (wanted_free rfl) (fun K hK => ?_); go_simp
      refine (Htake.out _ (Below.trans hd5 hda)).mono ?_
      rintro e w6 ⟨v, At, mt, ct, rfl, hT6, hVt, hb6⟩
      have hT6' := hT6
      obtain ⟨A5, n5, c5, A6, n6, c6, rfl, _, hRn, _⟩ := hT6
      have hRn := Lib.hid hRn.len
      have hb6' : Below Wb.heap.size wd w6 := Below.trans hda (hb6.mono (by omega))
      refine hK.out _ _ hb6' ?_
      clear hK K
      simp only [tabA]
      repeat ((with_reducible show wpTree _ _ _ _ (.take _ _) _ _); (first | (refine wpTree_on (v := ?_) rfl rfl (wanted_free rfl) (fun w' hS => ?_) ?_; rotate_left; (focus (go_simp; (try with_reducible rfl); done)); try simp only [List.setIfInBounds_toArray, List.set_cons_zero, List.set_cons_succ]) | (refine wpTree_on (v := ?_) rfl rfl (wanted_yes rfl rfl rfl) (fun w' hS => ?_) ?_; rotate_left; (focus (go_simp; (try with_reducible rfl); done)); try simp only [List.setIfInBounds_toArray, List.set_cons_zero, List.set_cons_succ]) | (refine wpTree_off rfl rfl (wanted_no rfl rfl rfl) ?_; try simp only [List.setIfInBounds_toArray, List.set_cons_zero, List.set_cons_succ]) | (refine wpTree_off rfl rfl (wanted_undef rfl rfl rfl) ?_; try simp only [List.setIfInBounds_toArray, List.set_cons_zero, List.set_cons_succ])))
      have B12 := B12.ext hb6
      have f0 := B12.frozen 0
      have f1 := B12.frozen 1
      have f2 := B12.frozen 2
      have f3 := B12.frozen 3
      have f4 := B12.frozen 4
      have q := five B12 (Below.refl _ _)
      refine wpTree_do rfl (wanted_free rfl) (fun K hK => ?_); go_simp
      clear f0 f1 f2 f3 f4 q
      obtain ⟨w7, hw7, B17, hlow7, hgr7⟩ := Blk.set5 B12 (.string S.name) (.slice A5 n5 c5) (.int .i64 S.key) (.bool S.only) (.slice A6 n6 c6)
      rw [← hw7]
      clear hw7 B12
      have hT7 := (hT6'.grownL hgr7 hgd).base (Nat.zero_le _)
      have hVt := (hVt.grownL hgr7 hgd).base (Nat.zero_le _)
      have hb7' := Below.trans hb6' (hlow7 Wb.heap.size hd5')
      have hb7 : Below Wb.heap.size Wb w7 := Below.trans hd5 hb7'
      refine hK.out _ _ hb7' ?_
      clear hK K
      repeat ((with_reducible show wpTree _ _ _ _ (.take _ _) _ _); (first | (refine wpTree_on (v := ?_) rfl rfl (wanted_free rfl) (fun w' hS => ?_) ?_; rotate_left; (focus (go_simp; (try with_reducible rfl); done)); try simp only [List.setIfInBounds_toArray, List.set_cons_zero, List.set_cons_succ]) | (refine wpTree_on (v := ?_) rfl rfl (wanted_yes rfl rfl rfl) (fun w' hS => ?_) ?_; rotate_left; (focus (go_simp; (try with_reducible rfl); done)); try simp only [List.setIfInBounds_toArray, List.set_cons_zero, List.set_cons_succ]) | (refine wpTree_off rfl rfl (wanted_no rfl rfl rfl) ?_; try simp only [List.setIfInBounds_toArray, List.set_cons_zero, List.set_cons_succ]) | (refine wpTree_off rfl rfl (wanted_undef rfl rfl rfl) ?_; try simp only [List.setIfInBounds_toArray, List.set_cons_zero, List.set_cons_succ])))
      refine wpTree_end ?_
      have q17 := five B17 (Below.refl _ _)
      have q13 := five B13 hb7
      have q9 := five B9 hb7
      obtain rfl : 0 = n6 := hRn.out
      go_wp2_with fail
      refine (same_ S [r] 0 0 _ _ _ hn7 (by simp) (hOk1.out.small hn7) (hTx.ext hb7) ((TabR.of hC9 hR9 hF9).ext hb7)).mono ?_
      rintro e wz ⟨rfl, hbz⟩
      clear q17 q13 q9
      have q17 := five B17 hbz
      go_wp2
      go_ret
      exact ⟨rfl, Below.trans (Below.trans hbwb (Below.mono hb7 hbwb.size)) (Below.mono hbz (by have := hb7.size; have := hbwb.size; omega))⟩
  case inr.inr.inr =>
    have q7 := four B7 hb8
    obtain ⟨⟨q0, q1, q2⟩, f0, f1, f2⟩ := own_six hown8.out (show r[S.key]? = some kv from Hri.out.key)
    go_upto_region 19 with fail
    clear q7 q0 q1 q2 f0 f1 f2
    obtain ⟨wx, hwx0, hownx, hgrx, hlowx⟩ := own_set hown8.out S.key (by omega) ⟨9, 0, ByteArray.empty⟩
    have hwx : wx = ((w8.setCell ⟨g8, S.key * 3, none⟩ (.int .i64 9)).setCell ⟨g8, S.key * 3 + 1, none⟩ (.int .i64 0)).setCell ⟨g8, S.key * 3 + 2, none⟩ (.string ⟨#[]⟩) := hwx0
    rw [← hwx]
    clear hwx hwx0
    have hb6x : Below w6.heap.size w6 wx := Below.trans hb8 (hlowx _ (by omega))
    have B9 : Blk wx _ 32 #[.string S.name, .slice A9 n9 c9, .int .i64 S.key, .bool S.only, .slice A10 n10 c10] := B9.grown hgrx (by simp; omega)
    have hVx : Vs wx 0 (some ⟨g8, 0, none⟩) S.cols.length c8 (r.set S.key ⟨9, 0, ByteArray.empty⟩) := (Vs.of_own hownx).base (Nat.zero_le _)
    obtain ⟨Ax, hAx⟩ : ∃ Ax, Ax = some (⟨g8, 0, none⟩ : Addr) := ⟨_, rfl⟩
    rw [← hAx] at hVx ⊢
    obtain ⟨cx, hcx⟩ : ∃ cx, cx = c8 := ⟨_, rfl⟩
    rw [← hcx] at hVx ⊢
    clear hAx hcx hgrx hownx
    have hbwx := Below.trans hbw6 (Below.mono hb6x hbw6.size)
    have B7 := B7.ext hb6x
    have hVr := hVr.ext hb6x
    have hC7 := hC7.ext hb6x
    have hC9 := hC9.ext hb6x
    have hR9 := hR9.ext hb6x
    clear hown8 hb8 hb6x

    have q9 := five B9 (Below.refl _ _)
    go_wp2_with fail
    clear q9
    refine (put_ S [r] (r.set S.key ⟨9, 0, ByteArray.empty⟩) 0 A9 n9 c9 A10 n10 c10 0 Ax S.cols.length cx _ hC9 hR9 hF9 hVx (small_set Hri.out.small _ _ (by decide)) hOk1.out hn7 (by simp) (by omega)).mono ?_
    rw [put_bad (fits_nine hS Hri.out) (by decide)]
    rintro e wa ⟨v, rfl, hTx, hba⟩
    obtain ⟨A13, n13, c13, A14, n14, c14, rfl, hCx, hRx, hFx⟩ := hTx
    simp only [tabA]
    have hbwa := Below.trans hbwx (Below.mono hba hbwx.size)
    have B7 := B7.ext hba
    have B9 : Blk wa _ 32 #[.string S.name, .slice A9 n9 c9, .int .i64 S.key, .bool S.only, .slice A10 n10 c10] := B9.ext hba
    have hVr := hVr.ext hba
    have hC7 := hC7.ext hba
    have hC9 := hC9.ext hba
    have hR9 := hR9.ext hba
    have hTx : TabR wa 0 (.agg (tabA S A13 n13 c13 A14 n14 c14)) S [r] := TabR.of (hCx.base (Nat.zero_le _)) (hRx.base (Nat.zero_le _)) hFx
    clear hCx hRx hFx hba
    go_wp2_with fail
    obtain ⟨Wb, hW_, hbb, B13⟩ : ∃ W_, W_ = (wa.alloc (.cells #[.string S.name, .slice A13 n13 c13, .int .i64 S.key, .bool S.only, .slice A14 n14 c14] 32)) ∧ Below wa.heap.size wa W_ ∧ Blk W_ (wa.heap.size) 32 #[.string S.name, .slice A13 n13 c13, .int .i64 S.key, .bool S.only, .slice A14 n14 c14] :=
      ⟨_, rfl, ((Below.refl _ _).alloc (Nat.le_refl _) _), (blk_new_at wa (wa.heap.size) _ _ (by simp))⟩
    rw [← hW_]
    clear hW_
    have hbwb := Below.trans hbwa (Below.mono hbb hbwa.size)
    have B7 := B7.ext hbb
    have B9 : Blk Wb _ 32 #[.string S.name, .slice A9 n9 c9, .int .i64 S.key, .bool S.only, .slice A10 n10 c10] := B9.ext hbb
    have hVr := hVr.ext hbb
    have hC7 := hC7.ext hbb
    have hC9 := hC9.ext hbb
    have hR9 := hR9.ext hbb
    have hTx := hTx.ext hbb
    clear hbb
    have Htake := Lib.hid (fun w' (h : Below Wb.heap.size Wb w') => (show Calls _ _ _ _ (TakeP S (2, []) [] w') from take_ S [] kv 0 A7 S.cols.length c7 none 0 0 w' (hC7.ext h) (Rs.nil _ 0) (.inl rfl) hS.ok0 hn7 (by decide)))
    have D7 := fun w' (h : Below Wb.heap.size Wb.drew w') => four B7 (Below.trans (Below.refl _ _).drew h)
    have Dr := fun w' (h : Below Wb.heap.size Wb.drew w') => (hVr.ext (Below.trans (Below.refl _ _).drew h)).at_ Hri.out.key
    refine wp_region_tree (S := fun w' => Below Wb.heap.size Wb.drew w') (.take 0 (.take 1 (.take 2 (.take 3 (.take 4 (.take 5 (.take 6 (.two 7 12 (.take 8 (.take 9 (.take 10 (.take 11 (.one 12 (.one 13 (.take 14 (.take 15 .nil)))))))) (.one 7 (.take 8 (.take 9 (.take 10 (.take 11 (.one 13 (.take 14 (.take 15 .nil))))))))))))))))
      (by kernel_rfl) (by kernel_rfl) (by kernel_rfl) (by decide) (by intro c a d v w h; cases d <;> exact h) (Below.refl _ _) ?_
    repeat ((with_reducible show wpTree _ _ _ _ (.take _ _) _ _); (first | (refine wpTree_on (v := ?_) rfl rfl (wanted_free rfl) (fun w' hS => ?_) ?_; rotate_left; (focus (go_simp; (try with_reducible rfl); done)); try simp only [List.setIfInBounds_toArray, List.set_cons_zero, List.set_cons_succ]) | (refine wpTree_on (v := ?_) rfl rfl (wanted_yes rfl rfl rfl) (fun w' hS => ?_) ?_; rotate_left; (focus (go_simp; (try with_reducible rfl); done)); try simp only [List.setIfInBounds_toArray, List.set_cons_zero, List.set_cons_succ]) | (refine wpTree_off rfl rfl (wanted_no rfl rfl rfl) ?_; try simp only [List.setIfInBounds_toArray, List.set_cons_zero, List.set_cons_succ]) | (refine wpTree_off rfl rfl (wanted_undef rfl rfl rfl) ?_; try simp only [List.setIfInBounds_toArray, List.set_cons_zero, List.set_cons_succ])))
    have hd5 : Below Wb.heap.size Wb Wb.drew := (Below.refl _ _).drew
    have hd5' : Wb.heap.size ≤ Wb.drew.heap.size := Nat.le_refl _
    clear D7 Dr
    generalize Wb.drew = wd at *
    refine wpTree_both rfl (wanted_free rfl) rfl (wanted_free rfl) (fun K hK => ?_) (fun K hK => ?_)
    · go_simp
      refine (Htake.out _ hd5).mono ?_
      rintro e w6 ⟨v, At, mt, ct, rfl, hT6, hVt, hb6⟩
      have hT6' := hT6
      obtain ⟨A5, n5, c5, A6, n6, c6, rfl, _, hRn, _⟩ := hT6
      have hRn := Lib.hid hRn.len
      have hb6' : Below Wb.heap.size wd w6 := hb6.mono hd5'
      refine hK.out _ _ hb6' ?_
      clear hK K
      simp only [tabA]
      repeat ((with_reducible show wpTree _ _ _ _ (.take _ _) _ _); (first | (refine wpTree_on (v := ?_) rfl rfl (wanted_free rfl) (fun w' hS => ?_) ?_; rotate_left; (focus (go_simp; (try with_reducible rfl); done)); try simp only [List.setIfInBounds_toArray, List.set_cons_zero, List.set_cons_succ]) | (refine wpTree_on (v := ?_) rfl rfl (wanted_yes rfl rfl rfl) (fun w' hS => ?_) ?_; rotate_left; (focus (go_simp; (try with_reducible rfl); done)); try simp only [List.setIfInBounds_toArray, List.set_cons_zero, List.set_cons_succ]) | (refine wpTree_off rfl rfl (wanted_no rfl rfl rfl) ?_; try simp only [List.setIfInBounds_toArray, List.set_cons_zero, List.set_cons_succ]) | (refine wpTree_off rfl rfl (wanted_undef rfl rfl rfl) ?_; try simp only [List.setIfInBounds_toArray, List.set_cons_zero, List.set_cons_succ])))
      refine wpTree_do rfl (wanted_free rfl) (fun K hK => ?_); go_simp
      refine hK.out _ _ (hb6'.alloc (by have := hb6.size; omega) _) ?_
      clear hK K
      have B17 : Blk (w6.alloc (.cells #[.string ⟨#[]⟩, .slice none 0 0, .int .i64 0, .bool false, .slice none 0 0] 32)) w6.heap.size 32 #[.string ⟨#[]⟩, .slice none 0 0, .int .i64 0, .bool false, .slice none 0 0] := Blk.new _ _ _
      have f0 := B17.frozen 0
      have f1 := B17.frozen 1
      have f2 := B17.frozen 2
      have f3 := B17.frozen 3
      have f4 := B17.frozen 4
      have q := five B17 (Below.refl _ _)
      refine wpTree_do rfl (wanted_free rfl) (fun K hK => ?_); go_simp
      clear f0 f1 f2 f3 f4 q B17
      obtain ⟨w7, hw7⟩ : ∃ w7, w7 = w6.alloc (.cells #[.string S.name, .slice A5 n5 c5, .int .i64 S.key, .bool S.only, .slice A6 n6 c6] 32) := ⟨_, rfl⟩
      have hb67 : Below w6.heap.size w6 w7 := by rw [hw7]; exact (Below.refl _ _).alloc (Nat.le_refl _) _
      have B17 : Blk w7 w6.heap.size 32 #[.string S.name, .slice A5 n5 c5, .int .i64 S.key, .bool S.only, .slice A6 n6 c6] := by rw [hw7]; exact Blk.new _ _ _
      rw [← hw7]
      clear hw7
      have hT7 := (hT6'.ext hb67).base (Nat.zero_le _)
      have hVt := (hVt.ext hb67).base (Nat.zero_le _)
      have hb7' := Below.trans hb6' (Below.mono hb67 (by have := hb6.size; omega))
      have hb7 : Below Wb.heap.size Wb w7 := Below.trans hd5 hb7'
      refine hK.out _ _ hb7' ?_
      clear hK K
      repeat ((with_reducible show wpTree _ _ _ _ (.take _ _) _ _); (first | (refine wpTree_on (v := ?_) rfl rfl (wanted_free rfl) (fun w' hS => ?_) ?_; rotate_left; (focus (go_simp; (try with_reducible rfl); done)); try simp only [List.setIfInBounds_toArray, List.set_cons_zero, List.set_cons_succ]) | (refine wpTree_on (v := ?_) rfl rfl (wanted_yes rfl rfl rfl) (fun w' hS => ?_) ?_; rotate_left; (focus (go_simp; (try with_reducible rfl); done)); try simp only [List.setIfInBounds_toArray, List.set_cons_zero, List.set_cons_succ]) | (refine wpTree_off rfl rfl (wanted_no rfl rfl rfl) ?_; try simp only [List.setIfInBounds_toArray, List.set_cons_zero, List.set_cons_succ]) | (refine wpTree_off rfl rfl (wanted_undef rfl rfl rfl) ?_; try simp only [List.setIfInBounds_toArray, List.set_cons_zero, List.set_cons_succ])))
      refine wpTree_end ?_
      generalize w6.heap.size = g17 at *
      have q17 := five B17 (Below.refl _ _)
      have q13 := five B13 hb7
      have q9 := five B9 hb7
      obtain rfl : 0 = n6 := hRn.out
      go_wp2_with fail
      refine (same_ S [r] 0 0 _ _ _ hn7 (by simp) (hOk1.out.small hn7) (hTx.ext hb7) ((TabR.of hC9 hR9 hF9).ext hb7)).mono ?_
      rintro e wz ⟨rfl, hbz⟩
      clear q17 q13 q9
      have q17 := five B17 hbz
      go_wp2
      go_ret
      exact ⟨rfl, Below.trans (Below.trans hbwb (Below.mono hb7 hbwb.size)) (Below.mono hbz (by have := hb7.size; have := hbwb.size; omega))⟩
    · go_simp
      refine hK.out _ _ ((Below.refl Wb.heap.size wd).alloc hd5' _) ?_
      clear hK K
      have B12 : Blk (wd.alloc (.cells #[.string ⟨#[]⟩, .slice none 0 0, .int .i64 0, .bool false, .slice none 0 0] 32)) wd.heap.size 32 #[.string ⟨#[]⟩, .slice none 0 0, .int .i64 0, .bool false, .slice none 0 0] := Blk.new _ _ _
      have hda : Below Wb.heap.size wd (wd.alloc (.cells #[.string ⟨#[]⟩, .slice none 0 0, .int .i64 0, .bool false, .slice none 0 0] 32)) := (Below.refl Wb.heap.size wd).alloc hd5' _
      have hgd : wd.heap.size < (wd.alloc (.cells #[.string ⟨#[]⟩, .slice none 0 0, .int .i64 0, .bool false, .slice none 0 0] 32)).heap.size := B12.lt
      generalize hwe : wd.alloc (.cells #[.string ⟨#[]⟩, .slice none 0 0, .int .i64 0, .bool false, .slice none 0 0] 32) = we at *
      clear hwe
      generalize wd.heap.size = g17 at *
      refine wpTree_do rfl (wanted_free rfl) (fun K hK => ?_); go_simp
      refine (Htake.out _ (Below.trans hd5 hda)).mono ?_
      rintro e w6 ⟨v, At, mt, ct, rfl, hT6, hVt, hb6⟩
      have hT6' := hT6
      obtain ⟨A5, n5, c5, A6, n6, c6, rfl, _, hRn, _⟩ := hT6
      have hRn := Lib.hid hRn.len
      have hb6' : Below Wb.heap.size wd w6 := Below.trans hda (hb6.mono (by omega))
      refine hK.out _ _ hb6' ?_
      clear hK K
      simp only [tabA]
      repeat ((with_reducible show wpTree _ _ _ _ (.take _ _) _ _); (first | (refine wpTree_on (v := ?_) rfl rfl (wanted_free rfl) (fun w' hS => ?_) ?_; rotate_left; (focus (go_simp; (try with_reducible rfl); done)); try simp only [List.setIfInBounds_toArray, List.set_cons_zero, List.set_cons_succ]) | (refine wpTree_on (v := ?_) rfl rfl (wanted_yes rfl rfl rfl) (fun w' hS => ?_) ?_; rotate_left; (focus (go_simp; (try with_reducible rfl); done)); try simp only [List.setIfInBounds_toArray, List.set_cons_zero, List.set_cons_succ]) | (refine wpTree_off rfl rfl (wanted_no rfl rfl rfl) ?_; try simp only [List.setIfInBounds_toArray, List.set_cons_zero, List.set_cons_succ]) | (refine wpTree_off rfl rfl (wanted_undef rfl rfl rfl) ?_; try simp only [List.setIfInBounds_toArray, List.set_cons_zero, List.set_cons_succ])))
      have B12 := B12.ext hb6
      have f0 := B12.frozen 0
      have f1 := B12.frozen 1
      have f2 := B12.frozen 2
      have f3 := B12.frozen 3
      have f4 := B12.frozen 4
      have q := five B12 (Below.refl _ _)
      refine wpTree_do rfl (wanted_free rfl) (fun K hK => ?_); go_simp
      clear f0 f1 f2 f3 f4 q
      obtain ⟨w7, hw7, B17, hlow7, hgr7⟩ := Blk.set5 B12 (.string S.name) (.slice A5 n5 c5) (.int .i64 S.key) (.bool S.only) (.slice A6 n6 c6)
      rw [← hw7]
      clear hw7 B12
      have hT7 := (hT6'.grownL hgr7 hgd).base (Nat.zero_le _)
      have hVt := (hVt.grownL hgr7 hgd).base (Nat.zero_le _)
      have hb7' := Below.trans hb6' (hlow7 Wb.heap.size hd5')
      have hb7 : Below Wb.heap.size Wb w7 := Below.trans hd5 hb7'
      refine hK.out _ _ hb7' ?_
      clear hK K
      repeat ((with_reducible show wpTree _ _ _ _ (.take _ _) _ _); (first | (refine wpTree_on (v := ?_) rfl rfl (wanted_free rfl) (fun w' hS => ?_) ?_; rotate_left; (focus (go_simp; (try with_reducible rfl); done)); try simp only [List.setIfInBounds_toArray, List.set_cons_zero, List.set_cons_succ]) | (refine wpTree_on (v := ?_) rfl rfl (wanted_yes rfl rfl rfl) (fun w' hS => ?_) ?_; rotate_left; (focus (go_simp; (try with_reducible rfl); done)); try simp only [List.setIfInBounds_toArray, List.set_cons_zero, List.set_cons_succ]) | (refine wpTree_off rfl rfl (wanted_no rfl rfl rfl) ?_; try simp only [List.setIfInBounds_toArray, List.set_cons_zero, List.set_cons_succ]) | (refine wpTree_off rfl rfl (wanted_undef rfl rfl rfl) ?_; try simp only [List.setIfInBounds_toArray, List.set_cons_zero, List.set_cons_succ])))
      refine wpTree_end ?_
      have q17 := five B17 (Below.refl _ _)
      have q13 := five B13 hb7
      have q9 := five B9 hb7
      obtain rfl : 0 = n6 := hRn.out
      go_wp2_with fail
      refine (same_ S [r] 0 0 _ _ _ hn7 (by simp) (hOk1.out.small hn7) (hTx.ext hb7) ((TabR.of hC9 hR9 hF9).ext hb7)).mono ?_
      rintro e wz ⟨rfl, hbz⟩
      clear q17 q13 q9
      have q17 := five B17 hbz
      go_wp2
      go_ret
      exact ⟨rfl, Below.trans (Below.trans hbwb (Below.mono hb7 hbwb.size)) (Below.mono hbz (by have := hb7.size; have := hbwb.size; omega))⟩
end Go.Proofs.Ytalfacbkofgdjaa.tb
