/- TableBack: the walk. Printed by genback.py. -/
import Derived.Test.YtalfacbkofgdjaaTw
import Derived.Test.YtalfacbkofgdjaaTArg
import Derived.Test.YtalfacbkofgdjaaT
namespace Go.Proofs.Ytalfacbkofgdjaa.tb
open Go.ChangeShapes Go.WideShapes Go.ChangeAt Go.RowKit Go.Proofs.Ytalfacbkofgdjaa.lib Go.Proofs.Ytalfacbkofgdjaa.val
set_option linter.unusedVariables false

set_option maxRecDepth 1000000 in
set_option maxHeartbeats 8000000 in
theorem back_walk (s : ByteArray) (A : Option Addr) (n c : Nat) (l : List Col) (key : Int) (only : Bool) (Ai : Option Addr) (ni ci : Nat) (zs : List Int) (m : Int) (w : World) (hs : s.size ≤ maxLen) (hC : Cs w 0 A n c l) (hn : n ≤ maxLen) (hp : ∀ x ∈ l, RawC x) (hkey : ok64 key)
    (hI : Row w 0 Ai ni ci (flatK encI zs)) (hni : zs.length = ni) (hi2 : ni ≤ maxLen) (hz : ∀ x ∈ zs, ok64 x) (hm : ok64 m) :
    Calls Try.prog 10 #[.agg #[.string s, .slice A n c, .int .i64 key, .bool only], .slice Ai ni ci, .int .i64 m] w fun e W' => e = .returned (.bool true) ∧ Below w.heap.size w W' := by
  unfold maxLen at hi2
  obtain ⟨hm1, hm2⟩ := hm
  have HNI := Lib.hid hni
  have HZ := Lib.hid hz
  clear hni hz
  go_enter Try.func10, Try.ntmps10
  go_upto_region 1 with fail
  obtain ⟨W0, hW_, hbW0, BS⟩ : ∃ W_, W_ = (w.alloc (.cells #[.string s, .slice A n c, .int .i64 key, .bool only] 24)) ∧ Below w.heap.size w W_ ∧ Blk W_ (w.heap.size) 24 #[.string s, .slice A n c, .int .i64 key, .bool only] :=
    ⟨_, rfl, ((Below.refl _ _).alloc (Nat.le_refl _) _), (blk_new_at w (w.heap.size) _ _ (by simp))⟩
  rw [← hW_]
  clear hW_
  go_wp2_with fail
  refine (known_ _).mono ?_
  rintro e w1 ⟨rfl, hb1⟩
  have hbw1 := Below.trans hbW0 (Below.mono hb1 hbW0.size)
  have BS := BS.ext hb1
  clear hbW0 hb1
  have q := four BS (Below.refl _ _)
  go_wp2_with fail
  refine (few9_ s A n c l key only _ hs (hC.ext hbw1) hn (fun x hx => (hp x hx).s)).mono ?_
  rintro e w2 ⟨⟨b, rfl⟩, hb2⟩
  have hbw2 := Below.trans hbw1 (Below.mono hb2 hbw1.size)
  have BS := BS.ext hb2
  clear hbw1 hb2 q
  by_cases hbt : b = true
  case neg =>
    obtain rfl : b = false := by cases b with | false => rfl | true => exact absurd rfl hbt
    go_wp2
    go_ret
    exact ⟨rfl, hbw2⟩
  subst hbt
  have q := four BS (Below.refl _ _)
  go_wp2_with fail
  refine (good9_ s A n c l key only _ (hC.ext hbw2) hn hp hkey).mono ?_
  rintro e w3 ⟨A7, c7, rfl, hC7, hF7, hb3⟩
  have hbw3 := Below.trans hbw2 (Below.mono hb3 hbw2.size)
  have hS : SOk (goodS l key only) := good_ok l key only
  generalize goodS l key only = S at *
  clear hbw2 hb3 q BS
  have h6 := hS.six
  have hn7 : S.cols.length ≤ 100 := by omega
  simp only [schA]
  go_wp2_with fail
  obtain ⟨W, hW_, hbW1, B7, B8⟩ : ∃ W_, W_ = ((w3.alloc (.cells #[.string S.name, .slice A7 S.cols.length c7, .int .i64 S.key, .bool S.only] 24)).alloc (.cells #[.string S.name, .slice A7 S.cols.length c7, .int .i64 S.key, .bool S.only, .slice none 0 0] 32)) ∧ Below w3.heap.size w3 W_ ∧ Blk W_ (w3.heap.size) 24 #[.string S.name, .slice A7 S.cols.length c7, .int .i64 S.key, .bool S.only] ∧ Blk W_ (w3.heap.size + 1) 32 #[.string S.name, .slice A7 S.cols.length c7, .int .i64 S.key, .bool S.only, .slice none 0 0] :=
    ⟨_, rfl, (((Below.refl _ _).alloc (Nat.le_refl _) _).alloc (by simp; try omega) _), ((blk_new_at w3 (w3.heap.size) _ _ (by simp)).alloc _), (blk_new_at (w3.alloc (.cells #[.string S.name, .slice A7 S.cols.length c7, .int .i64 S.key, .bool S.only] 24)) (w3.heap.size + 1) _ _ (by simp))⟩
  rw [← hW_]
  clear hW_
  have hbW := Below.trans hbw3 (Below.mono hbW1 hbw3.size)
  have hV0 : TabV 32 W (w3.heap.size + 1) S [] := ⟨_, _, _, _, _, _, B8, (hC7.ext hbW1).base (Nat.zero_le _), Rs.nil _ _, .inl rfl⟩
  have hgw : w.heap.size ≤ w3.heap.size := hbw3.size
  have hCs : Hid (∀ w', Below w3.heap.size w3 w' → Cs w' 0 A7 S.cols.length c7 S.cols) := Lib.hid (fun w' h => (hC7.ext h).base (Nat.zero_le _))
  have hg3 : Below w3.heap.size w3 W := hbW1
  clear B8 hbW1 hC7 hF7
  go_loopw [9] (fun i wr => ∃ (k : Nat) (rows : List (List V)), i = .int .i64 k ∧ k ≤ ni ∧ k ≤ 30 ∧ rows.length ≤ k ∧ Ok S.cols S.key rows ∧ TabV 32 wr (w3.heap.size + 1) S rows ∧ Blk wr w3.heap.size 24 #[.string S.name, .slice A7 S.cols.length c7, .int .i64 S.key, .bool S.only] ∧ Below w3.heap.size w3 wr) (fun i _ => ni - (intOf i).toNat)
  case atStart => exact ⟨0, [], rfl, Nat.zero_le _, Nat.zero_le _, Nat.zero_le _, hS.ok0, hV0, B7, hg3⟩
  case round =>
    clear hV0 hbW B7 hg3
    obtain ⟨k, rows, rfl, hk, hk30, hlen, hOk, hV, B7, hbg⟩ := hrel
    have hOk := Lib.hid hOk
    have hbw := Below.trans hbw3 (Below.mono hbg hbw3.size)
    by_cases hgo : k < ni ∧ k < 30
    case neg =>
      have hcond : (¬ k < ni ∧ decide ((k : Int) < (ni : Int)) = false) ∨ (k < ni ∧ decide ((k : Int) < (ni : Int)) = true ∧ ¬ k < 30 ∧ decide ((k : Int) < 30) = false) := by
        by_cases h : k < ni
        · exact .inr ⟨h, by simp; omega, by omega, by simp; omega⟩
        · exact .inl ⟨h, by simp; omega⟩
      clear hgo
      obtain ⟨A1, n1, c1, A2, n2, c2, B8, hC8, hR8, hF8⟩ := hV
      rcases hcond with ⟨hq0, hd1⟩ | ⟨hq0, hd1, hq1, hd2⟩
      all_goals
        have q7 := four B7 (Below.refl _ _)
        go_wp2_with fail
        clear q7
        refine (fit_ S 0 A7 S.cols.length c7 m _ (hCs.out _ hbg) hn7 hS.kinds hm1 hm2).mono ?_
        rintro e w5 ⟨Ar, cr, rfl, hown5, hb5⟩
        obtain ⟨kv, hri⟩ := row_i hS m
        generalize fitL S.cols m = r at *
        have hVr : Vs w5 0 Ar S.cols.length cr r := (Vs.of_own hown5).base (Nat.zero_le _)
        have B7 := B7.ext hb5
        have B8 : Blk w5 (w3.heap.size + 1) 32 #[.string S.name, .slice A1 n1 c1, .int .i64 S.key, .bool S.only, .slice A2 n2 c2] := B8.ext hb5
        have hC8 := hC8.ext hb5
        have hR8 := hR8.ext hb5
        have hbg5 := Below.trans hbg (Below.mono hb5 hbg.size)
        have hbw5 := Below.trans hbw3 (Below.mono hbg5 hbw3.size)
        clear hown5 hb5
        have q8 := five B8 (Below.refl _ _)
        have hok' := putL_ok hOk.out r
        have htl := put_len (cs := S.cols) (key := S.key) (rows := rows) (r := r)
        obtain ⟨p, hp⟩ : ∃ p, putL S.cols S.key rows r = p := ⟨_, rfl⟩
        have hput := fun w' (h : Below w5.heap.size w5 w') => put_ S rows r 0 A1 n1 c1 A2 n2 c2 0 Ar S.cols.length cr w' (hC8.ext h) (hR8.ext h) hF8 (hVr.ext h) hri.small hOk.out hn7 (by omega) (by omega)
        rw [hp] at hok' htl hput
        have Hput := Lib.hid hput
        have Htl := Lib.hid htl
        have Hok' := Lib.hid hok'
        have Hri := Lib.hid hri
        have HP := Lib.hid hp
        have hkl : S.key < S.cols.length := hS.key
        have hki : (S.key : Int) < (S.cols.length : Int) := by omega
        obtain ⟨br, or_, rfl, _, _, _⟩ := hVr.1.some_ (by omega)
        clear hput htl hok' hri hp
        go_wp2_with fail
        refine (Hput.out _ (Below.refl _ _)).mono ?_
        rintro e w6 ⟨v, rfl, hT6, hb6⟩
        have hT6' := hT6
        obtain ⟨A5, n5, c5, A6, n6, c6, rfl, hC6, hR6, hF6⟩ := hT6
        simp only [tabA] at hT6' ⊢
        clear q8
        have hbg6 := Below.trans hbg5 (Below.mono hb6 hbg5.size)
        have hbw6 := Below.trans hbw3 (Below.mono hbg6 hbw3.size)
        have B7 := B7.ext hb6
        have B8 : Blk w6 (w3.heap.size + 1) 32 #[.string S.name, .slice A1 n1 c1, .int .i64 S.key, .bool S.only, .slice A2 n2 c2] := B8.ext hb6
        have hC8 := hC8.ext hb6
        have hR8 := hR8.ext hb6
        have hVr := hVr.ext hb6
        have hz6 := hb6.size
        by_cases hp1 : p.1 = 0
        case pos =>
          have hdp : (p.1 != 0) = false := by simp [hp1]
          have hback := put_take (r := r) hOk.out (by rw [HP.out]; exact hp1)
          rw [HP.out, Hri.out.keyOf] at hback
          have Hback := Lib.hid hback
          have hplen : p.2.length ≤ 100 := by have := Htl.out; rw [if_pos hp1] at this; omega
          have HP1 := Lib.hid hp1
          clear hback hp1
          go_wp2_with fail
          obtain ⟨W7, hW_, hb7, B11⟩ : ∃ W_, W_ = (w6.alloc (.cells #[.string S.name, .slice A5 n5 c5, .int .i64 S.key, .bool S.only, .slice A6 n6 c6] 32)) ∧ Below w6.heap.size w6 W_ ∧ Blk W_ (w6.heap.size) 32 #[.string S.name, .slice A5 n5 c5, .int .i64 S.key, .bool S.only, .slice A6 n6 c6] :=
            ⟨_, rfl, ((Below.refl _ _).alloc (Nat.le_refl _) _), (blk_new_at w6 (w6.heap.size) _ _ (by simp))⟩
          rw [← hW_]
          clear hW_
          have hbw7 := Below.trans hbw6 (Below.mono hb7 hbw6.size)
          have B7 := B7.ext hb7
          have B8 : Blk W7 (w3.heap.size + 1) 32 #[.string S.name, .slice A1 n1 c1, .int .i64 S.key, .bool S.only, .slice A2 n2 c2] := B8.ext hb7
          have hC8 := hC8.ext hb7
          have hR8 := hR8.ext hb7
          have hVr := hVr.ext hb7
          have hC6 := hC6.ext hb7
          have hR6 := hR6.ext hb7
          have D11 := fun w' (h : Below W7.heap.size W7.drew w') => five B11 (Below.trans (Below.refl _ _).drew h)
          have D7 := fun w' (h : Below W7.heap.size W7.drew w') => four B7 (Below.trans (Below.refl _ _).drew h)
          have Dr := fun w' (h : Below W7.heap.size W7.drew w') => (hVr.ext (Below.trans (Below.refl _ _).drew h)).at_ Hri.out.key
          refine wp_region_one [(0, true), (1, true), (2, true), (3, true), (4, true), (5, true), (6, false), (7, true), (8, true), (9, true), (10, true), (11, true)] (by kernel_rfl) (by kernel_rfl) (by kernel_rfl) (by decide) ?_
          repeat ((with_reducible show wpPerm _ _ _ _ ((_, true) :: _) _ _); (first | (refine wpPerm_on (v := ?_) rfl rfl (wanted_free rfl) (fun w' hS => ?_) ?_; rotate_left; (focus (go_simp; (try with_reducible rfl); done)); try simp only [List.setIfInBounds_toArray, List.set_cons_zero, List.set_cons_succ]) | (refine wpPerm_on (v := ?_) rfl rfl (wanted_yes rfl rfl rfl) (fun w' hS => ?_) ?_; rotate_left; (focus (go_simp; (try with_reducible rfl); done)); try simp only [List.setIfInBounds_toArray, List.set_cons_zero, List.set_cons_succ]) | (refine wpPerm_off rfl rfl (wanted_no rfl rfl rfl) ?_; try simp only [List.setIfInBounds_toArray, List.set_cons_zero, List.set_cons_succ]) | (refine wpPerm_off rfl rfl (wanted_undef rfl rfl rfl) ?_; try simp only [List.setIfInBounds_toArray, List.set_cons_zero, List.set_cons_succ])))
          refine wpPerm_do rfl (wanted_free rfl) (fun K hK => ?_); go_simp
          have hd7 : Below W7.heap.size W7 W7.drew := (Below.refl _ _).drew
          refine (get_ S p.2 kv _ A5 n5 c5 A6 n6 c6 _ (hR6.ext hd7) Hok'.out hn7 (by omega)).mono ?_
          rw [Hback.out.2.1, Hback.out.2.2]
          rintro e w9 ⟨Ag, ng, cg, rfl, hVg, hb9⟩
          refine hK.out _ _ hb9 ?_
          clear hK K
          repeat ((with_reducible show wpPerm _ _ _ _ ((_, true) :: _) _ _); (first | (refine wpPerm_on (v := ?_) rfl rfl (wanted_free rfl) (fun w' hS => ?_) ?_; rotate_left; (focus (go_simp; (try with_reducible rfl); done)); try simp only [List.setIfInBounds_toArray, List.set_cons_zero, List.set_cons_succ]) | (refine wpPerm_on (v := ?_) rfl rfl (wanted_yes rfl rfl rfl) (fun w' hS => ?_) ?_; rotate_left; (focus (go_simp; (try with_reducible rfl); done)); try simp only [List.setIfInBounds_toArray, List.set_cons_zero, List.set_cons_succ]) | (refine wpPerm_off rfl rfl (wanted_no rfl rfl rfl) ?_; try simp only [List.setIfInBounds_toArray, List.set_cons_zero, List.set_cons_succ]) | (refine wpPerm_off rfl rfl (wanted_undef rfl rfl rfl) ?_; try simp only [List.setIfInBounds_toArray, List.set_cons_zero, List.set_cons_succ])))
          refine wpPerm_done ?_
          clear D11 D7 Dr
          have hb79 := Below.trans hd7 hb9
          have hbw9 := Below.trans hbw7 (Below.mono hb79 hbw7.size)
          have B7 := B7.ext hb79
          have B8 : Blk w9 (w3.heap.size + 1) 32 #[.string S.name, .slice A1 n1 c1, .int .i64 S.key, .bool S.only, .slice A2 n2 c2] := B8.ext hb79
          have B11 : Blk w9 w6.heap.size 32 #[.string S.name, .slice A5 n5 c5, .int .i64 S.key, .bool S.only, .slice A6 n6 c6] := B11.ext hb79
          have hC8 := hC8.ext hb79
          have hR8 := hR8.ext hb79
          have hVr := hVr.ext hb79
          have hC6 := hC6.ext hb79
          have hR6 := hR6.ext hb79
          have hVg := hVg.base (Nat.zero_le _)
          clear hb79 hb9 hd7
          have Htake := Lib.hid (fun w' (h : Below w9.heap.size w9 w') => by
            have := take_ S p.2 kv 0 A5 n5 c5 A6 n6 c6 w' ((hC6.base (Nat.zero_le _)).ext h) ((hR6.base (Nat.zero_le _)).ext h) hF6 Hok'.out hn7 (by omega)
            rw [Hback.out.1, Hback.out.2.1] at this
            exact this)
          clear hC6 hR6 hF6 hT6'
          go_wp2_with fail
          have D11 := fun w' (h : Below w9.heap.size w9.drew w') => five B11 (Below.trans (Below.refl _ _).drew h)
          have D7 := fun w' (h : Below w9.heap.size w9.drew w') => four B7 (Below.trans (Below.refl _ _).drew h)
          have Dr := fun w' (h : Below w9.heap.size w9.drew w') => (hVr.ext (Below.trans (Below.refl _ _).drew h)).at_ Hri.out.key
          refine wp_region_tree (S := fun w' => Below w9.heap.size w9.drew w') (.take 0 (.take 1 (.take 2 (.take 3 (.take 4 (.take 5 (.two 6 11 (.take 7 (.take 8 (.take 9 (.take 10 (.one 11 (.one 12 (.take 13 (.take 14 .nil)))))))) (.one 6 (.take 7 (.take 8 (.take 9 (.take 10 (.one 12 (.take 13 (.take 14 .nil)))))))))))))))
            (by kernel_rfl) (by kernel_rfl) (by kernel_rfl) (by decide) (by intro c a d v w h; cases d <;> exact h) (Below.refl _ _) ?_
          repeat ((with_reducible show wpTree _ _ _ _ (.take _ _) _ _); (first | (refine wpTree_on (v := ?_) rfl rfl (wanted_free rfl) (fun w' hS => ?_) ?_; rotate_left; (focus (go_simp; (try with_reducible rfl); done)); try simp only [List.setIfInBounds_toArray, List.set_cons_zero, List.set_cons_succ]) | (refine wpTree_on (v := ?_) rfl rfl (wanted_yes rfl rfl rfl) (fun w' hS => ?_) ?_; rotate_left; (focus (go_simp; (try with_reducible rfl); done)); try simp only [List.setIfInBounds_toArray, List.set_cons_zero, List.set_cons_succ]) | (refine wpTree_off rfl rfl (wanted_no rfl rfl rfl) ?_; try simp only [List.setIfInBounds_toArray, List.set_cons_zero, List.set_cons_succ]) | (refine wpTree_off rfl rfl (wanted_undef rfl rfl rfl) ?_; try simp only [List.setIfInBounds_toArray, List.set_cons_zero, List.set_cons_succ])))
          have hd5 : Below w9.heap.size w9 w9.drew := (Below.refl _ _).drew
          have hd5' : w9.heap.size ≤ w9.drew.heap.size := Nat.le_refl _
          clear D11 D7 Dr
          generalize w9.drew = wd at *
          refine wpTree_both rfl (wanted_free rfl) rfl (wanted_free rfl) (fun K hK => ?_) (fun K hK => ?_)
          · go_simp
            refine (Htake.out _ hd5).mono ?_
            rintro e w6 ⟨v, At, mt, ct, rfl, hT6, hVt, hb6⟩
            have hT6' := hT6
            obtain ⟨A5, n5, c5, A6, n6, c6, rfl, _⟩ := hT6
            have hb6' : Below w9.heap.size wd w6 := hb6.mono hd5'
            refine hK.out _ _ hb6' ?_
            clear hK K
            simp only [tabA]
            repeat ((with_reducible show wpTree _ _ _ _ (.take _ _) _ _); (first | (refine wpTree_on (v := ?_) rfl rfl (wanted_free rfl) (fun w' hS => ?_) ?_; rotate_left; (focus (go_simp; (try with_reducible rfl); done)); try simp only [List.setIfInBounds_toArray, List.set_cons_zero, List.set_cons_succ]) | (refine wpTree_on (v := ?_) rfl rfl (wanted_yes rfl rfl rfl) (fun w' hS => ?_) ?_; rotate_left; (focus (go_simp; (try with_reducible rfl); done)); try simp only [List.setIfInBounds_toArray, List.set_cons_zero, List.set_cons_succ]) | (refine wpTree_off rfl rfl (wanted_no rfl rfl rfl) ?_; try simp only [List.setIfInBounds_toArray, List.set_cons_zero, List.set_cons_succ]) | (refine wpTree_off rfl rfl (wanted_undef rfl rfl rfl) ?_; try simp only [List.setIfInBounds_toArray, List.set_cons_zero, List.set_cons_succ])))
            refine wpTree_do rfl (wanted_free rfl) (fun K hK => ?_); go_simp
            refine hK.out _ _ (hb6'.alloc (by have := hb6.size; omega) _) ?_
            clear hK K
            have B17 : Blk (w6.alloc (.cells #[.string ⟨#[]⟩, .slice none 0 0, .int .i64 0, .bool false, .slice none 0 0] 32)) w6.heap.size 32 #[.string ⟨#[]⟩, .slice none 0 0, .int .i64 0, .bool false, .slice none 0 0] := Blk.new _ _ _
            have f0 := B17.frozen 0
            have f1 := B17.frozen 1
            have f2 := B17.frozen 2
            have f3 := B17.frozen 3
            have f4 := B17.frozen 4
            have q := five B17 (Below.refl _ _)
            refine wpTree_do rfl (wanted_free rfl) (fun K hK => ?_); go_simp
            clear f0 f1 f2 f3 f4 q B17
            obtain ⟨w7, hw7⟩ : ∃ w7, w7 = w6.alloc (.cells #[.string S.name, .slice A5 n5 c5, .int .i64 S.key, .bool S.only, .slice A6 n6 c6] 32) := ⟨_, rfl⟩
            have hb67 : Below w6.heap.size w6 w7 := by rw [hw7]; exact (Below.refl _ _).alloc (Nat.le_refl _) _
            have B17 : Blk w7 w6.heap.size 32 #[.string S.name, .slice A5 n5 c5, .int .i64 S.key, .bool S.only, .slice A6 n6 c6] := by rw [hw7]; exact Blk.new _ _ _
            rw [← hw7]
            clear hw7
            have hT7 := (hT6'.ext hb67).base (Nat.zero_le _)
            have hVt := (hVt.ext hb67).base (Nat.zero_le _)
            have hb7' := Below.trans hb6' (Below.mono hb67 (by have := hb6.size; omega))
            have hb7 : Below w9.heap.size w9 w7 := Below.trans hd5 hb7'
            refine hK.out _ _ hb7' ?_
            clear hK K
            repeat ((with_reducible show wpTree _ _ _ _ (.take _ _) _ _); (first | (refine wpTree_on (v := ?_) rfl rfl (wanted_free rfl) (fun w' hS => ?_) ?_; rotate_left; (focus (go_simp; (try with_reducible rfl); done)); try simp only [List.setIfInBounds_toArray, List.set_cons_zero, List.set_cons_succ]) | (refine wpTree_on (v := ?_) rfl rfl (wanted_yes rfl rfl rfl) (fun w' hS => ?_) ?_; rotate_left; (focus (go_simp; (try with_reducible rfl); done)); try simp only [List.setIfInBounds_toArray, List.set_cons_zero, List.set_cons_succ]) | (refine wpTree_off rfl rfl (wanted_no rfl rfl rfl) ?_; try simp only [List.setIfInBounds_toArray, List.set_cons_zero, List.set_cons_succ]) | (refine wpTree_off rfl rfl (wanted_undef rfl rfl rfl) ?_; try simp only [List.setIfInBounds_toArray, List.set_cons_zero, List.set_cons_succ])))
            refine wpTree_end ?_
            generalize w6.heap.size = g17 at *
            have hbw7 := Below.trans hbw9 (Below.mono hb7 hbw9.size)
            have hVr := hVr.ext hb7
            have hVg := hVg.ext hb7
            have hrl := Hri.out.len
            have hng : ng ≤ 100000 := by have := hVg.2; omega
            have hmt : mt ≤ 100000 := by have := hVt.2; omega
            clear hrl
            have q17 := five B17 (Below.refl _ _)
            go_wp2_with fail
            clear q17
            refine (rrowSame_ r 0 0 Ag _ ng cg S.cols.length cr _ hng hVg hVr).mono ?_
            rintro e wb ⟨rfl, hbb⟩
            go_wp2_with fail
            refine (rrowSame_ r 0 0 At _ mt ct S.cols.length cr _ hmt (hVt.ext hbb) (hVr.ext hbb)).mono ?_
            rintro e wc ⟨rfl, hbc⟩
            have hb7c := Below.trans hbb (Below.mono hbc hbb.size)
            have q17 := five (B17 : Blk w7 _ 32 #[.string S.name, .slice A5 n5 c5, .int .i64 S.key, .bool S.only, .slice A6 n6 c6]) hb7c
            have q8 := five (B8 : Blk w9 (w3.heap.size + 1) 32 #[.string S.name, .slice A1 n1 c1, .int .i64 S.key, .bool S.only, .slice A2 n2 c2]) (Below.trans hb7 (Below.mono hb7c hb7.size))
            have hT8 : TabR w9 0 (.agg (tabA S A1 n1 c1 A2 n2 c2)) S rows := TabR.of hC8 hR8 hF8
            go_wp2_with fail
            clear q17 q8
            refine (same_ S rows 0 0 _ _ _ hn7 (by omega) (hOk.out.small hn7) (hT7.ext hb7c) (hT8.ext (Below.trans hb7 (Below.mono hb7c hb7.size)))).mono ?_
            rintro e wz ⟨rfl, hbz⟩
            go_wp2
            go_ret
            exact ⟨rfl, Below.trans (Below.trans hbw7 (Below.mono hb7c hbw7.size)) (Below.mono hbz (by have := hbw7.size; have := hb7c.size; omega))⟩
          · go_simp
            refine hK.out _ _ ((Below.refl w9.heap.size wd).alloc hd5' _) ?_
            clear hK K
            have B12 : Blk (wd.alloc (.cells #[.string ⟨#[]⟩, .slice none 0 0, .int .i64 0, .bool false, .slice none 0 0] 32)) wd.heap.size 32 #[.string ⟨#[]⟩, .slice none 0 0, .int .i64 0, .bool false, .slice none 0 0] := Blk.new _ _ _
            have hda : Below w9.heap.size wd (wd.alloc (.cells #[.string ⟨#[]⟩, .slice none 0 0, .int .i64 0, .bool false, .slice none 0 0] 32)) := (Below.refl w9.heap.size wd).alloc hd5' _
            have hgd : wd.heap.size < (wd.alloc (.cells #[.string ⟨#[]⟩, .slice none 0 0, .int .i64 0, .bool false, .slice none 0 0] 32)).heap.size := B12.lt
            generalize hwe : wd.alloc (.cells #[.string ⟨#[]⟩, .slice none 0 0, .int .i64 0, .bool false, .slice none 0 0] 32) = we at *
            clear hwe
            generalize wd.heap.size = g17 at *
            refine wpTree_do rfl (wanted_free rfl) (fun K hK => ?_); go_simp
            refine (Htake.out _ (Below.trans hd5 hda)).mono ?_
            rintro e w6 ⟨v, At, mt, ct, rfl, hT6, hVt, hb6⟩
            have hT6' := hT6
            obtain ⟨A5, n5, c5, A6, n6, c6, rfl, _⟩ := hT6
            have hb6' : Below w9.heap.size wd w6 := Below.trans hda (hb6.mono (by omega))
            refine hK.out _ _ hb6' ?_
            clear hK K
            simp only [tabA]
            repeat ((with_reducible show wpTree _ _ _ _ (.take _ _) _ _); (first | (refine wpTree_on (v := ?_) rfl rfl (wanted_free rfl) (fun w' hS => ?_) ?_; rotate_left; (focus (go_simp; (try with_reducible rfl); done)); try simp only [List.setIfInBounds_toArray, List.set_cons_zero, List.set_cons_succ]) | (refine wpTree_on (v := ?_) rfl rfl (wanted_yes rfl rfl rfl) (fun w' hS => ?_) ?_; rotate_left; (focus (go_simp; (try with_reducible rfl); done)); try simp only [List.setIfInBounds_toArray, List.set_cons_zero, List.set_cons_succ]) | (refine wpTree_off rfl rfl (wanted_no rfl rfl rfl) ?_; try simp only [List.setIfInBounds_toArray, List.set_cons_zero, List.set_cons_succ]) | (refine wpTree_off rfl rfl (wanted_undef rfl rfl rfl) ?_; try simp only [List.setIfInBounds_toArray, List.set_cons_zero, List.set_cons_succ])))
            have B12 := B12.ext hb6
            have f0 := B12.frozen 0
            have f1 := B12.frozen 1
            have f2 := B12.frozen 2
            have f3 := B12.frozen 3
            have f4 := B12.frozen 4
            have q := five B12 (Below.refl _ _)
            refine wpTree_do rfl (wanted_free rfl) (fun K hK => ?_); go_simp
            clear f0 f1 f2 f3 f4 q
            obtain ⟨w7, hw7, B17, hlow7, hgr7⟩ := Blk.set5 B12 (.string S.name) (.slice A5 n5 c5) (.int .i64 S.key) (.bool S.only) (.slice A6 n6 c6)
            rw [← hw7]
            clear hw7 B12
            have hT7 := (hT6'.grownL hgr7 hgd).base (Nat.zero_le _)
            have hVt := (hVt.grownL hgr7 hgd).base (Nat.zero_le _)
            have hb7' := Below.trans hb6' (hlow7 w9.heap.size hd5')
            have hb7 : Below w9.heap.size w9 w7 := Below.trans hd5 hb7'
            refine hK.out _ _ hb7' ?_
            clear hK K
            repeat ((with_reducible show wpTree _ _ _ _ (.take _ _) _ _); (first | (refine wpTree_on (v := ?_) rfl rfl (wanted_free rfl) (fun w' hS => ?_) ?_; rotate_left; (focus (go_simp; (try with_reducible rfl); done)); try simp only [List.setIfInBounds_toArray, List.set_cons_zero, List.set_cons_succ]) | (refine wpTree_on (v := ?_) rfl rfl (wanted_yes rfl rfl rfl) (fun w' hS => ?_) ?_; rotate_left; (focus (go_simp; (try with_reducible rfl); done)); try simp only [List.setIfInBounds_toArray, List.set_cons_zero, List.set_cons_succ]) | (refine wpTree_off rfl rfl (wanted_no rfl rfl rfl) ?_; try simp only [List.setIfInBounds_toArray, List.set_cons_zero, List.set_cons_succ]) | (refine wpTree_off rfl rfl (wanted_undef rfl rfl rfl) ?_; try simp only [List.setIfInBounds_toArray, List.set_cons_zero, List.set_cons_succ])))
            refine wpTree_end ?_
            have hbw7 := Below.trans hbw9 (Below.mono hb7 hbw9.size)
            have hVr := hVr.ext hb7
            have hVg := hVg.ext hb7
            have hrl := Hri.out.len
            have hng : ng ≤ 100000 := by have := hVg.2; omega
            have hmt : mt ≤ 100000 := by have := hVt.2; omega
            clear hrl
            have q17 := five B17 (Below.refl _ _)
            go_wp2_with fail
            clear q17
            refine (rrowSame_ r 0 0 Ag _ ng cg S.cols.length cr _ hng hVg hVr).mono ?_
            rintro e wb ⟨rfl, hbb⟩
            go_wp2_with fail
            refine (rrowSame_ r 0 0 At _ mt ct S.cols.length cr _ hmt (hVt.ext hbb) (hVr.ext hbb)).mono ?_
            rintro e wc ⟨rfl, hbc⟩
            have hb7c := Below.trans hbb (Below.mono hbc hbb.size)
            have q17 := five (B17 : Blk w7 _ 32 #[.string S.name, .slice A5 n5 c5, .int .i64 S.key, .bool S.only, .slice A6 n6 c6]) hb7c
            have q8 := five (B8 : Blk w9 (w3.heap.size + 1) 32 #[.string S.name, .slice A1 n1 c1, .int .i64 S.key, .bool S.only, .slice A2 n2 c2]) (Below.trans hb7 (Below.mono hb7c hb7.size))
            have hT8 : TabR w9 0 (.agg (tabA S A1 n1 c1 A2 n2 c2)) S rows := TabR.of hC8 hR8 hF8
            go_wp2_with fail
            clear q17 q8
            refine (same_ S rows 0 0 _ _ _ hn7 (by omega) (hOk.out.small hn7) (hT7.ext hb7c) (hT8.ext (Below.trans hb7 (Below.mono hb7c hb7.size)))).mono ?_
            rintro e wz ⟨rfl, hbz⟩
            go_wp2
            go_ret
            exact ⟨rfl, Below.trans (Below.trans hbw7 (Below.mono hb7c hbw7.size)) (Below.mono hbz (by have := hbw7.size; have := hb7c.size; omega))⟩
        case neg =>
          have hoth := put_other Hri.out.fit (show rows.length < 200 by omega) (by rw [HP.out]; exact hp1)
          rw [HP.out, Hri.out.keyOf] at hoth
          obtain ⟨h7, _, his⟩ := hoth
          obtain ⟨r2, hr2g, hr2l, hr2c⟩ := rowL_at his
          have hri2 : fitsL S.cols r2 = 0 := hOk.out.fit r2 (List.mem_of_getElem? hr2g)
          obtain ⟨kv2, hk2, hk2e, _⟩ := key_chk hS.key hri2
          obtain rfl : kv2 = kv := cmp_eq (by rw [← hk2e]; exact hr2c)
          have hl2 := fits_len hri2
          have HK2 := Lib.hid hk2
          have HL2 := Lib.hid hl2
          have Hget := Lib.hid (fun w' (h : Below w6.heap.size w6 w') => by
            have := get_ S rows kv2 0 A1 n1 c1 A2 n2 c2 w' (hR8.ext h) hOk.out hn7 (by omega)
            rw [hr2l, his] at this
            exact this)
          have hdp : (p.1 != 0) = true := by simp [h7]
          have hd7 : (p.1 == 7) = true := by simp [h7]
          clear h7 his hr2g hr2l hr2c hri2 hk2 hk2e hl2 hp1 hC6 hR6 hF6 hT6'
          go_wp2_with fail
          obtain ⟨W7, hW_, hb7, B11⟩ : ∃ W_, W_ = (w6.alloc (.cells #[.string S.name, .slice A5 n5 c5, .int .i64 S.key, .bool S.only, .slice A6 n6 c6] 32)) ∧ Below w6.heap.size w6 W_ ∧ Blk W_ (w6.heap.size) 32 #[.string S.name, .slice A5 n5 c5, .int .i64 S.key, .bool S.only, .slice A6 n6 c6] :=
            ⟨_, rfl, ((Below.refl _ _).alloc (Nat.le_refl _) _), (blk_new_at w6 (w6.heap.size) _ _ (by simp))⟩
          rw [← hW_]
          clear hW_
          have hbw7 := Below.trans hbw6 (Below.mono hb7 hbw6.size)
          have B7 := B7.ext hb7
          have B8 : Blk W7 (w3.heap.size + 1) 32 #[.string S.name, .slice A1 n1 c1, .int .i64 S.key, .bool S.only, .slice A2 n2 c2] := B8.ext hb7
          have hVr := hVr.ext hb7
          have D11 := fun w' (h : Below W7.heap.size W7.drew w') => five B8 (Below.trans (Below.refl _ _).drew h)
          have D7 := fun w' (h : Below W7.heap.size W7.drew w') => four B7 (Below.trans (Below.refl _ _).drew h)
          have Dr := fun w' (h : Below W7.heap.size W7.drew w') => (hVr.ext (Below.trans (Below.refl _ _).drew h)).at_ Hri.out.key
          refine wp_region_one [(0, true), (1, true), (2, true), (3, true), (4, true), (5, true), (6, false), (7, true), (8, true), (9, true), (10, true), (11, true)] (by kernel_rfl) (by kernel_rfl) (by kernel_rfl) (by decide) ?_
          repeat ((with_reducible show wpPerm _ _ _ _ ((_, true) :: _) _ _); (first | (refine wpPerm_on (v := ?_) rfl rfl (wanted_free rfl) (fun w' hS => ?_) ?_; rotate_left; (focus (go_simp; (try with_reducible rfl); done)); try simp only [List.setIfInBounds_toArray, List.set_cons_zero, List.set_cons_succ]) | (refine wpPerm_on (v := ?_) rfl rfl (wanted_yes rfl rfl rfl) (fun w' hS => ?_) ?_; rotate_left; (focus (go_simp; (try with_reducible rfl); done)); try simp only [List.setIfInBounds_toArray, List.set_cons_zero, List.set_cons_succ]) | (refine wpPerm_off rfl rfl (wanted_no rfl rfl rfl) ?_; try simp only [List.setIfInBounds_toArray, List.set_cons_zero, List.set_cons_succ]) | (refine wpPerm_off rfl rfl (wanted_undef rfl rfl rfl) ?_; try simp only [List.setIfInBounds_toArray, List.set_cons_zero, List.set_cons_succ])))
          refine wpPerm_do rfl (wanted_free rfl) (fun K hK => ?_); go_simp
          have hd7' : Below W7.heap.size W7 W7.drew := (Below.refl _ _).drew
          refine (Hget.out _ (Below.trans hb7 (Below.mono hd7' hb7.size))).mono ?_
          rintro e w9 ⟨Ag, ng, cg, rfl, hVg, hb9⟩
          refine hK.out _ _ hb9 ?_
          clear hK K
          repeat ((with_reducible show wpPerm _ _ _ _ ((_, true) :: _) _ _); (first | (refine wpPerm_on (v := ?_) rfl rfl (wanted_free rfl) (fun w' hS => ?_) ?_; rotate_left; (focus (go_simp; (try with_reducible rfl); done)); try simp only [List.setIfInBounds_toArray, List.set_cons_zero, List.set_cons_succ]) | (refine wpPerm_on (v := ?_) rfl rfl (wanted_yes rfl rfl rfl) (fun w' hS => ?_) ?_; rotate_left; (focus (go_simp; (try with_reducible rfl); done)); try simp only [List.setIfInBounds_toArray, List.set_cons_zero, List.set_cons_succ]) | (refine wpPerm_off rfl rfl (wanted_no rfl rfl rfl) ?_; try simp only [List.setIfInBounds_toArray, List.set_cons_zero, List.set_cons_succ]) | (refine wpPerm_off rfl rfl (wanted_undef rfl rfl rfl) ?_; try simp only [List.setIfInBounds_toArray, List.set_cons_zero, List.set_cons_succ])))
          refine wpPerm_done ?_
          clear D11 D7 Dr
          have hb79 := Below.trans hd7' hb9
          have hbw9 := Below.trans hbw7 (Below.mono hb79 hbw7.size)
          have B7 := B7.ext hb79
          have hVr := hVr.ext hb79
          have hVg := hVg.base (Nat.zero_le _)
          clear hb79 hb9 hd7'
          obtain rfl : S.cols.length = ng := by rw [← HL2.out]; exact hVg.2
          obtain ⟨bg, og, rfl, _, _, _⟩ := hVg.1.some_ (by omega)
          go_wp2_with fail
          have D7 := fun w' (h : Below w9.heap.size w9.drew w') => four B7 (Below.trans (Below.refl _ _).drew h)
          have Dr := fun w' (h : Below w9.heap.size w9.drew w') => (hVr.ext (Below.trans (Below.refl _ _).drew h)).at_ Hri.out.key
          have Dg := fun w' (h : Below w9.heap.size w9.drew w') => (hVg.ext (Below.trans (Below.refl _ _).drew h)).at_ HK2.out
          refine wp_region_one [(0, true), (1, true), (2, true), (3, true), (4, true), (5, true), (6, true), (7, true), (8, true), (9, true), (10, true), (11, true), (12, true), (13, true), (14, true), (15, true), (16, true), (17, true), (18, true), (19, true), (20, true), (21, true), (22, true), (23, true), (24, true), (25, true)] (by kernel_rfl) (by kernel_rfl) (by kernel_rfl) (by decide) ?_
          have u30 := Try.underlying39
          have u3 := Try.underlying3
          have u9 := Try.underlying9
          have hp := stoodV
          have hmg := guardV
          repeat ((with_reducible show wpPerm _ _ _ _ ((_, true) :: _) _ _); (first | (refine wpPerm_on (v := ?_) rfl rfl (wanted_free rfl) (fun w' hS => ?_) ?_; rotate_left; (focus (go_simp; (try with_reducible rfl); done)); try simp only [List.setIfInBounds_toArray, List.set_cons_zero, List.set_cons_succ]) | (refine wpPerm_on (v := ?_) rfl rfl (wanted_yes rfl rfl rfl) (fun w' hS => ?_) ?_; rotate_left; (focus (go_simp; (try with_reducible rfl); done)); try simp only [List.setIfInBounds_toArray, List.set_cons_zero, List.set_cons_succ]) | (refine wpPerm_off rfl rfl (wanted_no rfl rfl rfl) ?_; try simp only [List.setIfInBounds_toArray, List.set_cons_zero, List.set_cons_succ]) | (refine wpPerm_off rfl rfl (wanted_undef rfl rfl rfl) ?_; try simp only [List.setIfInBounds_toArray, List.set_cons_zero, List.set_cons_succ])))
          refine wpPerm_done ?_
          clear D7 Dr Dg u30 u3 u9 hp hmg
          go_wp2
          go_ret
          exact ⟨rfl, hbw9.drew⟩
    obtain ⟨hgo1, hgo2⟩ := hgo
    have hd1 : decide ((k : Int) < (ni : Int)) = true := by simp; omega
    have hd2 : decide ((k : Int) < 30) = true := by simp; omega
    have hkni : (k : Int) < (ni : Int) := by omega
    obtain ⟨x, hx⟩ : ∃ x, zs[k]? = some x := ⟨_, List.getElem?_eq_getElem (by rw [HNI.out]; exact hgo1)⟩
    have hx64 := HZ.out x (List.mem_of_getElem? hx)
    obtain ⟨bi, oi, rfl, _, _, _⟩ := hI.some_ (by omega)
    have hxc := flatK_at encI 1 (fun _ => rfl) zs k x 0 _ hx rfl
    have HXC := Lib.hid hxc
    clear hxc hx
    obtain ⟨kv, hri⟩ := row_i hS x
    obtain ⟨r, hr⟩ : ∃ r, fitL S.cols x = r := ⟨_, rfl⟩
    rw [hr] at hri
    have hri := Lib.hid hri
    have htl := put_len (cs := S.cols) (key := S.key) (rows := rows) (r := r)
    have hok' := putL_ok hOk.out r
    obtain ⟨p, hp⟩ : ∃ p, putL S.cols S.key rows r = p := ⟨_, rfl⟩
    rw [hp] at htl hok'
    have Htl := Lib.hid htl
    have Hid' := Lib.hid hok'
    clear htl hok'
    obtain ⟨A1, n1, c1, A2, n2, c2, B8, hC8, hR8, hF8⟩ := hV
    go_wp2_with fail
    have hrd : Below wr.heap.size wr wr.drew := (Below.refl _ _).drew
    have B7 := B7.ext hrd
    have B8 : Blk wr.drew (w3.heap.size + 1) 32 #[.string S.name, .slice A1 n1 c1, .int .i64 S.key, .bool S.only, .slice A2 n2 c2] := B8.ext hrd
    have hC8 := hC8.ext hrd
    have hR8 := hR8.ext hrd
    have hbgd := Below.trans hbg (Below.mono hrd hbg.size)
    have hId := (hI.ext hbw).ext hrd
    have hg8 := B8.lt
    have D := fun w' (h : Below (w3.heap.size + 1) wr.drew w') => four (B7.below h (by omega)) (Below.refl _ _)
    have D2 := fun w' (h : Below (w3.heap.size + 1) wr.drew w') => (hI.ext (Below.trans (Below.trans hbw (Below.mono hrd hbw.size)) (Below.mono h (by omega)))).at_ HXC.out
    simp only [Nat.mul_one, Nat.add_zero] at D2
    refine wp_region_tree (S := fun w' => Below (w3.heap.size + 1) wr.drew w') (.take 1 (.take 2 (.take 3 (.take 4 (.take 5 (.two 0 6 (.one 6 (.one 7 (.take 8 (.take 9 (.take 10 (.one 11 .nil)))))) (.one 0 (.one 7 (.take 8 (.take 9 (.take 10 (.one 11 .nil))))))))))))
      (by kernel_rfl) (by kernel_rfl) (by kernel_rfl) (by decide) (by intro c a d v w h; cases d <;> exact h) (Below.refl _ _) ?_
    repeat ((with_reducible show wpTree _ _ _ _ (.take _ _) _ _); (first | (refine wpTree_on (v := ?_) rfl rfl (wanted_free rfl) (fun w' hS => ?_) ?_; rotate_left; (focus (go_simp; (try with_reducible rfl); done)); try simp only [List.setIfInBounds_toArray, List.set_cons_zero, List.set_cons_succ]) | (refine wpTree_on (v := ?_) rfl rfl (wanted_yes rfl rfl rfl) (fun w' hS => ?_) ?_; rotate_left; (focus (go_simp; (try with_reducible rfl); done)); try simp only [List.setIfInBounds_toArray, List.set_cons_zero, List.set_cons_succ]) | (refine wpTree_off rfl rfl (wanted_no rfl rfl rfl) ?_; try simp only [List.setIfInBounds_toArray, List.set_cons_zero, List.set_cons_succ]) | (refine wpTree_off rfl rfl (wanted_undef rfl rfl rfl) ?_; try simp only [List.setIfInBounds_toArray, List.set_cons_zero, List.set_cons_succ])))
    clear D D2
    have hrr : wr.heap.size = wr.drew.heap.size := rfl
    generalize wr.drew = wd at *
    refine wpTree_both rfl (wanted_free rfl) rfl (wanted_free rfl) (fun K hK => ?_) (fun K hK => ?_)
    · have q8 := five B8 (Below.refl _ _)
      go_simp
      refine hK.out _ _ (Below.refl _ _) ?_
      clear hK K q8
      refine wpTree_do rfl (wanted_free rfl) (fun K hK => ?_); go_simp
      refine (fit_ S 0 A7 S.cols.length c7 x _ (hCs.out _ (Below.trans hbgd (Below.mono (Below.refl (w3.heap.size + 1) wd) (Nat.le_succ _)))) hn7 hS.kinds hx64.1 hx64.2).mono ?_
      rintro e w5 ⟨Ar, cr, rfl, hown5, hb5⟩
      have hb5' : Below (w3.heap.size + 1) wd w5 := Below.trans (Below.refl (w3.heap.size + 1) wd) (Below.mono hb5 (by have := B8.lt; omega))
      refine hK.out _ _ hb5' ?_
      clear hK K
      rw [hr] at hown5
      have hVr : Vs w5 0 Ar S.cols.length cr r := (Vs.of_own hown5).base (Nat.zero_le _)
      have hC5 := hC8.ext hb5
      have hR5 := hR8.ext hb5
      have B85 := B8.ext hb5
      have hz5 := hb5.size
      have hz8 := B8.lt
      refine wpTree_do rfl (wanted_free rfl) (fun K hK => ?_); go_simp
      refine (put_ S rows r 0 A1 n1 c1 A2 n2 c2 0 Ar S.cols.length cr w5 hC5 hR5 hF8 hVr hri.out.small hOk.out hn7 (by omega) (by omega)).mono ?_
      rintro e w6 ⟨v, rfl, hT6, hb6⟩
      rw [hp] at hT6 ⊢
      have hT6' := hT6
      obtain ⟨A5, n5, c5, A6, n6, c6, rfl, _⟩ := hT6
      have hb6' := Below.trans hb5' (Below.mono hb6 (by omega))
      refine hK.out _ _ hb6' ?_
      clear hK K
      simp only [tabA] at hT6' ⊢
      repeat ((with_reducible show wpTree _ _ _ _ (.take _ _) _ _); (first | (refine wpTree_on (v := ?_) rfl rfl (wanted_free rfl) (fun w' hS => ?_) ?_; rotate_left; (focus (go_simp; (try with_reducible rfl); done)); try simp only [List.setIfInBounds_toArray, List.set_cons_zero, List.set_cons_succ]) | (refine wpTree_on (v := ?_) rfl rfl (wanted_yes rfl rfl rfl) (fun w' hS => ?_) ?_; rotate_left; (focus (go_simp; (try with_reducible rfl); done)); try simp only [List.setIfInBounds_toArray, List.set_cons_zero, List.set_cons_succ]) | (refine wpTree_off rfl rfl (wanted_no rfl rfl rfl) ?_; try simp only [List.setIfInBounds_toArray, List.set_cons_zero, List.set_cons_succ]) | (refine wpTree_off rfl rfl (wanted_undef rfl rfl rfl) ?_; try simp only [List.setIfInBounds_toArray, List.set_cons_zero, List.set_cons_succ])))
      have hB8 : Blk w6 (w3.heap.size + 1) 32 #[.string S.name, .slice A1 n1 c1, .int .i64 S.key, .bool S.only, .slice A2 n2 c2] := (Blk.below B85 hb6 (by omega))
      have f0 := hB8.frozen 0
      have f1 := hB8.frozen 1
      have f2 := hB8.frozen 2
      have f3 := hB8.frozen 3
      have f4 := hB8.frozen 4
      have q8 := five hB8 (Below.refl _ _)
      refine wpTree_do rfl (wanted_free rfl) (fun K hK => ?_); go_simp
      clear f0 f1 f2 f3 f4 q8
      obtain ⟨w9, hw9, hV9, hlow9, hgr9⟩ := setV hB8 hT6' (by omega)
      rw [← hw9]
      clear hw9
      have hb9' := Below.trans hb6' (hlow9 _ (Nat.le_refl _))
      refine hK.out _ _ hb9' ?_
      clear hK K
      refine wpTree_end ?_
      have hbg9 := Below.trans hbgd (Below.mono hb9' (Nat.le_succ _))
      go_wp2
      go_roundw
      case rel => exact ⟨k + 1, p.2, by go_num, by omega, by omega, by have := Htl.out; split at this <;> omega, Hid'.out, hV9, Blk.below B7 hb9' (by omega), hbg9⟩
      case measure => simp [intOf]; omega
    · go_simp
      refine (fit_ S 0 A7 S.cols.length c7 x _ (hCs.out _ (Below.trans hbgd (Below.mono (Below.refl (w3.heap.size + 1) wd) (Nat.le_succ _)))) hn7 hS.kinds hx64.1 hx64.2).mono ?_
      rintro e w5 ⟨Ar, cr, rfl, hown5, hb5⟩
      have hb5' : Below (w3.heap.size + 1) wd w5 := Below.trans (Below.refl (w3.heap.size + 1) wd) (Below.mono hb5 (by have := B8.lt; omega))
      refine hK.out _ _ hb5' ?_
      clear hK K
      rw [hr] at hown5
      have hVr : Vs w5 0 Ar S.cols.length cr r := (Vs.of_own hown5).base (Nat.zero_le _)
      have hC5 := hC8.ext hb5
      have hR5 := hR8.ext hb5
      have B85 := B8.ext hb5
      have hz5 := hb5.size
      have hz8 := B8.lt
      have q8 := five (B85 : Blk w5 (w3.heap.size + 1) 32 #[.string S.name, .slice A1 n1 c1, .int .i64 S.key, .bool S.only, .slice A2 n2 c2]) (Below.refl _ _)
      refine wpTree_do rfl (wanted_free rfl) (fun K hK => ?_); go_simp
      refine hK.out _ _ hb5' ?_
      clear hK K q8
      refine wpTree_do rfl (wanted_free rfl) (fun K hK => ?_); go_simp
      refine (put_ S rows r 0 A1 n1 c1 A2 n2 c2 0 Ar S.cols.length cr w5 hC5 hR5 hF8 hVr hri.out.small hOk.out hn7 (by omega) (by omega)).mono ?_
      rintro e w6 ⟨v, rfl, hT6, hb6⟩
      rw [hp] at hT6 ⊢
      have hT6' := hT6
      obtain ⟨A5, n5, c5, A6, n6, c6, rfl, _⟩ := hT6
      have hb6' := Below.trans hb5' (Below.mono hb6 (by omega))
      refine hK.out _ _ hb6' ?_
      clear hK K
      simp only [tabA] at hT6' ⊢
      repeat ((with_reducible show wpTree _ _ _ _ (.take _ _) _ _); (first | (refine wpTree_on (v := ?_) rfl rfl (wanted_free rfl) (fun w' hS => ?_) ?_; rotate_left; (focus (go_simp; (try with_reducible rfl); done)); try simp only [List.setIfInBounds_toArray, List.set_cons_zero, List.set_cons_succ]) | (refine wpTree_on (v := ?_) rfl rfl (wanted_yes rfl rfl rfl) (fun w' hS => ?_) ?_; rotate_left; (focus (go_simp; (try with_reducible rfl); done)); try simp only [List.setIfInBounds_toArray, List.set_cons_zero, List.set_cons_succ]) | (refine wpTree_off rfl rfl (wanted_no rfl rfl rfl) ?_; try simp only [List.setIfInBounds_toArray, List.set_cons_zero, List.set_cons_succ]) | (refine wpTree_off rfl rfl (wanted_undef rfl rfl rfl) ?_; try simp only [List.setIfInBounds_toArray, List.set_cons_zero, List.set_cons_succ])))
      have hB8 : Blk w6 (w3.heap.size + 1) 32 #[.string S.name, .slice A1 n1 c1, .int .i64 S.key, .bool S.only, .slice A2 n2 c2] := (Blk.below B85 hb6 (by omega))
      have f0 := hB8.frozen 0
      have f1 := hB8.frozen 1
      have f2 := hB8.frozen 2
      have f3 := hB8.frozen 3
      have f4 := hB8.frozen 4
      have q8 := five hB8 (Below.refl _ _)
      refine wpTree_do rfl (wanted_free rfl) (fun K hK => ?_); go_simp
      clear f0 f1 f2 f3 f4 q8
      obtain ⟨w9, hw9, hV9, hlow9, hgr9⟩ := setV hB8 hT6' (by omega)
      rw [← hw9]
      clear hw9
      have hb9' := Below.trans hb6' (hlow9 _ (Nat.le_refl _))
      refine hK.out _ _ hb9' ?_
      clear hK K
      refine wpTree_end ?_
      have hbg9 := Below.trans hbgd (Below.mono hb9' (Nat.le_succ _))
      go_wp2
      go_roundw
      case rel => exact ⟨k + 1, p.2, by go_num, by omega, by omega, by have := Htl.out; split at this <;> omega, Hid'.out, hV9, Blk.below B7 hb9' (by omega), hbg9⟩
      case measure => simp [intOf]; omega
end Go.Proofs.Ytalfacbkofgdjaa.tb
