/- TableOrders: the walk. Printed by genorders.py. -/
import Derived.Test.YtalfacbkofgdjaaTy
import Derived.Test.YtalfacbkofgdjaaTArg
import Derived.Test.YtalfacbkofgdjaaT
namespace Go.Proofs.Ytalfacbkofgdjaa.tb
open Go.ChangeShapes Go.WideShapes Go.ChangeAt Go.RowKit Go.Proofs.Ytalfacbkofgdjaa.lib Go.Proofs.Ytalfacbkofgdjaa.val
set_option linter.unusedVariables false

set_option maxRecDepth 1000000 in
set_option maxHeartbeats 8000000 in
theorem orders_walk (s : ByteArray) (A : Option Addr) (n c : Nat) (l : List Col) (key : Int) (only : Bool) (Ai : Option Addr) (ni ci : Nat) (zs : List Int) (m : Int) (w : World) (hs : s.size ≤ maxLen) (hC : Cs w 0 A n c l) (hn : n ≤ maxLen) (hp : ∀ x ∈ l, RawC x) (hkey : ok64 key)
    (hI : Row w 0 Ai ni ci (flatK encI zs)) (hni : zs.length = ni) (hi2 : ni ≤ maxLen) (hz : ∀ x ∈ zs, ok64 x) (hm : ok64 m) :
    Calls Try.prog 7 #[.agg #[.string s, .slice A n c, .int .i64 key, .bool only], .slice Ai ni ci, .int .i64 m] w fun e W' => e = .returned (.bool true) ∧ Below w.heap.size w W' := by
  unfold maxLen at hi2
  obtain ⟨hm1, hm2⟩ := hm
  have HNI := Lib.hid hni
  have HZ := Lib.hid hz
  obtain ⟨j0, hj, hy0, hy1, hy2⟩ := info_parts (P := Try.prog) (e := 33) (z := .slice none 0 0) (size := 1) (bytes := 24) (by kernel_rfl)
  clear hni hz
  go_enter Try.func7, Try.ntmps7
  go_upto_region 1 with fail
  obtain ⟨W0, hW_, hbW0, BS⟩ : ∃ W_, W_ = (w.alloc (.cells #[.string s, .slice A n c, .int .i64 key, .bool only] 24)) ∧ Below w.heap.size w W_ ∧ Blk W_ (w.heap.size) 24 #[.string s, .slice A n c, .int .i64 key, .bool only] :=
    ⟨_, rfl, ((Below.refl _ _).alloc (Nat.le_refl _) _), (blk_new_at w (w.heap.size) _ _ (by simp))⟩
  rw [← hW_]
  clear hW_
  go_wp2_with fail
  refine (known_ _).mono ?_
  rintro e w1 ⟨rfl, hb1⟩
  have hbw1 := Below.trans hbW0 (Below.mono hb1 hbW0.size)
  have BS := BS.ext hb1
  clear hbW0 hb1
  have q := four BS (Below.refl _ _)
  go_wp2_with fail
  refine (few9_ s A n c l key only _ hs (hC.ext hbw1) hn (fun x hx => (hp x hx).s)).mono ?_
  rintro e w2 ⟨⟨b, rfl⟩, hb2⟩
  have hbw2 := Below.trans hbw1 (Below.mono hb2 hbw1.size)
  have BS := BS.ext hb2
  clear hbw1 hb2 q
  by_cases hbt : b = true
  case neg =>
    obtain rfl : b = false := by cases b with | false => rfl | true => exact absurd rfl hbt
    go_wp2
    go_ret
    exact ⟨rfl, hbw2⟩
  subst hbt
  have q := four BS (Below.refl _ _)
  go_wp2_with fail
  refine (good9_ s A n c l key only _ (hC.ext hbw2) hn hp hkey).mono ?_
  rintro e w3 ⟨A7, c7, rfl, hC7, hF7, hb3⟩
  have hbw3 := Below.trans hbw2 (Below.mono hb3 hbw2.size)
  have hS : SOk (goodS l key only) := good_ok l key only
  generalize goodS l key only = S at *
  clear hbw2 hb3 q BS
  have h6 := hS.six
  have hn7 : S.cols.length ≤ 100 := by omega
  simp only [schA]
  go_wp2_with fail
  obtain ⟨W, hW_, hbW1, B7⟩ : ∃ W_, W_ = (w3.alloc (.cells #[.string S.name, .slice A7 S.cols.length c7, .int .i64 S.key, .bool S.only] 24)) ∧ Below w3.heap.size w3 W_ ∧ Blk W_ (w3.heap.size) 24 #[.string S.name, .slice A7 S.cols.length c7, .int .i64 S.key, .bool S.only] :=
    ⟨_, rfl, ((Below.refl _ _).alloc (Nat.le_refl _) _), (blk_new_at w3 (w3.heap.size) _ _ (by simp))⟩
  rw [← hW_]
  clear hW_
  have B7z : Blk W w3.heap.size _ _ := B7
  have hCs : Hid (∀ w', Below w3.heap.size w3 w' → Cs w' 0 A7 S.cols.length c7 S.cols) := Lib.hid (fun w' h => (hC7.ext h).base (Nat.zero_le _))
  clear hC7 hF7
  have D7 := fun w' (h : Below W.heap.size W.drew w') => four B7 (Below.trans (Below.refl _ _).drew h)
  refine wp_region_mix2 ⟨4, 8, fun g => .pointer (some ⟨g, 0, none⟩), .cells #[.string ⟨#[]⟩, .slice none 0 0, .int .i64 0, .bool false, .slice none 0 0] 32⟩ ⟨5, 9, fun g => .pointer (some ⟨g, 0, none⟩), .cells #[.string ⟨#[]⟩, .slice none 0 0, .int .i64 0, .bool false, .slice none 0 0] 32⟩
    [(0, true), (1, true), (2, true), (3, true)] [] [(6, false), (7, false)] (by kernel_rfl) (by kernel_rfl) ?_
  repeat ((with_reducible show wpI _ _ _ _ _ ((_, true) :: _) _ _); (first | (refine wpI_on (v := ?_) rfl rfl (wanted_free rfl) (fun w' hS => ?_) ?_; rotate_left; (focus (go_simp; (try with_reducible rfl); done)); try simp only [List.setIfInBounds_toArray, List.set_cons_zero, List.set_cons_succ]) | (refine wpI_on (v := ?_) rfl rfl (wanted_yes rfl rfl rfl) (fun w' hS => ?_) ?_; rotate_left; (focus (go_simp; (try with_reducible rfl); done)); try simp only [List.setIfInBounds_toArray, List.set_cons_zero, List.set_cons_succ]) | (refine wpI_off rfl rfl (wanted_no rfl rfl rfl) ?_; try simp only [List.setIfInBounds_toArray, List.set_cons_zero, List.set_cons_succ]) | (refine wpI_off rfl rfl (wanted_undef rfl rfl rfl) ?_; try simp only [List.setIfInBounds_toArray, List.set_cons_zero, List.set_cons_succ])))
  refine wpI_done ⟨?_, ?_⟩
  · intro u hu
    simp only [List.mem_cons, List.not_mem_nil, or_false] at hu
    rcases hu with rfl | rfl <;> exact ⟨_, rfl, rfl, wanted_free rfl, fun w => by go_simp⟩
  clear D7
  refine wpI_done ?_
  intro ga gb wf he hb hlo1 hhi1 hat1 hlo2 hhi2 hat2 hne
  try simp only [List.setIfInBounds_toArray, List.set_cons_zero, List.set_cons_succ]
  have C1 : Blk wf ga 32 #[.string ⟨#[]⟩, .slice none 0 0, .int .i64 0, .bool false, .slice none 0 0] := hat1
  have C2 : Blk wf gb 32 #[.string ⟨#[]⟩, .slice none 0 0, .int .i64 0, .bool false, .slice none 0 0] := hat2
  clear hat1 hat2 he
  have f0 := C1.frozen 0
  have f1 := C1.frozen 1
  have f2 := C1.frozen 2
  have f3 := C1.frozen 3
  have f4 := C1.frozen 4
  have q := five C1 (Below.refl _ _)
  refine wpPerm_do rfl (wanted_free rfl) (fun K hK => ?_); go_simp
  clear f0 f1 f2 f3 f4 q
  obtain ⟨wh, hw, C1, hl1, hg1⟩ := Blk.set5 C1 (.string S.name) (.slice A7 S.cols.length c7) (.int .i64 S.key) (.bool S.only) (.slice none 0 0)
  rw [← hw]
  clear hw
  have C2 := C2.grown hg1 (by simpa using hne.symm)
  have hb := Below.trans hb (hl1 _ hlo1)
  refine hK.out _ _ hb ?_
  clear hK K
  have f0 := C2.frozen 0
  have f1 := C2.frozen 1
  have f2 := C2.frozen 2
  have f3 := C2.frozen 3
  have f4 := C2.frozen 4
  have q := five C2 (Below.refl _ _)
  refine wpPerm_do rfl (wanted_free rfl) (fun K hK => ?_); go_simp
  clear f0 f1 f2 f3 f4 q
  obtain ⟨wj, hw, C2, hl2, hg2⟩ := Blk.set5 C2 (.string S.name) (.slice A7 S.cols.length c7) (.int .i64 S.key) (.bool S.only) (.slice none 0 0)
  rw [← hw]
  clear hw
  have C1 := C1.grown hg2 (by simpa using hne)
  have hb := Below.trans hb (hl2 _ hlo2)
  refine hK.out _ _ hb ?_
  clear hK K
  refine wpPerm_done ?_
  have hbj := Below.trans ((Below.refl W.heap.size W).drew) hb
  have B7 := B7.ext hbj
  have hg3 := Below.trans hbW1 (Below.mono hbj hbW1.size)
  have hz1 := hbW1.size
  have hgab : ga < wj.heap.size ∧ gb < wj.heap.size := ⟨C1.lt, C2.lt⟩
  have hwg : w3.heap.size < ga ∧ w3.heap.size < gb := by have := (B7z).lt; omega
  obtain ⟨H0, hH0e⟩ : ∃ H0, H0 = wj.heap.size := ⟨_, rfl⟩
  rw [← hH0e] at hgab
  have hH0 : H0 ≤ wj.heap.size := by omega
  clear hH0e
  clear hl1 hl2 hg1 hg2 hhi1 hhi2 hb hbj
  have hA0 : TabL w3 32 wj ga gb S [] := ⟨_, _, _, _, _, _, C1, .inr hCs.out, Rs.nil _ _, .inl rfl⟩
  obtain ⟨N, hN⟩ : ∃ N : Nat, N = min ni 30 := ⟨_, rfl⟩
  have hN2 : N ≤ ni ∧ N ≤ 30 := by omega
  clear C1
  have hcase : (¬ (30 : Int) < (ni : Int) ∧ Hid ((ni : Int) = (N : Int))) ∨ ((30 : Int) < (ni : Int) ∧ Hid ((30 : Int) = (N : Int))) := by
    by_cases h : 30 < ni
    · exact .inr ⟨by omega, Lib.hid (by omega)⟩
    · exact .inl ⟨by omega, Lib.hid (by omega)⟩
  clear hN
  rcases hcase with ⟨hlt, HN⟩ | ⟨hlt, HN⟩
  all_goals
    go_wp2_with fail
    rw [HN.out]
    clear hlt HN
    go_loopw [11, 12] (fun v i wr => ∃ (k : Nat) (rows L : List (List V)) (hs : List Value), i = .int .i64 k ∧ k ≤ N ∧ L.length ≤ k ∧ OrdA S.cols S.key L rows ∧ TabL w3 32 wr ga gb S rows ∧ Blk wr gb 32 #[.string S.name, .slice A7 S.cols.length c7, .int .i64 S.key, .bool S.only, .slice none 0 0] ∧ Blk wr w3.heap.size 24 #[.string S.name, .slice A7 S.cols.length c7, .int .i64 S.key, .bool S.only] ∧ wr.ownsRow H0 33 1 v L.length hs ∧ Es wr hs L ∧ Below w3.heap.size w3 wr ∧ H0 ≤ wr.heap.size) (fun _ i _ => N - (intOf i).toNat)
    case atStart => exact ⟨0, [], [], [], rfl, Nat.zero_le _, Nat.zero_le _, ⟨hS.ok0, .refl _⟩, hA0, C2, B7, World.ownsRow_nil _ _ _ _, Es.nil _, hg3, hH0⟩
    case round =>
      clear hA0 C2 B7 B7z hg3 hH0
      obtain ⟨k, rows, L, hs, rfl, hk, hLk, hOA, hA, Bb, B7, HO, hE, hbg, hHr⟩ := hrel
      have hOA := Lib.hid hOA
      have hlo5 := HO.lt
      obtain ⟨Al, cl, rfl⟩ := own_slice HO
      have HO := Lib.hid HO
      have hbw := Below.trans hbw3 (Below.mono hbg hbw3.size)
      have hrl : rows.length ≤ 100 := by rw [hOA.out.perm.length_eq]; omega
      have hL30 : L.length ≤ 30 := by omega
      rcases Nat.lt_or_ge k N with hgo | hgo
      case inr =>
        have hd1 : decide ((k : Int) < (N : Int)) = false := by simp; omega
        have hd1n : decide (k < N) = false := by simp; omega
        have hOAf := hOA
        obtain ⟨sh, hsh⟩ : ∃ sh : Nat, sh = (m % (L.length : Int)).toNat := ⟨_, rfl⟩
        have hshb : 0 < L.length → m % (L.length : Int) = (sh : Int) ∧ sh < L.length := fun h => by
          have h1 := Int.emod_nonneg m (show (L.length : Int) ≠ 0 by omega)
          have h2 := Int.emod_lt_of_pos m (show (0 : Int) < L.length by omega)
          omega
        have HSHB := Lib.hid hshb
        clear hsh hshb
        have hVb : TabV 32 wr gb S [] := ⟨_, _, _, _, _, _, Bb, hCs.out _ hbg, Rs.nil _ _, .inl rfl⟩
        obtain ⟨wo, hwo⟩ : ∃ wo : World, wo = wr := ⟨_, rfl⟩
        subst hwo
        go_wp2_with fail
        try rw [hd1n]
        go_loopw [16] (fun i wr => ∃ (k : Nat) (rowsB : List (List V)), i = .int .i64 k ∧ k ≤ L.length ∧ OrdB S.cols S.key L sh k rowsB ∧ TabV 32 wr gb S rowsB ∧ TabL w3 32 wr ga gb S rows ∧ wr.ownsRow H0 33 1 (.slice Al L.length cl) L.length hs ∧ Es wr hs L ∧ Below w3.heap.size w3 wr) (fun i _ => L.length - (intOf i).toNat)
        case atStart => exact ⟨0, [], rfl, Nat.zero_le _, ⟨hS.ok0, .refl _⟩, hVb, hA, HO.out, hE, hbg⟩
        case round =>
          clear hVb hA HO hE hbg hbw Bb B7 hk hgo hd1
          obtain ⟨k, rowsB, rfl, hk, hOB, hV, hA, HO, hE, hbg⟩ := hrel
          have hOB := Lib.hid hOB
          have HO := Lib.hid HO
          have hbw := Below.trans hbw3 (Below.mono hbg hbw3.size)
          rcases Nat.lt_or_ge k L.length with hlt | hge
          case inr =>
            have hd1 : decide ((k : Int) < (L.length : Int)) = false := by simp; omega
            obtain rfl : k = L.length := by omega
            have hse : sh < L.length ∨ L = [] := by
              rcases Nat.eq_zero_or_pos L.length with h | h
              · exact .inr (List.length_eq_zero_iff.1 h)
              · exact .inl (HSHB.out h).2
            obtain rfl := ordB_end hOAf.out hOB.out hse
            obtain ⟨A1, n1, c1, A2, n2, c2, B8, hC8, hR8, hF8⟩ := hA.toV hbg
            obtain ⟨A3, n3, c3, A4, n4, c4, B9, hC9, hR9, hF9⟩ := hV
            have q8 := five B8 (Below.refl _ _)
            have q9 := five B9 (Below.refl _ _)
            go_wp2_with fail
            refine (same_ S rows 0 0 _ _ _ hn7 (by omega) (hOAf.out.ok.small hn7) (TabR.of hC8 hR8 hF8) (TabR.of hC9 hR9 hF9)).mono ?_
            rintro e wz ⟨rfl, hbz⟩
            go_wp2
            go_ret
            exact ⟨rfl, Below.trans hbw (Below.mono hbz hbw.size)⟩
          obtain ⟨hsh1, hsh2⟩ := HSHB.out (show 0 < L.length by omega)
          have HSH := Lib.hid hsh1
          clear hsh1
          have hlen : 0 < L.length := by omega
          obtain ⟨gl, rfl, hgl0, hgl1⟩ := own_some HO.out hlen
          have hstep := ordB_step hOAf.out hOB.out hlt (by omega)
          obtain ⟨idx, hidx⟩ : ∃ idx, (k + sh) % L.length = idx := ⟨_, rfl⟩
          have hil : idx < L.length := by rw [← hidx]; exact Nat.mod_lt _ hlen
          have hrot : rot L sh k = L[idx]'hil := by unfold rot; rw [hidx, List.getD_eq_getElem?_getD, List.getElem?_eq_getElem hil]; rfl
          obtain ⟨r, hr⟩ : ∃ r, L[idx]'hil = r := ⟨_, rfl⟩
          have hLr : L[idx]? = some r := by rw [List.getElem?_eq_getElem hil, hr]
          rw [hrot, hr] at hstep
          have hrf : fitsL S.cols r = 0 := hOAf.out.ok.fit r (hOAf.out.perm.mem_iff.2 (List.mem_of_getElem? hLr))
          have hrl := fits_len hrf
          obtain ⟨Ar, cr, hsr, hVr⟩ := hE.at_ hLr
          have hcell := (Row.of_own HO.out).at_ hsr
          obtain ⟨p, hp⟩ : ∃ p, putL S.cols S.key rowsB r = p := ⟨_, rfl⟩
          rw [hp] at hstep
          have Hp0 := Lib.hid hstep.1
          have HOB' := Lib.hid hstep.2
          have hrB : rowsB.length ≤ 100 := by rw [hOB.out.perm.length_eq]; simp [rots]; omega
          obtain ⟨A1, n1, c1, A2, n2, c2, B9, hC8, hR8, hF8⟩ := hV
          have hput := fun w' (h : Below wr.heap.size wr w') => put_ S rowsB r 0 A1 n1 c1 A2 n2 c2 0 Ar r.length cr w' (hC8.ext h) (hR8.ext h) hF8 (hVr.ext h) (small_of hrf) hOB.out.ok hn7 (by omega) (by omega)
          rw [hp] at hput
          have Hput := Lib.hid hput
          have hmodi : ((k : Int) + (sh : Int)).tmod (L.length : Int) = (idx : Int) := by
            rw [show (k : Int) + (sh : Int) = ((k + sh : Nat) : Int) by simp, ← Int.ofNat_tmod, hidx]
          have hi0 : (0 : Int) ≤ (idx : Int) := by omega
          have hi1 : (idx : Int) < (L.length : Int) := by omega
          have hLne : L ≠ [] := List.ne_nil_of_length_pos hlen
          have hd1 : decide ((k : Int) < (L.length : Int)) = true := by simp; omega
          have hwrap : IntKind.i64.wrap ((k : Int) + (sh : Int)) = (k : Int) + (sh : Int) := IntWalk.i64_in _ ⟨by omega, by omega⟩
          have HLr := Lib.hid hLr
          have Hhs := Lib.hid hsr
          clear hput hp hstep hrot hr hLr hsr hidx hcell hrf hrl hC8 hR8 hF8
          go_wp2_with fail
          have D9 := fun w' (h : Below wr.heap.size wr.drew w') => five B9 (Below.trans (Below.refl _ _).drew h)
          have Dl := fun w' (h : Below wr.heap.size wr.drew w') => (Row.of_own (own_ext HO.out (Below.trans (Below.refl _ _).drew h))).at_ Hhs.out
          simp only [Nat.zero_add] at Dl
          refine wp_region_tree (S := fun w' => Below wr.heap.size wr.drew w') (.take 0 (.take 1 (.take 2 (.take 3 (.take 4 (.take 5 (.take 8 (.take 9 (.two 6 17 (.take 7 (.take 10 (.take 11 (.take 12 (.two 13 17 (.take 14 (.take 15 (.take 16 (.one 17 (.one 18 (.take 19 .nil)))))) (.one 13 (.take 14 (.take 15 (.take 16 (.one 18 (.take 19 .nil))))))))))) (.one 6 (.take 7 (.take 10 (.take 11 (.take 12 (.one 13 (.take 14 (.take 15 (.take 16 (.one 18 (.take 19 .nil))))))))))))))))))))
            (by kernel_rfl) (by kernel_rfl) (by kernel_rfl) (by decide) (by intro c a d v w h; cases d <;> exact h) (Below.refl _ _) ?_
          repeat ((with_reducible show wpTree _ _ _ _ (.take _ _) _ _); (first | (refine wpTree_on (v := ?_) rfl rfl (wanted_free rfl) (fun w' hS => ?_) ?_; rotate_left; (focus (go_simp; (try with_reducible rfl); done)); try simp only [List.setIfInBounds_toArray, List.set_cons_zero, List.set_cons_succ]) | (refine wpTree_on (v := ?_) rfl rfl (wanted_yes rfl rfl rfl) (fun w' hS => ?_) ?_; rotate_left; (focus (go_simp; (try with_reducible rfl); done)); try simp only [List.setIfInBounds_toArray, List.set_cons_zero, List.set_cons_succ]) | (refine wpTree_off rfl rfl (wanted_no rfl rfl rfl) ?_; try simp only [List.setIfInBounds_toArray, List.set_cons_zero, List.set_cons_succ]) | (refine wpTree_off rfl rfl (wanted_undef rfl rfl rfl) ?_; try simp only [List.setIfInBounds_toArray, List.set_cons_zero, List.set_cons_succ])))
          have hd5 : Below wr.heap.size wr wr.drew := (Below.refl _ _).drew
          have hd5' : wr.heap.size ≤ wr.drew.heap.size := Nat.le_refl _
          generalize hwd : wr.drew = wd at *
          clear hwd
          have hg9 := B9.lt
          refine wpTree_both rfl (wanted_free rfl) rfl (wanted_free rfl) (fun K hK => ?_) (fun K hK => ?_)
          · go_simp
            refine (within10 m L.length sh HSH.out _ (by omega) (by omega) hm1 hm2).mono ?_
            rintro e wx ⟨rfl, rfl⟩
            refine hK.out _ _ (Below.refl _ _) ?_
            clear hK K
            repeat ((with_reducible show wpTree _ _ _ _ (.take _ _) _ _); (first | (refine wpTree_on (v := ?_) rfl rfl (wanted_free rfl) (fun w' hS => ?_) ?_; rotate_left; (focus (go_simp; (try with_reducible rfl); done)); try simp only [List.setIfInBounds_toArray, List.set_cons_zero, List.set_cons_succ]) | (refine wpTree_on (v := ?_) rfl rfl (wanted_yes rfl rfl rfl) (fun w' hS => ?_) ?_; rotate_left; (focus (go_simp; (try with_reducible rfl); done)); try simp only [List.setIfInBounds_toArray, List.set_cons_zero, List.set_cons_succ]) | (refine wpTree_off rfl rfl (wanted_no rfl rfl rfl) ?_; try simp only [List.setIfInBounds_toArray, List.set_cons_zero, List.set_cons_succ]) | (refine wpTree_off rfl rfl (wanted_undef rfl rfl rfl) ?_; try simp only [List.setIfInBounds_toArray, List.set_cons_zero, List.set_cons_succ])))
            refine wpTree_both rfl (wanted_free rfl) rfl (wanted_free rfl) (fun K hK => ?_) (fun K hK => ?_)
            · go_simp
              refine (Hput.out _ hd5).mono ?_
              rintro e w6 ⟨v, rfl, hT6, hb6⟩
              obtain ⟨A5, n5, c5, A6, n6, c6, rfl, hC6, hR6, hF6⟩ := hT6
              rw [Hp0.out]
              simp only [tabA]
              have hb6' : Below wr.heap.size wd w6 := hb6.mono hd5'
              refine hK.out _ _ hb6' ?_
              clear hK K
              repeat ((with_reducible show wpTree _ _ _ _ (.take _ _) _ _); (first | (refine wpTree_on (v := ?_) rfl rfl (wanted_free rfl) (fun w' hS => ?_) ?_; rotate_left; (focus (go_simp; (try with_reducible rfl); done)); try simp only [List.setIfInBounds_toArray, List.set_cons_zero, List.set_cons_succ]) | (refine wpTree_on (v := ?_) rfl rfl (wanted_yes rfl rfl rfl) (fun w' hS => ?_) ?_; rotate_left; (focus (go_simp; (try with_reducible rfl); done)); try simp only [List.setIfInBounds_toArray, List.set_cons_zero, List.set_cons_succ]) | (refine wpTree_off rfl rfl (wanted_no rfl rfl rfl) ?_; try simp only [List.setIfInBounds_toArray, List.set_cons_zero, List.set_cons_succ]) | (refine wpTree_off rfl rfl (wanted_undef rfl rfl rfl) ?_; try simp only [List.setIfInBounds_toArray, List.set_cons_zero, List.set_cons_succ])))
              refine wpTree_do rfl (wanted_free rfl) (fun K hK => ?_); go_simp
              refine hK.out _ _ (hb6'.alloc (by have := hb6.size; omega) _) ?_
              clear hK K
              have B17 : Blk (w6.alloc (.cells #[.string ⟨#[]⟩, .slice none 0 0, .int .i64 0, .bool false, .slice none 0 0] 32)) w6.heap.size 32 #[.string ⟨#[]⟩, .slice none 0 0, .int .i64 0, .bool false, .slice none 0 0] := Blk.new _ _ _
              have f0 := B17.frozen 0
              have f1 := B17.frozen 1
              have f2 := B17.frozen 2
              have f3 := B17.frozen 3
              have f4 := B17.frozen 4
              have q := five B17 (Below.refl _ _)
              refine wpTree_do rfl (wanted_free rfl) (fun K hK => ?_); go_simp
              clear f0 f1 f2 f3 f4 q B17
              obtain ⟨w7, hw7⟩ : ∃ w7, w7 = w6.alloc (.cells #[.string S.name, .slice A5 n5 c5, .int .i64 S.key, .bool S.only, .slice A6 n6 c6] 32) := ⟨_, rfl⟩
              have hb67 : Below w6.heap.size w6 w7 := by rw [hw7]; exact (Below.refl _ _).alloc (Nat.le_refl _) _
              have B17 : Blk w7 w6.heap.size 32 #[.string S.name, .slice A5 n5 c5, .int .i64 S.key, .bool S.only, .slice A6 n6 c6] := by rw [hw7]; exact Blk.new _ _ _
              rw [← hw7]
              clear hw7
              have hT7 : TabR w7 wr.heap.size (.agg (tabA S A5 n5 c5 A6 n6 c6)) S p.2 := TabR.base ⟨_, _, _, _, _, _, rfl, hC6.ext hb67, hR6.ext hb67, hF6⟩ (by omega)
              have hb7' := Below.trans hb6' (Below.mono hb67 (by have := hb6.size; omega))
              have hb7 : Below wr.heap.size wr w7 := Below.trans hd5 hb7'
              refine hK.out _ _ hb7' ?_
              clear hK K
              repeat ((with_reducible show wpTree _ _ _ _ (.take _ _) _ _); (first | (refine wpTree_on (v := ?_) rfl rfl (wanted_free rfl) (fun w' hS => ?_) ?_; rotate_left; (focus (go_simp; (try with_reducible rfl); done)); try simp only [List.setIfInBounds_toArray, List.set_cons_zero, List.set_cons_succ]) | (refine wpTree_on (v := ?_) rfl rfl (wanted_yes rfl rfl rfl) (fun w' hS => ?_) ?_; rotate_left; (focus (go_simp; (try with_reducible rfl); done)); try simp only [List.setIfInBounds_toArray, List.set_cons_zero, List.set_cons_succ]) | (refine wpTree_off rfl rfl (wanted_no rfl rfl rfl) ?_; try simp only [List.setIfInBounds_toArray, List.set_cons_zero, List.set_cons_succ]) | (refine wpTree_off rfl rfl (wanted_undef rfl rfl rfl) ?_; try simp only [List.setIfInBounds_toArray, List.set_cons_zero, List.set_cons_succ])))
              refine wpTree_end ?_
              generalize w6.heap.size = g17 at *
              clear hmodi hwrap Dl D9
              have hbg7 := Below.trans hbg (Below.mono hb7 hbg.size)
              have hbw7 := Below.trans hbw3 (Below.mono hbg7 hbw3.size)
              have hA := hA.ext hb7
              have HO := Lib.hid (own_ext HO.out hb7)
              have hE := hE.ext hb7
              have B9 : Blk w7 gb 32 #[.string S.name, .slice A1 n1 c1, .int .i64 S.key, .bool S.only, .slice A2 n2 c2] := B9.ext hb7
              have q17 := five B17 (Below.refl _ _)
              have f0 := B9.frozen 0
              have f1 := B9.frozen 1
              have f2 := B9.frozen 2
              have f3 := B9.frozen 3
              have f4 := B9.frozen 4
              have q9 := five B9 (Below.refl _ _)
              go_wp2
              clear f0 f1 f2 f3 f4 q17 q9
              obtain ⟨w9, hw9, hV9, hlow9, hgr9⟩ := setV B9 hT7 (by omega)
              rw [← hw9]
              clear hw9
              have HOx := Lib.hid (HO.out.kept hgr9 (own_ne_blk HO.out B9 (by decide)))
              have hEx := hE.blk B9 hgr9 (by decide)
              go_roundw
              case rel => exact ⟨k + 1, p.2, by go_num, by omega, HOB'.out, hV9, hA.store hgr9 hne, HOx.out, hEx, Below.trans hbg7 (hlow9 _ (by omega))⟩
              case measure => simp [intOf]; omega
            · go_simp
              refine hK.out _ _ ((Below.refl wr.heap.size wd).alloc hd5' _) ?_
              clear hK K
              have B12 : Blk (wd.alloc (.cells #[.string ⟨#[]⟩, .slice none 0 0, .int .i64 0, .bool false, .slice none 0 0] 32)) wd.heap.size 32 #[.string ⟨#[]⟩, .slice none 0 0, .int .i64 0, .bool false, .slice none 0 0] := Blk.new _ _ _
              have hda : Below wr.heap.size wd (wd.alloc (.cells #[.string ⟨#[]⟩, .slice none 0 0, .int .i64 0, .bool false, .slice none 0 0] 32)) := (Below.refl wr.heap.size wd).alloc hd5' _
              have hgd : wd.heap.size < (wd.alloc (.cells #[.string ⟨#[]⟩, .slice none 0 0, .int .i64 0, .bool false, .slice none 0 0] 32)).heap.size := B12.lt
              generalize hwe : wd.alloc (.cells #[.string ⟨#[]⟩, .slice none 0 0, .int .i64 0, .bool false, .slice none 0 0] 32) = we at *
              clear hwe
              generalize wd.heap.size = g17 at *
              refine wpTree_do rfl (wanted_free rfl) (fun K hK => ?_); go_simp
              refine (Hput.out _ (Below.trans hd5 hda)).mono ?_
              rintro e w6 ⟨v, rfl, hT6, hb6⟩
              obtain ⟨A5, n5, c5, A6, n6, c6, rfl, hC6, hR6, hF6⟩ := hT6
              rw [Hp0.out]
              simp only [tabA]
              have hb6' : Below wr.heap.size wd w6 := Below.trans hda (hb6.mono (by omega))
              refine hK.out _ _ hb6' ?_
              clear hK K
              repeat ((with_reducible show wpTree _ _ _ _ (.take _ _) _ _); (first | (refine wpTree_on (v := ?_) rfl rfl (wanted_free rfl) (fun w' hS => ?_) ?_; rotate_left; (focus (go_simp; (try with_reducible rfl); done)); try simp only [List.setIfInBounds_toArray, List.set_cons_zero, List.set_cons_succ]) | (refine wpTree_on (v := ?_) rfl rfl (wanted_yes rfl rfl rfl) (fun w' hS => ?_) ?_; rotate_left; (focus (go_simp; (try with_reducible rfl); done)); try simp only [List.setIfInBounds_toArray, List.set_cons_zero, List.set_cons_succ]) | (refine wpTree_off rfl rfl (wanted_no rfl rfl rfl) ?_; try simp only [List.setIfInBounds_toArray, List.set_cons_zero, List.set_cons_succ]) | (refine wpTree_off rfl rfl (wanted_undef rfl rfl rfl) ?_; try simp only [List.setIfInBounds_toArray, List.set_cons_zero, List.set_cons_succ])))
              have B12 := B12.ext hb6
              have f0 := B12.frozen 0
              have f1 := B12.frozen 1
              have f2 := B12.frozen 2
              have f3 := B12.frozen 3
              have f4 := B12.frozen 4
              have q := five B12 (Below.refl _ _)
              refine wpTree_do rfl (wanted_free rfl) (fun K hK => ?_); go_simp
              clear f0 f1 f2 f3 f4 q
              obtain ⟨w7, hw7, B17, hC7', hR7', hlow7, hgr7⟩ := setL B12 hC6 hR6 hgd
              rw [← hw7]
              clear hw7 B12
              have hT7 : TabR w7 wr.heap.size (.agg (tabA S A5 n5 c5 A6 n6 c6)) S p.2 := TabR.base ⟨_, _, _, _, _, _, rfl, hC7', hR7', hF6⟩ (by omega)
              have hb7' := Below.trans hb6' (hlow7 wr.heap.size hd5')
              have hb7 : Below wr.heap.size wr w7 := Below.trans hd5 hb7'
              refine hK.out _ _ hb7' ?_
              clear hK K
              repeat ((with_reducible show wpTree _ _ _ _ (.take _ _) _ _); (first | (refine wpTree_on (v := ?_) rfl rfl (wanted_free rfl) (fun w' hS => ?_) ?_; rotate_left; (focus (go_simp; (try with_reducible rfl); done)); try simp only [List.setIfInBounds_toArray, List.set_cons_zero, List.set_cons_succ]) | (refine wpTree_on (v := ?_) rfl rfl (wanted_yes rfl rfl rfl) (fun w' hS => ?_) ?_; rotate_left; (focus (go_simp; (try with_reducible rfl); done)); try simp only [List.setIfInBounds_toArray, List.set_cons_zero, List.set_cons_succ]) | (refine wpTree_off rfl rfl (wanted_no rfl rfl rfl) ?_; try simp only [List.setIfInBounds_toArray, List.set_cons_zero, List.set_cons_succ]) | (refine wpTree_off rfl rfl (wanted_undef rfl rfl rfl) ?_; try simp only [List.setIfInBounds_toArray, List.set_cons_zero, List.set_cons_succ])))
              refine wpTree_end ?_
              clear hmodi hwrap Dl D9
              have hbg7 := Below.trans hbg (Below.mono hb7 hbg.size)
              have hbw7 := Below.trans hbw3 (Below.mono hbg7 hbw3.size)
              have hA := hA.ext hb7
              have HO := Lib.hid (own_ext HO.out hb7)
              have hE := hE.ext hb7
              have B9 : Blk w7 gb 32 #[.string S.name, .slice A1 n1 c1, .int .i64 S.key, .bool S.only, .slice A2 n2 c2] := B9.ext hb7
              have q17 := five B17 (Below.refl _ _)
              have f0 := B9.frozen 0
              have f1 := B9.frozen 1
              have f2 := B9.frozen 2
              have f3 := B9.frozen 3
              have f4 := B9.frozen 4
              have q9 := five B9 (Below.refl _ _)
              go_wp2
              clear f0 f1 f2 f3 f4 q17 q9
              obtain ⟨w9, hw9, hV9, hlow9, hgr9⟩ := setV B9 hT7 (by omega)
              rw [← hw9]
              clear hw9
              have HOx := Lib.hid (HO.out.kept hgr9 (own_ne_blk HO.out B9 (by decide)))
              have hEx := hE.blk B9 hgr9 (by decide)
              go_roundw
              case rel => exact ⟨k + 1, p.2, by go_num, by omega, HOB'.out, hV9, hA.store hgr9 hne, HOx.out, hEx, Below.trans hbg7 (hlow9 _ (by omega))⟩
              case measure => simp [intOf]; omega
          · go_simp
            refine hK.out _ _ ((Below.refl wr.heap.size wd).alloc hd5' _) ?_
            clear hK K
            have B12 : Blk (wd.alloc (.cells #[.string ⟨#[]⟩, .slice none 0 0, .int .i64 0, .bool false, .slice none 0 0] 32)) wd.heap.size 32 #[.string ⟨#[]⟩, .slice none 0 0, .int .i64 0, .bool false, .slice none 0 0] := Blk.new _ _ _
            have hda : Below wr.heap.size wd (wd.alloc (.cells #[.string ⟨#[]⟩, .slice none 0 0, .int .i64 0, .bool false, .slice none 0 0] 32)) := (Below.refl wr.heap.size wd).alloc hd5' _
            have hgd : wd.heap.size < (wd.alloc (.cells #[.string ⟨#[]⟩, .slice none 0 0, .int .i64 0, .bool false, .slice none 0 0] 32)).heap.size := B12.lt
            generalize hwe : wd.alloc (.cells #[.string ⟨#[]⟩, .slice none 0 0, .int .i64 0, .bool false, .slice none 0 0] 32) = we at *
            clear hwe
            generalize wd.heap.size = g17 at *
            refine wpTree_do rfl (wanted_free rfl) (fun K hK => ?_); go_simp
            refine (within10 m L.length sh HSH.out _ (by omega) (by omega) hm1 hm2).mono ?_
            rintro e wx ⟨rfl, rfl⟩
            refine hK.out _ _ hda ?_
            clear hK K
            repeat ((with_reducible show wpTree _ _ _ _ (.take _ _) _ _); (first | (refine wpTree_on (v := ?_) rfl rfl (wanted_free rfl) (fun w' hS => ?_) ?_; rotate_left; (focus (go_simp; (try with_reducible rfl); done)); try simp only [List.setIfInBounds_toArray, List.set_cons_zero, List.set_cons_succ]) | (refine wpTree_on (v := ?_) rfl rfl (wanted_yes rfl rfl rfl) (fun w' hS => ?_) ?_; rotate_left; (focus (go_simp; (try with_reducible rfl); done)); try simp only [List.setIfInBounds_toArray, List.set_cons_zero, List.set_cons_succ]) | (refine wpTree_off rfl rfl (wanted_no rfl rfl rfl) ?_; try simp only [List.setIfInBounds_toArray, List.set_cons_zero, List.set_cons_succ]) | (refine wpTree_off rfl rfl (wanted_undef rfl rfl rfl) ?_; try simp only [List.setIfInBounds_toArray, List.set_cons_zero, List.set_cons_succ])))
            refine wpTree_do rfl (wanted_free rfl) (fun K hK => ?_); go_simp
            refine (Hput.out _ (Below.trans hd5 hda)).mono ?_
            rintro e w6 ⟨v, rfl, hT6, hb6⟩
            obtain ⟨A5, n5, c5, A6, n6, c6, rfl, hC6, hR6, hF6⟩ := hT6
            rw [Hp0.out]
            simp only [tabA]
            have hb6' : Below wr.heap.size wd w6 := Below.trans hda (hb6.mono (by omega))
            refine hK.out _ _ hb6' ?_
            clear hK K
            repeat ((with_reducible show wpTree _ _ _ _ (.take _ _) _ _); (first | (refine wpTree_on (v := ?_) rfl rfl (wanted_free rfl) (fun w' hS => ?_) ?_; rotate_left; (focus (go_simp; (try with_reducible rfl); done)); try simp only [List.setIfInBounds_toArray, List.set_cons_zero, List.set_cons_succ]) | (refine wpTree_on (v := ?_) rfl rfl (wanted_yes rfl rfl rfl) (fun w' hS => ?_) ?_; rotate_left; (focus (go_simp; (try with_reducible rfl); done)); try simp only [List.setIfInBounds_toArray, List.set_cons_zero, List.set_cons_succ]) | (refine wpTree_off rfl rfl (wanted_no rfl rfl rfl) ?_; try simp only [List.setIfInBounds_toArray, List.set_cons_zero, List.set_cons_succ]) | (refine wpTree_off rfl rfl (wanted_undef rfl rfl rfl) ?_; try simp only [List.setIfInBounds_toArray, List.set_cons_zero, List.set_cons_succ])))
            have B12 := B12.ext hb6
            have f0 := B12.frozen 0
            have f1 := B12.frozen 1
            have f2 := B12.frozen 2
            have f3 := B12.frozen 3
            have f4 := B12.frozen 4
            have q := five B12 (Below.refl _ _)
            refine wpTree_do rfl (wanted_free rfl) (fun K hK => ?_); go_simp
            clear f0 f1 f2 f3 f4 q
            obtain ⟨w7, hw7, B17, hC7', hR7', hlow7, hgr7⟩ := setL B12 hC6 hR6 hgd
            rw [← hw7]
            clear hw7 B12
            have hT7 : TabR w7 wr.heap.size (.agg (tabA S A5 n5 c5 A6 n6 c6)) S p.2 := TabR.base ⟨_, _, _, _, _, _, rfl, hC7', hR7', hF6⟩ (by omega)
            have hb7' := Below.trans hb6' (hlow7 wr.heap.size hd5')
            have hb7 : Below wr.heap.size wr w7 := Below.trans hd5 hb7'
            refine hK.out _ _ hb7' ?_
            clear hK K
            repeat ((with_reducible show wpTree _ _ _ _ (.take _ _) _ _); (first | (refine wpTree_on (v := ?_) rfl rfl (wanted_free rfl) (fun w' hS => ?_) ?_; rotate_left; (focus (go_simp; (try with_reducible rfl); done)); try simp only [List.setIfInBounds_toArray, List.set_cons_zero, List.set_cons_succ]) | (refine wpTree_on (v := ?_) rfl rfl (wanted_yes rfl rfl rfl) (fun w' hS => ?_) ?_; rotate_left; (focus (go_simp; (try with_reducible rfl); done)); try simp only [List.setIfInBounds_toArray, List.set_cons_zero, List.set_cons_succ]) | (refine wpTree_off rfl rfl (wanted_no rfl rfl rfl) ?_; try simp only [List.setIfInBounds_toArray, List.set_cons_zero, List.set_cons_succ]) | (refine wpTree_off rfl rfl (wanted_undef rfl rfl rfl) ?_; try simp only [List.setIfInBounds_toArray, List.set_cons_zero, List.set_cons_succ])))
            refine wpTree_end ?_
            clear hmodi hwrap Dl D9
            have hbg7 := Below.trans hbg (Below.mono hb7 hbg.size)
            have hbw7 := Below.trans hbw3 (Below.mono hbg7 hbw3.size)
            have hA := hA.ext hb7
            have HO := Lib.hid (own_ext HO.out hb7)
            have hE := hE.ext hb7
            have B9 : Blk w7 gb 32 #[.string S.name, .slice A1 n1 c1, .int .i64 S.key, .bool S.only, .slice A2 n2 c2] := B9.ext hb7
            have q17 := five B17 (Below.refl _ _)
            have f0 := B9.frozen 0
            have f1 := B9.frozen 1
            have f2 := B9.frozen 2
            have f3 := B9.frozen 3
            have f4 := B9.frozen 4
            have q9 := five B9 (Below.refl _ _)
            go_wp2
            clear f0 f1 f2 f3 f4 q17 q9
            obtain ⟨w9, hw9, hV9, hlow9, hgr9⟩ := setV B9 hT7 (by omega)
            rw [← hw9]
            clear hw9
            have HOx := Lib.hid (HO.out.kept hgr9 (own_ne_blk HO.out B9 (by decide)))
            have hEx := hE.blk B9 hgr9 (by decide)
            go_roundw
            case rel => exact ⟨k + 1, p.2, by go_num, by omega, HOB'.out, hV9, hA.store hgr9 hne, HOx.out, hEx, Below.trans hbg7 (hlow9 _ (by omega))⟩
            case measure => simp [intOf]; omega
      obtain ⟨x, hx⟩ : ∃ x, zs[k]? = some x := ⟨_, List.getElem?_eq_getElem (by rw [HNI.out]; omega)⟩
      have hx64 := HZ.out x (List.mem_of_getElem? hx)
      obtain ⟨bi, oi, rfl, _, _, _⟩ := hI.some_ (by omega)
      have hxc := flatK_at encI 1 (fun _ => rfl) zs k x 0 _ hx rfl
      have HXC := Lib.hid hxc
      clear hxc hx
      have hd1 : decide ((k : Int) < (N : Int)) = true := by simp; omega
      have hkni : (k : Int) < (ni : Int) := by omega
      go_wp2_with fail
      have D := fun w' (h : Below wr.heap.size wr.drew w') => four B7 (Below.trans (Below.refl _ _).drew h)
      have D2 := fun w' (h : Below wr.heap.size wr.drew w') => (hI.ext (Below.trans hbw.drew (Below.mono h hbw.size))).at_ HXC.out
      simp only [Nat.mul_one, Nat.add_zero] at D2
      refine wp_region_one [(0, true), (1, true), (2, true), (3, true), (4, true), (5, false), (6, true)] (by kernel_rfl) (by kernel_rfl) (by kernel_rfl) (by decide) ?_
      repeat ((with_reducible show wpPerm _ _ _ _ ((_, true) :: _) _ _); (first | (refine wpPerm_on (v := ?_) rfl rfl (wanted_free rfl) (fun w' hS => ?_) ?_; rotate_left; (focus (go_simp; (try with_reducible rfl); done)); try simp only [List.setIfInBounds_toArray, List.set_cons_zero, List.set_cons_succ]) | (refine wpPerm_on (v := ?_) rfl rfl (wanted_yes rfl rfl rfl) (fun w' hS => ?_) ?_; rotate_left; (focus (go_simp; (try with_reducible rfl); done)); try simp only [List.setIfInBounds_toArray, List.set_cons_zero, List.set_cons_succ]) | (refine wpPerm_off rfl rfl (wanted_no rfl rfl rfl) ?_; try simp only [List.setIfInBounds_toArray, List.set_cons_zero, List.set_cons_succ]) | (refine wpPerm_off rfl rfl (wanted_undef rfl rfl rfl) ?_; try simp only [List.setIfInBounds_toArray, List.set_cons_zero, List.set_cons_succ])))
      refine wpPerm_do rfl (wanted_free rfl) (fun K hK => ?_); go_simp
      refine (fit_ S 0 A7 S.cols.length c7 x _ (hCs.out _ hbg.drew) hn7 hS.kinds hx64.1 hx64.2).mono ?_
      rintro e w5 ⟨Ar, cr, rfl, hown5, hb5⟩
      refine hK.out _ _ hb5 ?_
      clear hK K
      repeat ((with_reducible show wpPerm _ _ _ _ ((_, true) :: _) _ _); (first | (refine wpPerm_on (v := ?_) rfl rfl (wanted_free rfl) (fun w' hS => ?_) ?_; rotate_left; (focus (go_simp; (try with_reducible rfl); done)); try simp only [List.setIfInBounds_toArray, List.set_cons_zero, List.set_cons_succ]) | (refine wpPerm_on (v := ?_) rfl rfl (wanted_yes rfl rfl rfl) (fun w' hS => ?_) ?_; rotate_left; (focus (go_simp; (try with_reducible rfl); done)); try simp only [List.setIfInBounds_toArray, List.set_cons_zero, List.set_cons_succ]) | (refine wpPerm_off rfl rfl (wanted_no rfl rfl rfl) ?_; try simp only [List.setIfInBounds_toArray, List.set_cons_zero, List.set_cons_succ]) | (refine wpPerm_off rfl rfl (wanted_undef rfl rfl rfl) ?_; try simp only [List.setIfInBounds_toArray, List.set_cons_zero, List.set_cons_succ])))
      refine wpPerm_done ?_
      clear D D2
      have hbx := Below.trans (Below.refl _ wr).drew hb5
      have hVr : Vs w5 0 Ar S.cols.length cr (fitL S.cols x) := (Vs.of_own hown5).base (Nat.zero_le _)
      have hown5 := Lib.hid (own_lo hown5)
      obtain ⟨kv, hri⟩ := row_i hS x
      generalize fitL S.cols x = r at *
      have hri := Lib.hid hri
      have hA := hA.ext hbx
      have Bb := Bb.ext hbx
      have B7 := B7.ext hbx
      have HO := Lib.hid (own_ext HO.out hbx)
      have hE := hE.ext hbx
      have hzx := hbx.size
      have hbg := Below.trans hbg (Below.mono hbx hbg.size)
      have hbw := Below.trans hbw3 (Below.mono hbg hbw3.size)
      clear hb5 HXC hbx
      have hV := hA.toV hbg
      obtain ⟨A1, n1, c1, A2, n2, c2, B8, hC8, hR8, hF8⟩ := hV
      obtain ⟨p, hp⟩ : ∃ p, putL S.cols S.key rows r = p := ⟨_, rfl⟩
      have hput := fun w' (h : Below w5.heap.size w5 w') => put_ S rows r 0 A1 n1 c1 A2 n2 c2 0 Ar S.cols.length cr w' (hC8.ext h) (hR8.ext h) hF8 (hVr.ext h) hri.out.small hOA.out.ok hn7 (by omega) (by omega)
      rw [hp] at hput
      have Hput := Lib.hid hput
      have Hp := Lib.hid hp
      clear hput hp hC8 hR8 hF8
      have q8 := five B8 (Below.refl _ _)
      go_wp2_with fail
      clear q8
      refine (Hput.out _ (Below.refl _ _)).mono ?_
      rintro e w6 ⟨v, rfl, hT6, hb6⟩
      obtain ⟨A5, n5, c5, A6, n6, c6, rfl, hC6, hR6, hF6⟩ := hT6
      simp only [tabA]
      have hbg6 := Below.trans hbg (Below.mono hb6 hbg.size)
      have hz6 := hb6.size
      have hA := hA.ext hb6
      have Bb := Bb.ext hb6
      have B7 := B7.ext hb6
      have HO := Lib.hid (own_ext HO.out hb6)
      have hE := hE.ext hb6
      have hown6 := Lib.hid (own_ext hown5.out hb6)
      have B8 : Blk w6 ga 32 #[.string S.name, .slice A1 n1 c1, .int .i64 S.key, .bool S.only, .slice A2 n2 c2] := B8.ext hb6
      clear hb6 hown5 hVr Hput
      have hHa : H0 ≤ w5.heap.size := by omega
      have hb67 := fun o => (Below.refl w6.heap.size w6).alloc (Nat.le_refl _) o
      by_cases hp1 : p.1 = 0
      case neg =>
        have hdp : (p.1 == 0) = false := by simpa using hp1
        clear hp1
        go_wp2
        have h67 := hb67 (.cells #[.string S.name, .slice A5 n5 c5, .int .i64 S.key, .bool S.only, .slice A6 n6 c6] 32)
        go_roundw
        case rel => exact ⟨k + 1, rows, L, hs, by go_num, by omega, by omega, hOA.out, hA.ext h67, Bb.ext h67, B7.ext h67, own_ext HO.out h67, hE.ext h67, Below.trans hbg6 (Below.mono h67 hbg6.size), by have := h67.size; omega⟩
        case measure => simp [intOf]; omega
      have hdp : (p.1 == 0) = true := by simpa using hp1
      have hOA' := ordA_put hOA.out (r := r) (by rw [Hp.out]; exact hp1)
      rw [Hp.out] at hOA'
      have HOA' := Lib.hid hOA'
      clear hp1 hOA' hA
      have f0 := fun o => (B8.alloc o).frozen 0
      have f1 := fun o => (B8.alloc o).frozen 1
      have f2 := fun o => (B8.alloc o).frozen 2
      have f3 := fun o => (B8.alloc o).frozen 3
      have f4 := fun o => (B8.alloc o).frozen 4
      have q8 := fun o => five B8 ((Below.refl _ _).alloc (Nat.le_refl _) o)
      go_upto_region 16 with fail
      clear f0 f1 f2 f3 f4 q8
      have h67 := hb67 (.cells #[.string S.name, .slice A5 n5 c5, .int .i64 S.key, .bool S.only, .slice A6 n6 c6] 32)
      obtain ⟨w9, hw9, B9, hC9, hR9, hlow9, hgr9⟩ := setL (B8.alloc (.cells #[.string S.name, .slice A5 n5 c5, .int .i64 S.key, .bool S.only, .slice A6 n6 c6] 32)) (hC6.ext h67) (hR6.ext h67) (by omega)
      rw [← hw9]
      clear hw9 hb67
      have Bb := (Bb.ext h67).grown hgr9 (by simpa using hne.symm)
      have B7 := (B7.ext h67).grown hgr9 (by simp; omega)
      have hE := (hE.ext h67).blk (B8.alloc (.cells #[.string S.name, .slice A5 n5 c5, .int .i64 S.key, .bool S.only, .slice A6 n6 c6] 32)) hgr9 (by decide)
      have hown9 := Lib.hid ((own_ext hown6.out h67).kept hgr9 (own_ne_blk (own_ext hown6.out h67) (B8.alloc (.cells #[.string S.name, .slice A5 n5 c5, .int .i64 S.key, .bool S.only, .slice A6 n6 c6] 32)) (by decide)))
      have HO := Lib.hid ((own_ext HO.out h67).kept hgr9 (own_ne_blk (own_ext HO.out h67) (B8.alloc (.cells #[.string S.name, .slice A5 n5 c5, .int .i64 S.key, .bool S.only, .slice A6 n6 c6] 32)) (by decide)))
      have hz9 : w6.heap.size + 1 ≤ w9.heap.size := by have := hgr9.size; simpa using this
      have hbg9 := Below.trans (Below.trans hbg6 (Below.mono h67 hbg6.size)) (hlow9 _ (by omega))
      clear h67 hgr9 hlow9 B8 hC6 hR6
      go_wp2_with (at_builtin; refine wpList_append_own _ rfl (.tmp 53) (.tmp 55) 30 rfl H0 33 j0 _ 1 24 Try.underlying30 hj hy0 hy1 hy2 rfl (by decide) _ _ _ rfl (HO.out.alloc _) ⟨w9.heap.size, 0, none⟩ 1 1 [.slice Ar S.cols.length cr] rfl rfl ?c1 ?c2 ?c3 ?c4 ?c5 ?_)
      case c1 => exact (Row.of_blk (Blk.new w9 _ _) (Nat.zero_le _) 1 1 (Nat.le_refl _)).src
      case c2 => intro u hu; rw [List.mem_singleton] at hu; rw [hu]; rfl
      case c3 => unfold maxLen; omega
      case c4 => omega
      case c5 => simp; omega
      intro v' wa howna hgrowa _
      have h9a := (Below.refl w9.heap.size w9).alloc (Nat.le_refl _) (.cells #[.slice Ar S.cols.length cr] 33)
      have hlt := HO.out.lt
      have Bb := (Bb.ext h9a).grown hgrowa (fun e => by have := (hlt gb e.symm).1; omega)
      have B7 := (B7.ext h9a).grown hgrowa (fun e => by have := (hlt _ e.symm).1; omega)
      have B9 := (B9.ext h9a).grown hgrowa (fun e => by have := (hlt ga e.symm).1; omega)
      have hC9 := Cs.grownR (hC9.ext h9a) hgrowa (fun g e => by have := (hlo5 g e).2; omega)
      have hR9 := Rs.grownR (hR9.ext h9a) hgrowa (fun g e => by have := (hlo5 g e).2; omega)
      have hE := ((hE.ext h9a).own (own_ext HO.out h9a) hgrowa (by decide)).snoc ((own_ext hown9.out h9a).kept hgrowa (own_ne (own_ext hown9.out h9a) (own_ext HO.out h9a) (by decide)))
      have hza : w9.heap.size + 1 ≤ wa.heap.size := by have := hgrowa.size; simpa using this
      have hbga := (Below.trans hbg9 (Below.mono h9a (by have := hbg9.size; omega))).grown hgrowa (by have := hbg9.size; simp; omega) (fun b hb => by have := (hlt b hb).1; omega)
      have howna := Lib.hid howna
      have hAa : TabL w3 32 wa ga gb S p.2 := ⟨A5, n5, c5, A6, n6, c6, B9, .inl (hC9.base (by omega)), hR9.base (by omega), hF6⟩
      clear h9a hgrowa hC9 hR9
      go_wp2
      go_roundw
      case rel => exact ⟨k + 1, p.2, L ++ [r], hs ++ [.slice Ar S.cols.length cr], by go_num, by omega, by simp; omega, HOA'.out, hAa, Bb, B7, by simpa using howna.out, hE, hbga, by omega⟩
      case measure => simp [intOf]; omega
end Go.Proofs.Ytalfacbkofgdjaa.tb
