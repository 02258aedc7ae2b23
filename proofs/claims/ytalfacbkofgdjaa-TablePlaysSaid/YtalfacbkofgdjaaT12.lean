/- Contract: Take. Printed by gentake.py. -/
import Derived.Test.YtalfacbkofgdjaaT11
import Derived.Test.YtalfacbkofgdjaaTl
namespace Go.Proofs.Ytalfacbkofgdjaa.tb
open Go.ChangeShapes Go.WideShapes Go.ChangeAt Go.RowKit Go.Proofs.Ytalfacbkofgdjaa.lib Go.Proofs.Ytalfacbkofgdjaa.val
set_option linter.unusedVariables false

def TakeP (S : Sch) (p : Int × List (List V)) (r : List V) (w : World) (e : Ending) (w' : World) : Prop := ∃ v A m c, e = .returned (.tuple #[v, .slice A m c, .int .i64 p.1]) ∧ TabR w' w.heap.size v S p.2 ∧ Vs w' w.heap.size A m c r ∧ Below w.heap.size w w'
theorem Vs.grownL {w w' : World} {g lo n c : Nat} {A : Option Addr} {l : List V} (h : Vs w lo A n c l) (hg : w.grownBy w' (some g)) (hl : g < lo) : Vs w' lo A n c l := ⟨h.1.grownL hg hl, h.2⟩
theorem Vs.nil (w : World) (lo : Nat) : Vs w lo none 0 0 [] := ⟨Row.nil _ _, rfl⟩
set_option maxHeartbeats 4000000 in
theorem take_ (S : Sch) (rows : List (List V)) (kv : V) (lo : Nat) (A : Option Addr) (n c : Nat) (A' : Option Addr) (n' c' : Nat) (w : World)
    (hC : Cs w lo A n c S.cols) (hR : Rs w lo A' n' c' rows) (hF : Fine A') (hOk : Ok S.cols S.key rows) (hn : S.cols.length ≤ 100) (hrows : rows.length ≤ 1000) :
    Calls Try.prog 15 #[.agg (tabA S A n c A' n' c'), .agg #[.int .i64 kv.k, .int .i64 kv.n, .string kv.s]] w (TakeP S (takeL S.key rows kv) (rowL S.key rows kv) w) := by
  have hCn : n ≤ 100 := by rw [← hC.2]; exact hn
  have hRn := hR.len
  have HSm := Lib.hid (hOk.small hn)
  have HK := Lib.hid (hOk.keyed (Nat.le_trans hn (by decide)))
  have HO := Lib.hid hOk
  have HRN := Lib.hid hRn
  have hn' : n' ≤ 1000 := by omega
  clear hRn hOk
  have hwith := fun (rs : List (List V)) ps g m w' (h : Below w.heap.size w w') hp hN hl => with_ S lo A n c A' n' c' rs ps g m w' (hC.ext h) (by omega) hp hN hl
  have hfind := fun w' (h : Below w.heap.size w w') => find_ S kv rows lo A n c A' n' c' w' (hR.ext h) HK.out HO.out.ord (by omega)
  obtain ⟨p, hp⟩ : ∃ p, takeL S.key rows kv = p := ⟨_, rfl⟩
  obtain ⟨rr, hrr⟩ : ∃ rr, rowL S.key rows kv = rr := ⟨_, rfl⟩
  rw [hp, hrr]
  have HP := Lib.hid hp
  have HRR := Lib.hid hrr
  clear hp hrr
  unfold takeL at HP
  have hIs := fun (h : isL S.key kv rows = true) => rowL_at h
  obtain ⟨at_, hat⟩ : ∃ a, atL S.key kv rows = a := ⟨_, rfl⟩
  obtain ⟨is_, his⟩ : ∃ a, isL S.key kv rows = a := ⟨_, rfl⟩
  have hrn : is_ = false → rr = [] := by
    intro h
    rw [← HRR.out]; unfold rowL; rw [his, h]; rfl
  rw [HRR.out] at hIs
  rw [hat, his] at HP hfind hIs
  have HIs := Lib.hid hIs
  have Hrn := Lib.hid hrn
  have Hwith := Lib.hid hwith
  have Hfind := Lib.hid hfind
  have hatn : at_ ≤ n' := by rw [← hat, ← HRN.out]; exact at_le _ _ _
  clear hwith hfind hC hat his hIs hrn HRR
  obtain ⟨nm, cols, key, only⟩ := S
  obtain ⟨kk, kn, ks⟩ := kv
  simp only [tabA] at Hwith Hfind HP hn HO HK HIs ⊢
  go_enter Try.func15, Try.ntmps15
  go_upto_region 1 with fail
  obtain ⟨W, hW_, hbW, B1, BV, B2⟩ : ∃ W_, W_ = (((w.alloc (.cells #[.string nm, .slice A n c, .int .i64 key, .bool only, .slice A' n' c'] 32)).alloc (.cells #[.int .i64 kk, .int .i64 kn, .string ks] 39)).alloc (.cells #[.string ⟨#[]⟩, .slice none 0 0, .int .i64 0, .bool false, .slice none 0 0] 32)) ∧ Below w.heap.size w W_ ∧ Blk W_ (w.heap.size) 32 #[.string nm, .slice A n c, .int .i64 key, .bool only, .slice A' n' c'] ∧ Blk W_ (w.heap.size + 1) 39 #[.int .i64 kk, .int .i64 kn, .string ks] ∧ Blk W_ (w.heap.size + 1 + 1) 32 #[.string ⟨#[]⟩, .slice none 0 0, .int .i64 0, .bool false, .slice none 0 0] :=
    ⟨_, rfl, ((((Below.refl _ _).alloc (Nat.le_refl _) _).alloc (by simp; try omega) _).alloc (by simp; try omega) _), (((blk_new_at w (w.heap.size) _ _ (by simp)).alloc _).alloc _), ((blk_new_at (w.alloc (.cells #[.string nm, .slice A n c, .int .i64 key, .bool only, .slice A' n' c'] 32)) (w.heap.size + 1) _ _ (by simp)).alloc _), (blk_new_at ((w.alloc (.cells #[.string nm, .slice A n c, .int .i64 key, .bool only, .slice A' n' c'] 32)).alloc (.cells #[.int .i64 kk, .int .i64 kn, .string ks] 39)) (w.heap.size + 1 + 1) _ _ (by simp))⟩
  rw [← hW_]
  clear hW_
  have q1 := five B1 (Below.refl _ _)
  have qv := fun o => BV.three ((Below.refl _ _).alloc (Nat.le_refl _) o)
  have hz1 := B2.lt
  go_wp2_with fail
  clear q1 qv
  obtain ⟨W2, hW_, hb2, B3⟩ : ∃ W_, W_ = (W.alloc (.cells #[.string nm, .slice A n c, .int .i64 key, .bool only, .slice A' n' c'] 75)) ∧ Below W.heap.size W W_ ∧ Blk W_ (W.heap.size) 75 #[.string nm, .slice A n c, .int .i64 key, .bool only, .slice A' n' c'] :=
    ⟨_, rfl, ((Below.refl _ _).alloc (Nat.le_refl _) _), (blk_new_at W (W.heap.size) _ _ (by simp))⟩
  rw [← hW_]
  clear hW_
  have hbW2 := Below.trans hbW (Below.mono hb2 hbW.size)
  have B1 := B1.ext hb2
  have B2 := B2.ext hb2
  have hz2 := B3.lt
  clear hb2 BV
  refine (Hfind.out _ hbW2).mono ?_
  rintro e2 w3 ⟨rfl, hb3⟩
  have hbw3 := Below.trans hbW2 (Below.mono hb3 hbW2.size)
  have B1 := B1.ext hb3
  have B2 := B2.ext hb3
  have B3 := B3.ext hb3
  have hz3 := hb3.size
  clear hb3
  cases is_ with
  | false =>
    have hpe : p = (2, rows) := by rw [← HP.out, if_neg (by simp)]
    have hre : rr = [] := Hrn.out rfl
    subst hpe hre
    have q1 := five B1 (Below.refl _ _)
    have q3 := five B3 (Below.refl _ _)
    go_wp2_with fail
    clear q1 q3
    obtain ⟨W4, hW_, hb4, B4⟩ : ∃ W_, W_ = (w3.alloc (.cells #[.slice A' n' c'] 30)) ∧ Below w3.heap.size w3 W_ ∧ Blk W_ (w3.heap.size) 30 #[.slice A' n' c'] :=
      ⟨_, rfl, ((Below.refl _ _).alloc (Nat.le_refl _) _), (blk_new_at w3 (w3.heap.size) _ _ (by simp))⟩
    rw [← hW_]
    clear hW_
    have hbwC := Below.trans hbw3 (Below.mono hb4 hbw3.size)
    have hzC := hb4.size
    have B2 := B2.ext hb4
    obtain ⟨ps, hps⟩ := parts1 B4 (hR.ext hbwC)
    clear hb4
    refine (Hwith.out rows ps _ _ _ hbwC hps (by omega) HSm.out).mono ?_
    rintro e5 w5 ⟨v, rfl, hT, hb5⟩
    have hT' := hT
    obtain ⟨A5, n5, c5, A6, n6, c6, rfl, _⟩ := hT
    simp only [tabA] at hT' ⊢
    have hbw5 := Below.trans hbwC (Below.mono hb5 hbwC.size)
    have B2 := B2.ext hb5
    have f0 := B2.frozen 0
    have f1 := B2.frozen 1
    have f2 := B2.frozen 2
    have f3 := B2.frozen 3
    have f4 := B2.frozen 4
    have q := five B2 (Below.refl _ _)
    go_wp2
    clear f0 f1 f2 f3 f4 q
    obtain ⟨w6, hw6, B6, hlow6, hgr6⟩ := Blk.set5 B2 (.string nm) (.slice A5 n5 c5) (.int .i64 key) (.bool only) (.slice A6 n6 c6)
    rw [← hw6]
    clear hw6
    have q := five B6 (Below.refl _ _)
    exact bodyPost_ret (v := .tuple #[.agg #[.string nm, .slice A5 n5 c5, .int .i64 key, .bool only, .slice A6 n6 c6], .slice none 0 0, .int .i64 2]) (by simp [results, Try.results15, go_sem, q]; try rfl) rfl
      ⟨_, _, _, _, rfl, (hT'.grownL hgr6 (by omega)).base (by omega), Vs.nil _ _, Below.trans hbw5 (hlow6 _ (by omega))⟩
  | true =>
    rw [if_pos rfl] at HP
    obtain ⟨r, hr, hrr, _⟩ := HIs.out rfl
    have hrr := hrr.symm
    subst hrr
    have hrlen := HSm.out r (List.mem_of_getElem? hr)
    have hatl : at_ < n' := by rw [← HRN.out]; exact (List.getElem?_eq_some_iff.1 hr).1
    obtain ⟨bA, oA, rfl, hle, _, hlA⟩ := hR.some_ (by omega)
    have hcut1 : ∀ w', Below w.heap.size w w' → Rs w' 0 (some ⟨bA, oA, none⟩) at_ at_ (rows.take at_) := fun w' hb => by
      obtain ⟨hs, R, H, hl⟩ := hR.ext hb
      exact ⟨hs.take at_, (R.take at_ at_ at_ (Nat.le_refl _) hatn).base (Nat.zero_le _), (H.base (Nat.zero_le _)).take at_, by rw [List.length_take, hl]; omega⟩
    have hcut3 : ∀ w', Below w.heap.size w w' → Rs w' 0 (some ⟨bA, oA + (at_ + 1), none⟩) (n' - (at_ + 1)) (c' - (at_ + 1)) (rows.drop (at_ + 1)) := fun w' hb => by
      obtain ⟨hs, R, H, hl⟩ := hR.ext hb
      exact ⟨hs.drop (at_ + 1), (R.drop (n' - (at_ + 1)) (c' - (at_ + 1)) (at_ + 1) (by omega) (by omega)).base (Nat.zero_le _), (H.base (Nat.zero_le _)).drop (at_ + 1), by rw [List.length_drop, hl]⟩
    have hac : at_ ≤ c' := by omega
    have hac1 : at_ + 1 ≤ n' := by omega
    have hac2 : (at_ : Int) < (n' : Int) := by omega
    have hac3 : (at_ : Int) + 1 ≤ (n' : Int) := by omega
    have hwr : IntKind.i64.wrap ((at_ : Int) + 1) = (at_ : Int) + 1 := IntWalk.i64_in _ ⟨by omega, by omega⟩
    have hz0 : ∀ a : Nat, (0 : Int) ≤ (a : Int) + 1 := fun a => by omega
    obtain ⟨Ae, ce, hce, hve⟩ := hR.at_ hr
    have hcell : ∀ w', Below w.heap.size w w' → w'.cell? ⟨bA, oA + at_, none⟩ = some (.slice Ae r.length ce) := fun w' hb => (hb.cell (p := ⟨bA, oA + at_, none⟩) hlA).trans hce
    have hbw5 := hbw3.drew
    have B1 : Blk w3.drew _ _ _ := B1
    have B2 : Blk w3.drew _ _ _ := B2
    have B3 : Blk w3.drew _ _ _ := B3
    go_wp2_with fail
    by_cases hca : c' = at_ + 1
    · obtain rfl : n' = c' := by omega
      obtain rfl : n' = at_ + 1 := hca
      have hle1 : ∀ a : Nat, (a : Int) ≤ (a : Int) + 1 := fun a => by omega
      have hle2 : ∀ a : Nat, (a : Int) < (a : Int) + 1 := fun a => by omega
      refine wp_region_oneS (S := fun w' => (Blk w' w.heap.size 32 #[.string nm, .slice A n c, .int .i64 key, .bool only, .slice (some ⟨bA, oA, none⟩) (at_ + 1) (at_ + 1)] ∧ Blk w' W.heap.size 75 #[.string nm, .slice A n c, .int .i64 key, .bool only, .slice (some ⟨bA, oA, none⟩) (at_ + 1) (at_ + 1)]) ∧ Below w.heap.size w w')
        [(0, true), (1, true), (2, true), (3, true), (4, true), (5, true), (6, true), (7, true), (8, true), (9, true), (10, true), (13, true), (14, true), (15, true), (16, true), (17, true), (11, false), (12, false), (18, false), (19, false), (20, true), (21, true)] (by kernel_rfl) (by kernel_rfl) (by kernel_rfl) (by decide) ⟨⟨B1, B3⟩, hbw5⟩ ?_
      have D := fun w' (h : (Blk w' w.heap.size 32 #[.string nm, .slice A n c, .int .i64 key, .bool only, .slice (some ⟨bA, oA, none⟩) (at_ + 1) (at_ + 1)] ∧ Blk w' W.heap.size 75 #[.string nm, .slice A n c, .int .i64 key, .bool only, .slice (some ⟨bA, oA, none⟩) (at_ + 1) (at_ + 1)]) ∧ Below w.heap.size w w') => five h.1.1 (Below.refl _ _)
      have D3 := fun w' (h : (Blk w' w.heap.size 32 #[.string nm, .slice A n c, .int .i64 key, .bool only, .slice (some ⟨bA, oA, none⟩) (at_ + 1) (at_ + 1)] ∧ Blk w' W.heap.size 75 #[.string nm, .slice A n c, .int .i64 key, .bool only, .slice (some ⟨bA, oA, none⟩) (at_ + 1) (at_ + 1)]) ∧ Below w.heap.size w w') => five h.1.2 (Below.refl _ _)
      have DE := fun w' (h : (Blk w' w.heap.size 32 #[.string nm, .slice A n c, .int .i64 key, .bool only, .slice (some ⟨bA, oA, none⟩) (at_ + 1) (at_ + 1)] ∧ Blk w' W.heap.size 75 #[.string nm, .slice A n c, .int .i64 key, .bool only, .slice (some ⟨bA, oA, none⟩) (at_ + 1) (at_ + 1)]) ∧ Below w.heap.size w w') => hcell w' h.2
      have hz5 : w3.heap.size ≤ w3.drew.heap.size := Nat.le_refl _
      generalize w3.drew = wd at *
      repeat ((with_reducible show wpPerm _ _ _ _ ((_, true) :: _) _ _); (first | (refine wpPerm_on (v := ?_) rfl rfl (wanted_free rfl) (fun w' hS => ?_) ?_; rotate_left; (focus (go_simp; (try with_reducible rfl); done)); try simp only [List.setIfInBounds_toArray, List.set_cons_zero, List.set_cons_succ]) | (refine wpPerm_on (v := ?_) rfl rfl (wanted_yes rfl rfl rfl) (fun w' hS => ?_) ?_; rotate_left; (focus (go_simp; (try with_reducible rfl); done)); try simp only [List.setIfInBounds_toArray, List.set_cons_zero, List.set_cons_succ]) | (refine wpPerm_off rfl rfl (wanted_no rfl rfl rfl) ?_; try simp only [List.setIfInBounds_toArray, List.set_cons_zero, List.set_cons_succ]) | (refine wpPerm_off rfl rfl (wanted_undef rfl rfl rfl) ?_; try simp only [List.setIfInBounds_toArray, List.set_cons_zero, List.set_cons_succ])))
      refine wpPerm_do rfl (wanted_free rfl) (fun K hK => ?_); go_simp
      refine hK.out _ _ ⟨⟨B1.alloc _, B3.alloc _⟩, hbw5.alloc hbw5.size _⟩ ?_
      clear hK K
      obtain ⟨W6, hW_, hb6, B6⟩ : ∃ W_, W_ = (wd.alloc (.cells #[.slice (some ⟨bA, oA, none⟩) at_ at_, .slice (some ⟨bA, oA, none⟩) 0 0] 30)) ∧ Below wd.heap.size wd W_ ∧ Blk W_ (wd.heap.size) 30 #[.slice (some ⟨bA, oA, none⟩) at_ at_, .slice (some ⟨bA, oA, none⟩) 0 0] :=
        ⟨_, rfl, ((Below.refl _ _).alloc (Nat.le_refl _) _), (blk_new_at wd (wd.heap.size) _ _ (by simp))⟩
      rw [← hW_]
      clear hW_
      clear D D3 DE
      have hbwC := Below.trans hbw5 (Below.mono hb6 hbw5.size)
      have hzC := hb6.size
      have B1 := B1.ext hb6
      have B3 := B3.ext hb6
      have B2 := B2.ext hb6
      have hR1 := hcut1 W6 hbwC
      have hR3 : Rs W6 0 (some ⟨bA, oA, none⟩) 0 0 (rows.drop (at_ + 1)) := ⟨[], Row.empty _ _ _ _, by rw [List.drop_eq_nil_of_le (by have := HRN.out; omega)]; exact Hs.nil _ _, by rw [List.drop_eq_nil_of_le (by have := HRN.out; omega)]; rfl⟩
      obtain ⟨ps, hps⟩ := parts2 B6 hR1 hR3
      refine wpPerm_do rfl (wanted_free rfl) (fun K hK => ?_); go_simp
      refine (Hwith.out _ ps _ _ _ hbwC hps (by simp; try omega) ?_).mono ?_
      · intro x hx
        rcases List.mem_append.1 hx with hx | hx
        · exact HSm.out x (List.mem_of_mem_take hx)
        · exact HSm.out x (List.mem_of_mem_drop hx)
      rintro e7 w7 ⟨v, rfl, hT, hb7⟩
      have hT' := hT
      obtain ⟨A5, n5, c5, A6, n6, c6, rfl, _⟩ := hT
      simp only [tabA] at hT' ⊢
      have hbw7 := Below.trans hbwC (Below.mono hb7 hbwC.size)
      have B2 := B2.ext hb7
      have B1 := B1.ext hb7
      have B3 := B3.ext hb7
      refine hK.out _ _ ⟨⟨B1, B3⟩, hbw7⟩ ?_
      clear hK K
      refine wpPerm_do rfl (wanted_free rfl) (fun K hK => ?_); go_simp
      refine (cloneV r lo Ae r.length ce _ hrlen (hve.ext hbw7)).mono ?_
      rintro e9 w9 ⟨A9, c9, rfl, hown9, hb9⟩
      have hV9 : Vs w9 w7.heap.size A9 r.length c9 r := Vs.of_own hown9
      have hbw9 := Below.trans hbw7 (Below.mono hb9 hbw7.size)
      have hT9 := hT'.ext hb9
      have B2 := B2.ext hb9
      have B1 := B1.ext hb9
      have B3 := B3.ext hb9
      have hz7 := hb7.size
      refine hK.out _ _ ⟨⟨B1, B3⟩, hbw9⟩ ?_
      clear hK K
      have f0 := B2.frozen 0
      have f1 := B2.frozen 1
      have f2 := B2.frozen 2
      have f3 := B2.frozen 3
      have f4 := B2.frozen 4
      have q := five B2 (Below.refl _ _)
      refine wpPerm_do rfl (wanted_free rfl) (fun K hK => ?_); go_simp
      clear f0 f1 f2 f3 f4 q
      obtain ⟨w8, hw8, B8, hlow8, hgr8⟩ := Blk.set5 B2 (.string nm) (.slice A5 n5 c5) (.int .i64 key) (.bool only) (.slice A6 n6 c6)
      rw [← hw8]
      clear hw8
      have hbw8 := Below.trans hbw9 (hlow8 _ (by omega))
      refine hK.out _ _ ⟨⟨B1.grown hgr8 (by simp; omega), B3.grown hgr8 (by simp; omega)⟩, hbw8⟩ ?_
      clear hK K
      repeat ((with_reducible show wpPerm _ _ _ _ ((_, true) :: _) _ _); (first | (refine wpPerm_on (v := ?_) rfl rfl (wanted_free rfl) (fun w' hS => ?_) ?_; rotate_left; (focus (go_simp; (try with_reducible rfl); done)); try simp only [List.setIfInBounds_toArray, List.set_cons_zero, List.set_cons_succ]) | (refine wpPerm_on (v := ?_) rfl rfl (wanted_yes rfl rfl rfl) (fun w' hS => ?_) ?_; rotate_left; (focus (go_simp; (try with_reducible rfl); done)); try simp only [List.setIfInBounds_toArray, List.set_cons_zero, List.set_cons_succ]) | (refine wpPerm_off rfl rfl (wanted_no rfl rfl rfl) ?_; try simp only [List.setIfInBounds_toArray, List.set_cons_zero, List.set_cons_succ]) | (refine wpPerm_off rfl rfl (wanted_undef rfl rfl rfl) ?_; try simp only [List.setIfInBounds_toArray, List.set_cons_zero, List.set_cons_succ])))
      refine wpPerm_done ?_
      have q := five B8 (Below.refl _ _)
      go_wp2
      exact bodyPost_ret (v := .tuple #[.agg #[.string nm, .slice A5 n5 c5, .int .i64 key, .bool only, .slice A6 n6 c6], .slice A9 r.length c9, .int .i64 0]) (by simp [results, Try.results15, go_sem, q]; try rfl) rfl
        ⟨_, _, _, _, by rw [← HP.out], by rw [← HP.out]; exact (hT9.grownL hgr8 (by omega)).base (by omega), (hV9.grownL hgr8 (by omega)).base (by omega), hbw8⟩
    · have hca' : ¬ at_ + 1 = c' := fun e => hca e.symm
      refine wp_region_oneS (S := fun w' => (Blk w' w.heap.size 32 #[.string nm, .slice A n c, .int .i64 key, .bool only, .slice (some ⟨bA, oA, none⟩) n' c'] ∧ Blk w' W.heap.size 75 #[.string nm, .slice A n c, .int .i64 key, .bool only, .slice (some ⟨bA, oA, none⟩) n' c']) ∧ Below w.heap.size w w')
        [(0, true), (1, true), (2, true), (3, true), (4, true), (5, true), (6, true), (7, true), (8, true), (9, true), (10, true), (13, true), (14, true), (15, true), (16, true), (17, true), (11, false), (12, false), (18, false), (19, false), (20, true), (21, true)] (by kernel_rfl) (by kernel_rfl) (by kernel_rfl) (by decide) ⟨⟨B1, B3⟩, hbw5⟩ ?_
      have D := fun w' (h : (Blk w' w.heap.size 32 #[.string nm, .slice A n c, .int .i64 key, .bool only, .slice (some ⟨bA, oA, none⟩) n' c'] ∧ Blk w' W.heap.size 75 #[.string nm, .slice A n c, .int .i64 key, .bool only, .slice (some ⟨bA, oA, none⟩) n' c']) ∧ Below w.heap.size w w') => five h.1.1 (Below.refl _ _)
      have D3 := fun w' (h : (Blk w' w.heap.size 32 #[.string nm, .slice A n c, .int .i64 key, .bool only, .slice (some ⟨bA, oA, none⟩) n' c'] ∧ Blk w' W.heap.size 75 #[.string nm, .slice A n c, .int .i64 key, .bool only, .slice (some ⟨bA, oA, none⟩) n' c']) ∧ Below w.heap.size w w') => five h.1.2 (Below.refl _ _)
      have DE := fun w' (h : (Blk w' w.heap.size 32 #[.string nm, .slice A n c, .int .i64 key, .bool only, .slice (some ⟨bA, oA, none⟩) n' c'] ∧ Blk w' W.heap.size 75 #[.string nm, .slice A n c, .int .i64 key, .bool only, .slice (some ⟨bA, oA, none⟩) n' c']) ∧ Below w.heap.size w w') => hcell w' h.2
      have hz5 : w3.heap.size ≤ w3.drew.heap.size := Nat.le_refl _
      generalize w3.drew = wd at *
      repeat ((with_reducible show wpPerm _ _ _ _ ((_, true) :: _) _ _); (first | (refine wpPerm_on (v := ?_) rfl rfl (wanted_free rfl) (fun w' hS => ?_) ?_; rotate_left; (focus (go_simp; (try with_reducible rfl); done)); try simp only [List.setIfInBounds_toArray, List.set_cons_zero, List.set_cons_succ]) | (refine wpPerm_on (v := ?_) rfl rfl (wanted_yes rfl rfl rfl) (fun w' hS => ?_) ?_; rotate_left; (focus (go_simp; (try with_reducible rfl); done)); try simp only [List.setIfInBounds_toArray, List.set_cons_zero, List.set_cons_succ]) | (refine wpPerm_off rfl rfl (wanted_no rfl rfl rfl) ?_; try simp only [List.setIfInBounds_toArray, List.set_cons_zero, List.set_cons_succ]) | (refine wpPerm_off rfl rfl (wanted_undef rfl rfl rfl) ?_; try simp only [List.setIfInBounds_toArray, List.set_cons_zero, List.set_cons_succ])))
      refine wpPerm_do rfl (wanted_free rfl) (fun K hK => ?_); go_simp
      refine hK.out _ _ ⟨⟨B1.alloc _, B3.alloc _⟩, hbw5.alloc hbw5.size _⟩ ?_
      clear hK K
      obtain ⟨W6, hW_, hb6, B6⟩ : ∃ W_, W_ = (wd.alloc (.cells #[.slice (some ⟨bA, oA, none⟩) at_ at_, .slice (some ⟨bA, oA + (at_ + 1), none⟩) (n' - (at_ + 1)) (c' - (at_ + 1))] 30)) ∧ Below wd.heap.size wd W_ ∧ Blk W_ (wd.heap.size) 30 #[.slice (some ⟨bA, oA, none⟩) at_ at_, .slice (some ⟨bA, oA + (at_ + 1), none⟩) (n' - (at_ + 1)) (c' - (at_ + 1))] :=
        ⟨_, rfl, ((Below.refl _ _).alloc (Nat.le_refl _) _), (blk_new_at wd (wd.heap.size) _ _ (by simp))⟩
      rw [← hW_]
      clear hW_
      clear D D3 DE
      have hbwC := Below.trans hbw5 (Below.mono hb6 hbw5.size)
      have hzC := hb6.size
      have B1 := B1.ext hb6
      have B3 := B3.ext hb6
      have B2 := B2.ext hb6
      have hR1 := hcut1 W6 hbwC
      have hR3 := hcut3 W6 hbwC
      obtain ⟨ps, hps⟩ := parts2 B6 hR1 hR3
      refine wpPerm_do rfl (wanted_free rfl) (fun K hK => ?_); go_simp
      refine (Hwith.out _ ps _ _ _ hbwC hps (by simp; try omega) ?_).mono ?_
      · intro x hx
        rcases List.mem_append.1 hx with hx | hx
        · exact HSm.out x (List.mem_of_mem_take hx)
        · exact HSm.out x (List.mem_of_mem_drop hx)
      rintro e7 w7 ⟨v, rfl, hT, hb7⟩
      have hT' := hT
      obtain ⟨A5, n5, c5, A6, n6, c6, rfl, _⟩ := hT
      simp only [tabA] at hT' ⊢
      have hbw7 := Below.trans hbwC (Below.mono hb7 hbwC.size)
      have B2 := B2.ext hb7
      have B1 := B1.ext hb7
      have B3 := B3.ext hb7
      refine hK.out _ _ ⟨⟨B1, B3⟩, hbw7⟩ ?_
      clear hK K
      refine wpPerm_do rfl (wanted_free rfl) (fun K hK => ?_); go_simp
      refine (cloneV r lo Ae r.length ce _ hrlen (hve.ext hbw7)).mono ?_
      rintro e9 w9 ⟨A9, c9, rfl, hown9, hb9⟩
      have hV9 : Vs w9 w7.heap.size A9 r.length c9 r := Vs.of_own hown9
      have hbw9 := Below.trans hbw7 (Below.mono hb9 hbw7.size)
      have hT9 := hT'.ext hb9
      have B2 := B2.ext hb9
      have B1 := B1.ext hb9
      have B3 := B3.ext hb9
      have hz7 := hb7.size
      refine hK.out _ _ ⟨⟨B1, B3⟩, hbw9⟩ ?_
      clear hK K
      have f0 := B2.frozen 0
      have f1 := B2.frozen 1
      have f2 := B2.frozen 2
      have f3 := B2.frozen 3
      have f4 := B2.frozen 4
      have q := five B2 (Below.refl _ _)
      refine wpPerm_do rfl (wanted_free rfl) (fun K hK => ?_); go_simp
      clear f0 f1 f2 f3 f4 q
      obtain ⟨w8, hw8, B8, hlow8, hgr8⟩ := Blk.set5 B2 (.string nm) (.slice A5 n5 c5) (.int .i64 key) (.bool only) (.slice A6 n6 c6)
      rw [← hw8]
      clear hw8
      have hbw8 := Below.trans hbw9 (hlow8 _ (by omega))
      refine hK.out _ _ ⟨⟨B1.grown hgr8 (by simp; omega), B3.grown hgr8 (by simp; omega)⟩, hbw8⟩ ?_
      clear hK K
      repeat ((with_reducible show wpPerm _ _ _ _ ((_, true) :: _) _ _); (first | (refine wpPerm_on (v := ?_) rfl rfl (wanted_free rfl) (fun w' hS => ?_) ?_; rotate_left; (focus (go_simp; (try with_reducible rfl); done)); try simp only [List.setIfInBounds_toArray, List.set_cons_zero, List.set_cons_succ]) | (refine wpPerm_on (v := ?_) rfl rfl (wanted_yes rfl rfl rfl) (fun w' hS => ?_) ?_; rotate_left; (focus (go_simp; (try with_reducible rfl); done)); try simp only [List.setIfInBounds_toArray, List.set_cons_zero, List.set_cons_succ]) | (refine wpPerm_off rfl rfl (wanted_no rfl rfl rfl) ?_; try simp only [List.setIfInBounds_toArray, List.set_cons_zero, List.set_cons_succ]) | (refine wpPerm_off rfl rfl (wanted_undef rfl rfl rfl) ?_; try simp only [List.setIfInBounds_toArray, List.set_cons_zero, List.set_cons_succ])))
      refine wpPerm_done ?_
      have q := five B8 (Below.refl _ _)
      go_wp2
      exact bodyPost_ret (v := .tuple #[.agg #[.string nm, .slice A5 n5 c5, .int .i64 key, .bool only, .slice A6 n6 c6], .slice A9 r.length c9, .int .i64 0]) (by simp [results, Try.results15, go_sem, q]; try rfl) rfl
        ⟨_, _, _, _, by rw [← HP.out], by rw [← HP.out]; exact (hT9.grownL hgr8 (by omega)).base (by omega), (hV9.grownL hgr8 (by omega)).base (by omega), hbw8⟩
end Go.Proofs.Ytalfacbkofgdjaa.tb
