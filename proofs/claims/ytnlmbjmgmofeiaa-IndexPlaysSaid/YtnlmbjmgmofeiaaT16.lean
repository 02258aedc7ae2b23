/- Contract: Good of schemas. -/
import Derived.Test.YtnlmbjmgmofeiaaT15
import Derived.Test.YtnlmbjmgmofeiaaTArg
import Derived.Test.YtnlmbjmgmofeiaaT8
namespace Go.Proofs.Ytnlmbjmgmofeiaa.tb
open Go.ChangeShapes Go.WideShapes Go.ChangeAt Go.RowKit Go.Proofs.Ytnlmbjmgmofeiaa.lib Go.Proofs.Ytnlmbjmgmofeiaa.val
set_option linter.unusedVariables false

def SchP (S : Sch) (w : World) (r : Ending) (w' : World) : Prop := ∃ A c, r = .returned (.agg (schA S A S.cols.length c)) ∧ Cs w' w.heap.size A S.cols.length c S.cols ∧ Fine A ∧ Below w.heap.size w w'
theorem conv1 (d : UInt8) (z : Int) (hz : z = (d.toNat : Int)) (w : World) (g : Nat) (h : w.cell? ⟨g, 0, none⟩ = some (.int .u8 z)) :
    (convert 67 9 (.slice (some ⟨g, 0, none⟩) 1 1)).run Try.prog w = .ok (.string ⟨#[d]⟩) w := by
  rw [run_convert_bytes_string w 67 9 5 (some ⟨g, 0, none⟩) 1 1 Try.underlying67 Try.underlying5 Try.underlying9]
  have hc : ∀ (j : Nat) u, [Value.int .u8 z][j]? = some u → w.cell? ((⟨g, 0, none⟩ : Addr).add j) = some u := by
    intro j u hj
    match j, hj with
    | 0, hj => injection hj with hj; subst hj; exact h
  have := run_loadCells_list (P := Try.prog) (w := w) ⟨g, 0, none⟩ [Value.int .u8 z] hc
  rw [run_bytesToString w _ 1 _ [z] this]
  subst hz
  simp
  rfl
theorem Blk.set4 {w : World} {g : Nat} {t : TypeId} {x0 x1 x2 x3 : Value} (h : Blk w g t #[x0, x1, x2, x3]) (a0 a1 a2 a3 : Value) :
    ∃ w', w' = (((w.setCell ⟨g, 0, none⟩ a0).setCell ⟨g, 1, none⟩ a1).setCell ⟨g, 2, none⟩ a2).setCell ⟨g, 3, none⟩ a3 ∧ Blk w' g t #[a0, a1, a2, a3] ∧
    (∀ B, B ≤ g → Below B w w') ∧ w.grownBy w' (some g) := by
  obtain ⟨w0, e0, h0, b0, g0⟩ := Blk.set1 (i := 0) h a0
  obtain ⟨w1, e1, h1, b1, g1⟩ := Blk.set1 (i := 1) h0 a1
  obtain ⟨w2, e2, h2, b2, g2⟩ := Blk.set1 (i := 2) h1 a2
  obtain ⟨w3, e3, h3, b3, g3⟩ := Blk.set1 (i := 3) h2 a3
  refine ⟨w3, by rw [e3, e2, e1, e0], by simpa using h3, fun B hB => ?_, grown_trans (grown_trans (grown_trans g0 g1) g2) g3⟩
  exact Below.trans (b0 B hB) (Below.trans (b1 B hB) (Below.trans (b2 B hB) (b3 B hB)))
theorem cellsC_unnull : ∀ (l : List Col) (i : Nat), i < l.length → (cellsC l).set (i * 3 + 2) (.bool false) = cellsC (l.modify i unnull)
  | [], i, h => by simp at h
  | c :: r, 0, h => by
    have e : cellsC (c :: r) = encC c ++ cellsC r := rfl
    have e2 : cellsC ((c :: r).modify 0 unnull) = encC (unnull c) ++ cellsC r := rfl
    rw [e, e2]
    rfl
  | c :: r, i + 1, h => by
    have ih := cellsC_unnull r i (by simpa using h)
    have e : cellsC (c :: r) = encC c ++ cellsC r := rfl
    have e2 : cellsC ((c :: r).modify (i + 1) unnull) = encC c ++ cellsC (r.modify i unnull) := rfl
    rw [e, e2, ← ih, List.set_append_right _ _ (by rw [kC]; omega), kC]
    congr 1
    congr 1
    omega
set_option maxRecDepth 1000000 in
set_option maxHeartbeats 8000000 in
theorem good9_ (s : ByteArray) (A : Option Addr) (n c : Nat) (l : List Col) (key : Int) (only : Bool) (w : World) (hC : Cs w 0 A n c l) (hn : n ≤ maxLen) (hp : ∀ x ∈ l, RawC x) (hkey : ok64 key) :
    Calls Try.prog 11 #[.agg #[.string s, .slice A n c, .int .i64 key, .bool only], .int .i64 3] w (SchP (goodS l key only) w) := by
  unfold maxLen at hn
  have HC := Lib.hid hC
  have HP := Lib.hid hp
  clear hC hp
  obtain ⟨i0, hi, hz0, hz1, hz2⟩ := info_parts (P := Try.prog) (e := 66) (z := .agg #[.string ⟨#[]⟩, .int .i64 0, .bool false]) (size := 3) (bytes := 32) (by kernel_rfl)
  go_enter Try.func11, Try.ntmps11
  go_upto_region 1 with fail
  obtain ⟨W, hW_, hbW, B1, B2⟩ : ∃ W_, W_ = ((w.alloc (.cells #[.string s, .slice A n c, .int .i64 key, .bool only] 24)).alloc (.cells #[.string ⟨#[]⟩, .slice none 0 0, .int .i64 0, .bool false] 24)) ∧ Below w.heap.size w W_ ∧ Blk W_ (w.heap.size) 24 #[.string s, .slice A n c, .int .i64 key, .bool only] ∧ Blk W_ (w.heap.size + 1) 24 #[.string ⟨#[]⟩, .slice none 0 0, .int .i64 0, .bool false] :=
    ⟨_, rfl, (((Below.refl _ _).alloc (Nat.le_refl _) _).alloc (by simp; try omega) _), ((blk_new_at w (w.heap.size) _ _ (by simp)).alloc _), (blk_new_at (w.alloc (.cells #[.string s, .slice A n c, .int .i64 key, .bool only] 24)) (w.heap.size + 1) _ _ (by simp))⟩
  rw [← hW_]
  clear hW_
  have hWl := B2.lt
  have D := fun w' (h : Below W.heap.size W.drew w') => four B1 (Below.trans (Below.refl _ _).drew h)
  refine wp_region_mix1 ⟨10, 5, fun g => .pointer (some ⟨g, 0, none⟩), .cells #[.string ⟨#[]⟩, .slice none 0 0, .int .i64 0, .bool false] 24⟩
    [(0, true), (7, true), (8, true)] [(1, false), (2, true), (3, false), (4, false), (5, false), (6, true), (9, true)] [(11, false)] (by kernel_rfl) (by kernel_rfl) ?_
  repeat ((with_reducible show wpI _ _ _ _ _ ((_, true) :: _) _ _); (first | (refine wpI_on (v := ?_) rfl rfl (wanted_free rfl) (fun w' hS => ?_) ?_; rotate_left; (focus (go_simp; (try with_reducible rfl); done)); try simp only [List.setIfInBounds_toArray, List.set_cons_zero, List.set_cons_succ]) | (refine wpI_on (v := ?_) rfl rfl (wanted_yes rfl rfl rfl) (fun w' hS => ?_) ?_; rotate_left; (focus (go_simp; (try with_reducible rfl); done)); try simp only [List.setIfInBounds_toArray, List.set_cons_zero, List.set_cons_succ]) | (refine wpI_off rfl rfl (wanted_no rfl rfl rfl) ?_; try simp only [List.setIfInBounds_toArray, List.set_cons_zero, List.set_cons_succ]) | (refine wpI_off rfl rfl (wanted_undef rfl rfl rfl) ?_; try simp only [List.setIfInBounds_toArray, List.set_cons_zero, List.set_cons_succ])))
  refine wpI_done ⟨?_, ?_⟩
  · intro y hy
    simp only [List.mem_cons, List.not_mem_nil, or_false] at hy
    subst hy
    exact ⟨_, rfl, rfl, wanted_free rfl, fun w => by go_simp⟩
  clear D
  refine wpI_do rfl (wanted_free rfl) (fun wI hI hSI K hK => ?_); go_simp
  refine (within9 3 26 3 (by decide) _ (by decide) (by decide) (by decide) (by decide)).mono ?_
  rintro e w3 ⟨rfl, rfl⟩
  refine hK.out _ _ (Below.refl _ _) ?_
  clear hK K
  repeat ((with_reducible show wpI _ _ _ _ _ ((_, true) :: _) _ _); (first | (refine wpI_on (v := ?_) rfl rfl (wanted_free rfl) (fun w' hS => ?_) ?_; rotate_left; (focus (go_simp; (try with_reducible rfl); done)); try simp only [List.setIfInBounds_toArray, List.set_cons_zero, List.set_cons_succ]) | (refine wpI_on (v := ?_) rfl rfl (wanted_yes rfl rfl rfl) (fun w' hS => ?_) ?_; rotate_left; (focus (go_simp; (try with_reducible rfl); done)); try simp only [List.setIfInBounds_toArray, List.set_cons_zero, List.set_cons_succ]) | (refine wpI_off rfl rfl (wanted_no rfl rfl rfl) ?_; try simp only [List.setIfInBounds_toArray, List.set_cons_zero, List.set_cons_succ]) | (refine wpI_off rfl rfl (wanted_undef rfl rfl rfl) ?_; try simp only [List.setIfInBounds_toArray, List.set_cons_zero, List.set_cons_succ])))
  clear hI hSI
  refine wpI_do rfl (wanted_free rfl) (fun wI hI hSI K hK => ?_); go_simp
  refine hK.out _ _ (Below.refl _ _) ?_
  clear hK K hI hSI
  refine wpI_do rfl (wanted_free rfl) (fun wJ hJ hSJ K hK => ?_)
  go_simp
  refine hK.out _ _ ((Below.refl _ _).alloc (Nat.le_refl _) _) ?_
  clear hK K hJ hSJ
  refine wpI_do rfl (wanted_free rfl) (fun wI hI hSI K hK => ?_)
  have hcv := conv1 100 (IntKind.u8.wrap (IntKind.i64.wrap 100)) (by decide) wI wJ.heap.size ((hI.cell (p := ⟨wJ.heap.size, 0, none⟩) (by simp)).trans (by simp [go_sem]))
  go_simp
  clear hcv
  refine hK.out _ _ (Below.refl _ _) ?_
  clear hK K hI hSI
  repeat ((with_reducible show wpI _ _ _ _ _ ((_, true) :: _) _ _); (first | (refine wpI_on (v := ?_) rfl rfl (wanted_free rfl) (fun w' hS => ?_) ?_; rotate_left; (focus (go_simp; (try with_reducible rfl); done)); try simp only [List.setIfInBounds_toArray, List.set_cons_zero, List.set_cons_succ]) | (refine wpI_on (v := ?_) rfl rfl (wanted_yes rfl rfl rfl) (fun w' hS => ?_) ?_; rotate_left; (focus (go_simp; (try with_reducible rfl); done)); try simp only [List.setIfInBounds_toArray, List.set_cons_zero, List.set_cons_succ]) | (refine wpI_off rfl rfl (wanted_no rfl rfl rfl) ?_; try simp only [List.setIfInBounds_toArray, List.set_cons_zero, List.set_cons_succ]) | (refine wpI_off rfl rfl (wanted_undef rfl rfl rfl) ?_; try simp only [List.setIfInBounds_toArray, List.set_cons_zero, List.set_cons_succ])))
  refine wpI_done ?_
  intro g1 wf he hb hlo1 hhi1 hat1
  try simp only [List.setIfInBounds_toArray, List.set_cons_zero, List.set_cons_succ]
  have B3 : Blk wf g1 24 #[.string ⟨#[]⟩, .slice none 0 0, .int .i64 0, .bool false] := hat1
  clear hat1 he
  have f0 := B3.frozen 0
  have f1 := B3.frozen 1
  have f2 := B3.frozen 2
  have f3 := B3.frozen 3
  have q := four B3 (Below.refl _ _)
  refine wpPerm_do rfl (wanted_free rfl) (fun K hK => ?_); go_simp
  clear f0 f1 f2 f3 q
  obtain ⟨w4, hw4, B4, hlow4, hgr4⟩ := Blk.set4 B3 (.string ⟨#[113, 100]⟩) (.slice none 0 0) (.int .i64 0) (.bool only)
  rw [show ({ data := #[113] } ++ { data := #[100] } : ByteArray) = ⟨#[113, 100]⟩ from rfl]
  rw [← hw4]
  clear hw4
  have hbx : Below W.heap.size W w4 := Below.trans (Below.refl _ _).drew (Below.trans hb (hlow4 _ hlo1))
  refine hK.out _ _ (Below.trans hb (hlow4 _ hlo1)) (wpPerm_done ?_)
  clear hK K hb B3 hlow4 hgr4 hhi1
  have hM := gM_bd l
  have hw8 : ∀ k : Nat, k < 6 → IntKind.u8.wrap (97 + (k : Int)) = 97 + (k : Int) := fun k hk => by
    simp [IntKind.wrap, IntKind.bits, IntKind.signed]
    omega
  have HW8 := Lib.hid hw8
  clear hw8
  go_wp2_with fail
  go_loopw [6] (fun i wr => ∃ (k : Nat) (A2 : Option Addr) (c2 : Nat), k ≤ gM l ∧ i = .int .i64 k ∧ Blk wr g1 24 #[.string ⟨#[113, 100]⟩, .slice A2 k c2, .int .i64 0, .bool only] ∧ wr.ownsRow (g1 + 1) 66 3 (.slice A2 k c2) k (cellsC (gcols l k)) ∧ Below W.heap.size W wr) (fun i _ => gM l - (intOf i).toNat)
  case atStart => exact ⟨0, none, 0, Nat.zero_le _, rfl, B4, World.ownsRow_nil _ _ _ _, hbx⟩
  case round =>
    clear B4 hbx
    obtain ⟨k, A2, c2, hk, rfl, B4, hown, hbw⟩ := hrel
    have hw1 := Below.trans hbW (Below.mono hbw hbW.size)
    have HO := Lib.hid hown
    clear hown
    have hgl := B4.lt
    have HLn : Hid (l.length = n) := Lib.hid HC.out.2
    have HMd : Hid (gM l = max 1 (min n 6)) := Lib.hid (by unfold gM; rw [HLn.out])
    have q1 := four B1 hbw
    rcases Nat.lt_or_ge k (gM l) with hlt | hge
    case inr =>
      have hkM : Hid (k = gM l) := Lib.hid (by omega)
      have hk1 : 1 ≤ k ∧ k ≤ 6 := by omega
      have hkn6 : k < n → k = 6 := fun h => by have := HMd.out; have := hkM.out; omega
      have hnk : n ≤ k ∨ k = 6 := by have := HMd.out; have := hkM.out; omega
      have hd2 : decide ((k : Int) < 1) = false := by simp; omega
      have hcond : (¬ k < n ∧ decide ((k : Int) < (n : Int)) = false) ∨ (k < n ∧ ¬ k < 6 ∧ decide ((k : Int) < (n : Int)) = true ∧ decide ((k : Int) < 6) = false) := by
        by_cases h : k < n
        · have := hkn6 h
          exact .inr ⟨h, by omega, by simp; omega, by simp; omega⟩
        · exact .inl ⟨h, by simp; omega⟩
      clear hkn6 hnk
      obtain ⟨M, hMk⟩ : ∃ M, gM l = M := ⟨_, rfl⟩
      have hkx : Hid (gkey l key = (key % (k : Int)).toNat) := Lib.hid (by unfold gkey; rw [← hkM.out])
      have hkl := gkey_lt l key
      have hkv : Hid (key % (k : Int) = (gkey l key : Int)) := Lib.hid (by
        rw [hkx.out]
        have := Int.emod_nonneg key (by omega : (k : Int) ≠ 0)
        omega)
      have hgn : Hid (gnulled l key = (gcols l k).modify (gkey l key) unnull) := Lib.hid (by unfold gnulled; rw [← hkM.out])
      have hlen : Hid ((gnulled l key).length = k) := Lib.hid (by rw [gnulled_len]; exact hkM.out.symm)
      obtain ⟨ky, hky⟩ : ∃ ky, gkey l key = ky := ⟨_, rfl⟩
      rw [hky] at hkl hkv hgn
      have HKY := Lib.hid hky
      have hkyk : ky < k := by have := hkM.out; omega
      clear hkl
      obtain ⟨gn, hgnd⟩ : ∃ gn, gnulled l key = gn := ⟨_, rfl⟩
      rw [hgnd] at hgn hlen
      have HGN := Lib.hid hgnd
      clear hkx hky hgnd hMk
      obtain ⟨h0, h1⟩ := hkey
      have q4 := four B4 (Below.refl _ _)
      rcases hcond with ⟨hcn, hc1⟩ | ⟨hcn, hcn2, hc1, hc2⟩
      all_goals
        go_wp2_with fail
        refine (within9 key k ky hkv.out _ (by omega) (by omega) h0 h1).mono ?_
        rintro e w5 ⟨rfl, rfl⟩
        obtain ⟨b, off, hA2, hkc, hgb, hbl⟩ := (Row.of_own HO.out).some_ (by omega)
        subst hA2
        have hoff : off = 0 := by
          rcases HO.out.2 with ⟨e, _⟩ | ⟨g, cap, cur, e, _⟩
          · injection e with e; cases e
          · injection e with e; injection e with e; injection e with _ e
        subst hoff
        have hcy : (ky : Int) < (k : Int) := by omega
        have f := B4.frozen 2
        have q := B4.cell 2
        go_upto_region 10 with fail
        clear f q q4 q1
        obtain ⟨w5, hw5, B5, hlow5, hgr5⟩ := Blk.set1 (i := 2) B4 (.int .i64 (ky : Int))
        rw [← hw5]
        clear hw5
        have B5 : Blk w5 g1 24 #[.string ⟨#[113, 100]⟩, .slice (some ⟨b, 0, none⟩) k c2, .int .i64 ky, .bool only] := B5
        have HO5 := Lib.hid (HO.out.kept hgr5 (.inr (by simp [Value.ownBlock]; omega)))
        have hbw5 := Below.trans hbw (hlow5 _ hlo1)
        have q4 := four B5 (Below.refl _ _)
        have f := HO5.out.frozenAt (ky * 3 + 2)
        have q := HO5.out.cellAt (ky * 3 + 2) (by omega)
        have hq : ∃ x, w5.cell? ⟨b, ky * 3 + 2, none⟩ = some x := by
          rw [q]
          exact ⟨_, List.getElem?_eq_getElem (by have := HO.out.1; omega)⟩
        clear q
        obtain ⟨xq, q⟩ := hq
        have hst := HO5.out.stored (ky * 3 + 2) (.bool false)
        rw [cellsC_unnull _ _ (by rw [gcols_len]; exact hkyk), ← hgn.out] at hst
        have HST := Lib.hid hst
        clear hst
        go_upto_region 11 with fail
        clear f q q4
        obtain ⟨w6, hw6⟩ : ∃ w6, w6 = w5.setCell ⟨b, ky * 3 + 2, none⟩ (.bool false) := ⟨_, rfl⟩
        rw [← hw6] at HST ⊢
        clear hw6
        have B6 := B5.grown HST.out.2 (by simp; omega)
        have hbw6 : Below W.heap.size W w6 := hbw5.grown HST.out.2 hbw5.size (fun j hj => by injection hj with hj; omega)
        have q4 := four B6 (Below.refl _ _)
        have B2 := B2.ext hbw6
        have f0 := B2.frozen 0
        have f1 := B2.frozen 1
        have f2 := B2.frozen 2
        have f3 := B2.frozen 3
        have q := four B2 (Below.refl _ _)
        go_wp2
        clear f0 f1 f2 f3 q q4
        obtain ⟨w7, hw7, B7, hlow7, hgr7⟩ := Blk.set4 B2 (.string ⟨#[113, 100]⟩) (.slice (some ⟨b, 0, none⟩) k c2) (.int .i64 ky) (.bool only)
        rw [← hw7]
        clear hw7
        have q := four B7 (Below.refl _ _)
        have hCs : Cs w7 w.heap.size (some ⟨b, 0, none⟩) k c2 gn := ⟨((Row.of_own HST.out.1).grownL hgr7 (by omega)).base (by omega), hlen.out⟩
        exact bodyPost_ret (v := .agg #[.string ⟨#[113, 100]⟩, .slice (some ⟨b, 0, none⟩) k c2, .int .i64 ky, .bool only]) (by simp [results, Try.results11, go_sem, q]; try rfl) rfl
          (by
            unfold goodS
            rw [HKY.out, HGN.out]
            refine ⟨some ⟨b, 0, none⟩, c2, ?_, ?_, .inr ⟨_, _, rfl⟩, Below.trans hbW (Below.trans (hbw6.mono hbW.size) (hlow7 _ (Nat.le_succ _)))⟩
            · simp only [schA, hlen.out]
            · simp only [hlen.out]; exact hCs)
    have hk6 : k < 6 := by omega
    obtain ⟨d, hd⟩ : ∃ d, UInt8.ofNat (97 + k) = d := ⟨_, rfl⟩
    have hdn : (d.toNat : Int) = 97 + (k : Int) := by rw [← hd]; simp; omega
    have hw8 := HW8.out k hk6
    have hcv := conv1 d (97 + (k : Int)) hdn.symm (wr.alloc (.cells #[.int .u8 (97 + (k : Int))] 5)) wr.heap.size (by simp [go_sem])
    have HD := Lib.hid (show chr1 k = ⟨#[d]⟩ by unfold chr1; rw [hd])
    clear hd hdn
    have q1' := fun o o' => four B1 ((hbw.alloc hbw.size o).alloc (by have := hbw.size; simp; omega) o')
    by_cases hkn : k < n
    case neg =>
      have hk1 : k < 1 := by have := HMd.out; omega
      have hd1 : decide ((k : Int) < (n : Int)) = false := by simp; omega
      have hd2 : decide ((k : Int) < 1) = true := by simp; omega
      have hnone : Hid (l[k]? = none) := Lib.hid (List.getElem?_eq_none (by have := HLn.out; omega))
      go_upto_region 8 with fail
      clear q1 q1' hcv hw8
      obtain ⟨W5, hW_, hb5, BU, BC⟩ : ∃ W_, W_ = ((wr.alloc (.cells #[.int .u8 (97 + (k : Int))] 5)).alloc (.cells #[.string ⟨#[d]⟩, .int .i64 2, .bool false] 66)) ∧ Below wr.heap.size wr W_ ∧ Blk W_ (wr.heap.size) 5 #[.int .u8 (97 + (k : Int))] ∧ Blk W_ (wr.heap.size + 1) 66 #[.string ⟨#[d]⟩, .int .i64 2, .bool false] :=
        ⟨_, rfl, (((Below.refl _ _).alloc (Nat.le_refl _) _).alloc (by simp; try omega) _), ((blk_new_at wr (wr.heap.size) _ _ (by simp)).alloc _), (blk_new_at (wr.alloc (.cells #[.int .u8 (97 + (k : Int))] 5)) (wr.heap.size + 1) _ _ (by simp))⟩
      rw [← hW_]
      clear hW_
      have hbw5 := Below.trans hbw (Below.mono hb5 hbw.size)
      have HO := Lib.hid (own_ext HO.out hb5)
      have B4 := B4.ext hb5
      clear hb5 BU
      have hg8 : gcol l k = ⟨⟨#[d]⟩, 2, false⟩ := by unfold gcol; rw [hnone.out, HD.out]
      have HN8 : Hid (cellsC (gcols l (k + 1)) = cellsC (gcols l k) ++ [.string ⟨#[d]⟩, .int .i64 (2), .bool false]) := Lib.hid (by rw [gcols_succ, hg8]; unfold cellsC; rw [flatK_append, flatK_one]; rfl)
      clear hg8
      have q4 := four B4 (Below.refl _ _)
      have qc := BC.three (Below.refl _ _)
      have hX1 := hbw5.size
      have q1 := four B1 hbw5
      go_wp2_with (at_builtin; refine wpList_append_own _ rfl (.tmp 61) (.tmp 63) 22 rfl (g1 + 1) 66 i0 _ 3 32 Try.underlying22 hi hz0 hz1 hz2 rfl (by decide) _ _ _ rfl (HO.out.alloc _) ⟨W5.heap.size, 0, none⟩ 1 1 [.string ⟨#[d]⟩, .int .i64 (2), .bool false] rfl rfl ?c1 ?c2 ?c3 ?c4 ?c5 ?_)
      case c1 => exact (Row.of_blk (blk_new_at _ _ _ _ rfl) (Nat.zero_le _) 3 3 (Nat.le_refl _)).src
      case c2 => exact fun u hu => oneC [⟨⟨#[d]⟩, 2, false⟩] u (by simpa [cellsC, flatK, encC] using hu)
      case c3 => unfold maxLen; omega
      case c4 => omega
      case c5 => have := B4.lt; simp; omega
      intro v' w9 hown9 hgrow9 _
      obtain ⟨A9, c9, rfl⟩ := own_slice hown9
      have B9 : Blk w9 g1 24 _ := (B4.alloc _).grown hgrow9 (fun e => by
        have := (HO.out.lt g1 e.symm).1
        omega)
      have hbw9 : Below W.heap.size W w9 := (hbw5.alloc hbw5.size _).grown hgrow9 (by simp; omega) (fun b hb => by have := (HO.out.lt b hb).1; omega)
      have HO9 := Lib.hid hown9
      clear q4 qc q1
      have f := B9.frozen 1
      have q := B9.cell 1
      go_wp2
      clear f q
      obtain ⟨wz, hwz, Bz, hlowz, hgrz⟩ := Blk.set1 (i := 1) B9 (.slice A9 (k + 1) c9)
      rw [← hwz]
      clear hwz
      have hoz : wz.ownsRow (g1 + 1) 66 3 (.slice A9 (k + 1) c9) (k + 1) (cellsC (gcols l (k + 1))) := by
        rw [HN8.out]
        refine HO9.out.kept hgrz ?_
        cases ho : (Value.slice A9 (k + 1) c9).ownBlock with
        | none => exact .inl rfl
        | some b =>
          have := (HO9.out.lt b ho).1
          exact .inr (by simp; omega)
      have HOz := Lib.hid hoz
      have hbz : Below W.heap.size W wz := Below.trans hbw9 (hlowz _ hlo1)
      clear hoz HO9
      go_roundw
      case rel => exact ⟨k + 1, A9, c9, by omega, by go_num, Bz, HOz.out, hbz⟩
      case measure => simp [intOf]; omega
    have hd1 : decide ((k : Int) < (n : Int)) = true := by simp; omega
    have hd3 : decide ((k : Int) < 6) = true := by simp; omega
    have hkni : (k : Int) < (n : Int) := by omega
    obtain ⟨cl, hcl⟩ : ∃ cl, l[k]? = some cl := ⟨_, List.getElem?_eq_getElem (by rw [HLn.out]; exact hkn)⟩
    have HCL := Lib.hid hcl
    have hraw := HP.out cl (List.mem_of_getElem? hcl)
    obtain ⟨gA, oA, rfl, _, _, _⟩ := HC.out.1.some_ (by omega)
    obtain ⟨cn, ck, cnl⟩ := cl
    obtain ⟨kd, hkd0⟩ : ∃ kd, ck % 3 = kd := ⟨_, rfl⟩
    have hkb : 0 ≤ kd ∧ kd < 3 := by omega
    have hkd := Lib.hid hkd0
    have hgc : Hid (gcol l k = ⟨⟨#[d]⟩, 1 + kd, cnl⟩) := Lib.hid (by unfold gcol; rw [hcl, ← hkd0]; simp only; rw [HD.out])
    clear hkd0 hcl
    have hwk : IntKind.i64.wrap (1 + kd) = 1 + kd := IntWalk.i64_in _ ⟨by omega, by omega⟩
    have hd2x : decide ((k : Int) < 1) = true ∨ decide ((k : Int) < 1) = false := by
      by_cases h : k < 1
      · exact .inl (by simp; omega)
      · exact .inr (by simp; omega)
    have HOl := Lib.hid (fun b hb => (HO.out.lt b hb).2)
    rcases hd2x with hd2 | hd2
    all_goals
      go_upto_region 7 with fail
      clear q1 q1' hcv hw8
      obtain ⟨W5, hW_, hb5, BU, BC⟩ : ∃ W_, W_ = ((wr.alloc (.cells #[.int .u8 (97 + (k : Int))] 5)).alloc (.cells #[.string ⟨#[d]⟩, .int .i64 2, .bool false] 66)) ∧ Below wr.heap.size wr W_ ∧ Blk W_ (wr.heap.size) 5 #[.int .u8 (97 + (k : Int))] ∧ Blk W_ (wr.heap.size + 1) 66 #[.string ⟨#[d]⟩, .int .i64 2, .bool false] :=
        ⟨_, rfl, (((Below.refl _ _).alloc (Nat.le_refl _) _).alloc (by simp; try omega) _), ((blk_new_at wr (wr.heap.size) _ _ (by simp)).alloc _), (blk_new_at (wr.alloc (.cells #[.int .u8 (97 + (k : Int))] 5)) (wr.heap.size + 1) _ _ (by simp))⟩
      rw [← hW_]
      clear hW_
      have hbw5 := Below.trans hbw (Below.mono hb5 hbw.size)
      have HO := Lib.hid (own_ext HO.out hb5)
      have B4 := B4.ext hb5
      clear hb5 BU
      have D := fun w' (h : Below W.heap.size W w') => four B1 h
      have D2 := fun w' (h : Below W.heap.size W w') => (HC.out.ext (Below.trans hbW (Below.mono h hbW.size))).at_ HCL.out
      have hz5 := hbw5.size
      refine wp_region_oneS (S := fun w' => Below W.heap.size W w') [(0, true), (1, true), (2, true), (3, true), (4, true), (5, true), (8, true), (9, true), (10, true), (11, true), (12, true), (13, true), (6, false), (7, true), (14, true), (15, false), (16, true), (17, false)] (by kernel_rfl) (by kernel_rfl) (by kernel_rfl) (by decide) hbw5.drew ?_
      repeat ((with_reducible show wpPerm _ _ _ _ ((_, true) :: _) _ _); (first | (refine wpPerm_on (v := ?_) rfl rfl (wanted_free rfl) (fun w' hS => ?_) ?_; rotate_left; (focus (go_simp; (try with_reducible rfl); done)); try simp only [List.setIfInBounds_toArray, List.set_cons_zero, List.set_cons_succ]) | (refine wpPerm_on (v := ?_) rfl rfl (wanted_yes rfl rfl rfl) (fun w' hS => ?_) ?_; rotate_left; (focus (go_simp; (try with_reducible rfl); done)); try simp only [List.setIfInBounds_toArray, List.set_cons_zero, List.set_cons_succ]) | (refine wpPerm_off rfl rfl (wanted_no rfl rfl rfl) ?_; try simp only [List.setIfInBounds_toArray, List.set_cons_zero, List.set_cons_succ]) | (refine wpPerm_off rfl rfl (wanted_undef rfl rfl rfl) ?_; try simp only [List.setIfInBounds_toArray, List.set_cons_zero, List.set_cons_succ])))
      refine wpPerm_do rfl (wanted_free rfl) (fun K hK => ?_); go_simp
      refine (within9 ck 3 kd hkd.out _ (by decide) (by decide) hraw.k.1 hraw.k.2).mono ?_
      rintro e w6 ⟨rfl, rfl⟩
      refine hK.out _ _ hbw5.drew ?_
      clear hK K
      repeat ((with_reducible show wpPerm _ _ _ _ ((_, true) :: _) _ _); (first | (refine wpPerm_on (v := ?_) rfl rfl (wanted_free rfl) (fun w' hS => ?_) ?_; rotate_left; (focus (go_simp; (try with_reducible rfl); done)); try simp only [List.setIfInBounds_toArray, List.set_cons_zero, List.set_cons_succ]) | (refine wpPerm_on (v := ?_) rfl rfl (wanted_yes rfl rfl rfl) (fun w' hS => ?_) ?_; rotate_left; (focus (go_simp; (try with_reducible rfl); done)); try simp only [List.setIfInBounds_toArray, List.set_cons_zero, List.set_cons_succ]) | (refine wpPerm_off rfl rfl (wanted_no rfl rfl rfl) ?_; try simp only [List.setIfInBounds_toArray, List.set_cons_zero, List.set_cons_succ]) | (refine wpPerm_off rfl rfl (wanted_undef rfl rfl rfl) ?_; try simp only [List.setIfInBounds_toArray, List.set_cons_zero, List.set_cons_succ])))
      have BC : Blk W5.drew _ _ _ := BC
      have B4 : Blk W5.drew _ _ _ := B4
      have HO : Hid (W5.drew.ownsRow _ _ _ _ _ _) := Lib.hid HO.out.drew
      have hbw5 := hbw5.drew
      generalize W5.drew = wd at *
      have f1 := BC.frozen 1
      have q1 := BC.cell 1
      refine wpPerm_do rfl (wanted_free rfl) (fun K hK => ?_); go_simp
      clear f1 q1
      obtain ⟨w6, hw6, BC6, hlow6, hgr6⟩ := Blk.set1 (i := 1) BC (.int .i64 (1 + kd))
      rw [← hw6]
      clear hw6
      have hzz : W.heap.size ≤ wr.heap.size + 1 := by have := hbw.size; omega
      have hbw6 := Below.trans hbw5 (hlow6 _ hzz)
      have B4 := B4.grown hgr6 (by simp; omega)
      have HO := Lib.hid (HO.out.kept hgr6 (by
        cases ho : (Value.slice A2 k c2).ownBlock with
        | none => exact .inl rfl
        | some b =>
          have := HOl.out b ho
          exact .inr (by simp; omega)))
      have BC : Blk w6 (wr.heap.size + 1) 66 #[.string ⟨#[d]⟩, .int .i64 (1 + kd), .bool false] := BC6
      refine hK.out _ _ hbw6 ?_
      clear hK K BC6
      repeat ((with_reducible show wpPerm _ _ _ _ ((_, true) :: _) _ _); (first | (refine wpPerm_on (v := ?_) rfl rfl (wanted_free rfl) (fun w' hS => ?_) ?_; rotate_left; (focus (go_simp; (try with_reducible rfl); done)); try simp only [List.setIfInBounds_toArray, List.set_cons_zero, List.set_cons_succ]) | (refine wpPerm_on (v := ?_) rfl rfl (wanted_yes rfl rfl rfl) (fun w' hS => ?_) ?_; rotate_left; (focus (go_simp; (try with_reducible rfl); done)); try simp only [List.setIfInBounds_toArray, List.set_cons_zero, List.set_cons_succ]) | (refine wpPerm_off rfl rfl (wanted_no rfl rfl rfl) ?_; try simp only [List.setIfInBounds_toArray, List.set_cons_zero, List.set_cons_succ]) | (refine wpPerm_off rfl rfl (wanted_undef rfl rfl rfl) ?_; try simp only [List.setIfInBounds_toArray, List.set_cons_zero, List.set_cons_succ])))
      have f1 := BC.frozen 2
      have q1 := BC.cell 2
      refine wpPerm_do rfl (wanted_free rfl) (fun K hK => ?_); go_simp
      clear f1 q1
      obtain ⟨w7, hw7, BC7, hlow7, hgr7⟩ := Blk.set1 (i := 2) BC (.bool cnl)
      rw [← hw7]
      clear hw7
      have hbw7 := Below.trans hbw6 (hlow7 _ hzz)
      have B4 := B4.grown hgr7 (by simp; omega)
      have HO := Lib.hid (HO.out.kept hgr7 (by
        cases ho : (Value.slice A2 k c2).ownBlock with
        | none => exact .inl rfl
        | some b =>
          have := HOl.out b ho
          exact .inr (by simp; omega)))
      have BC : Blk w7 (wr.heap.size + 1) 66 #[.string ⟨#[d]⟩, .int .i64 (1 + kd), .bool cnl] := BC7
      refine hK.out _ _ hbw7 (wpPerm_done ?_)
      clear hK K BC7 D D2
      have hg8 : gcol l k = ⟨⟨#[d]⟩, 1 + kd, cnl⟩ := hgc.out
      have HN8 : Hid (cellsC (gcols l (k + 1)) = cellsC (gcols l k) ++ [.string ⟨#[d]⟩, .int .i64 (1 + kd), .bool cnl]) := Lib.hid (by rw [gcols_succ, hg8]; unfold cellsC; rw [flatK_append, flatK_one]; rfl)
      clear hg8
      have q4 := four B4 (Below.refl _ _)
      have qc := BC.three (Below.refl _ _)
      have hX1 := hbw7.size
      have q1 := four B1 hbw7
      go_wp2_with (at_builtin; refine wpList_append_own _ rfl (.tmp 61) (.tmp 63) 22 rfl (g1 + 1) 66 i0 _ 3 32 Try.underlying22 hi hz0 hz1 hz2 rfl (by decide) _ _ _ rfl (HO.out.alloc _) ⟨w7.heap.size, 0, none⟩ 1 1 [.string ⟨#[d]⟩, .int .i64 (1 + kd), .bool cnl] rfl rfl ?c1 ?c2 ?c3 ?c4 ?c5 ?_)
      case c1 => exact (Row.of_blk (blk_new_at _ _ _ _ rfl) (Nat.zero_le _) 3 3 (Nat.le_refl _)).src
      case c2 => exact fun u hu => oneC [⟨⟨#[d]⟩, 1 + kd, cnl⟩] u (by simpa [cellsC, flatK, encC] using hu)
      case c3 => unfold maxLen; omega
      case c4 => omega
      case c5 => have := B4.lt; simp; omega
      intro v' w9 hown9 hgrow9 _
      obtain ⟨A9, c9, rfl⟩ := own_slice hown9
      have B9 : Blk w9 g1 24 _ := (B4.alloc _).grown hgrow9 (fun e => by
        have := (HO.out.lt g1 e.symm).1
        omega)
      have hbw9 : Below W.heap.size W w9 := (hbw7.alloc hbw7.size _).grown hgrow9 (by simp; omega) (fun b hb => by have := (HO.out.lt b hb).1; omega)
      have HO9 := Lib.hid hown9
      clear q4 qc q1
      have f := B9.frozen 1
      have q := B9.cell 1
      go_wp2
      clear f q
      obtain ⟨wz, hwz, Bz, hlowz, hgrz⟩ := Blk.set1 (i := 1) B9 (.slice A9 (k + 1) c9)
      rw [← hwz]
      clear hwz
      have hoz : wz.ownsRow (g1 + 1) 66 3 (.slice A9 (k + 1) c9) (k + 1) (cellsC (gcols l (k + 1))) := by
        rw [HN8.out]
        refine HO9.out.kept hgrz ?_
        cases ho : (Value.slice A9 (k + 1) c9).ownBlock with
        | none => exact .inl rfl
        | some b =>
          have := (HO9.out.lt b ho).1
          exact .inr (by simp; omega)
      have HOz := Lib.hid hoz
      have hbz : Below W.heap.size W wz := Below.trans hbw9 (hlowz _ hlo1)
      clear hoz HO9
      go_roundw
      case rel => exact ⟨k + 1, A9, c9, by omega, by go_num, Bz, HOz.out, hbz⟩
      case measure => simp [intOf]; omega
end Go.Proofs.Ytnlmbjmgmofeiaa.tb
