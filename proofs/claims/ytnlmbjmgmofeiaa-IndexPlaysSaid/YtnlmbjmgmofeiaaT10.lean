/- Contracts: Fits, and the document's. Printed by genfits.py. -/
import Derived.Test.YtnlmbjmgmofeiaaT9
namespace Go.Proofs.Ytnlmbjmgmofeiaa.tb
open Go.ChangeShapes Go.WideShapes Go.ChangeAt Go.RowKit Go.Proofs.Ytnlmbjmgmofeiaa.lib Go.Proofs.Ytnlmbjmgmofeiaa.val
set_option linter.unusedVariables false

def Small (r : List V) : Prop := ∀ v ∈ r, v.s.size ≤ maxLen
set_option maxHeartbeats 4000000 in
theorem rfits_ (S : Sch) (lo : Nat) (A : Option Addr) (n c : Nat) (r : List V) (lo' : Nat) (Ar : Option Addr) (m cr : Nat) (w : World) (hC : Cs w lo A n c S.cols) (hn : n ≤ 100000) (hr : Vs w lo' Ar m cr r) (hm : m ≤ 100000) (hs : Small r) :
    Calls Try.prog 48 #[.agg (schA S A n c), .slice Ar m cr] w fun e w' => e = .returned (.int .i64 (fitsL S.cols r)) ∧ Below w.heap.size w w' := by
  obtain ⟨nm, cols, key, only⟩ := S
  simp only [schA] at hC ⊢
  have HS := Lib.hid hs
  have HC := Lib.hid hC
  have HR := Lib.hid hr
  clear hs hC hr
  by_cases hmn : m = n
  case neg =>
    have e : fitsL cols r = 1 := by
      unfold fitsL
      rw [if_pos (by rw [HR.out.2, HC.out.2]; exact hmn)]
    rw [e]
    have hd : ((m : Int) != (n : Int)) = true := by simp; omega
    go_enter Try.func48, Try.ntmps48
    go_wp2
    go_ret
    exact ⟨rfl, (Below.refl _ _).alloc (Nat.le_refl _) _⟩
  subst hmn
  have e : fitsL cols r = fitsGo cols r := by
    unfold fitsL
    rw [if_neg (by rw [HR.out.2, HC.out.2]; simp)]
  rw [e]
  clear e
  obtain ⟨z, hz⟩ : ∃ z, fitsGo cols r = z := ⟨_, rfl⟩
  rw [hz]
  have HZ := Lib.hid hz
  clear hz
  have hd : ((m : Int) != (m : Int)) = false := by simp
  go_enter Try.func48, Try.ntmps48
  go_upto_region 1 with fail
  obtain ⟨W, hW_, hbW, B1⟩ : ∃ W_, W_ = (w.alloc (.cells #[.string nm, .slice A m c, .int .i64 key, .bool only] 24)) ∧ Below w.heap.size w W_ ∧ Blk W_ (w.heap.size) 24 #[.string nm, .slice A m c, .int .i64 key, .bool only] :=
    ⟨_, rfl, ((Below.refl _ _).alloc (Nat.le_refl _) _), (blk_new_at w (w.heap.size) _ _ (by simp))⟩
  rw [← hW_]
  clear hW_
  have q1 := four B1 (Below.refl _ _)
  go_wp2_with fail
  clear q1 hd
  go_loopw [5] (fun i wr => ∃ k : Nat, k ≤ m ∧ i = .int .i64 k ∧ Below W.heap.size W wr ∧ Hid (fitsGo (cols.drop k) (r.drop k) = z)) (fun i _ => m - (intOf i).toNat)
  case atStart => exact ⟨0, Nat.zero_le _, rfl, Below.refl _ _, Lib.hid (by simpa using HZ.out)⟩
  case round =>
    obtain ⟨k, hk, rfl, hbw, HK⟩ := hrel
    have hw1 := Below.trans hbW (Below.mono hbw hbW.size)
    rcases Nat.lt_or_ge k m with hlt | hge
    case inr =>
      have hd : decide ((k : Int) < (m : Int)) = false := by simp; omega
      have hz0 : z = 0 := by rw [← HK.out, fitsGo_end (by rw [HR.out.2]; exact hge)]
      clear HK HZ
      subst hz0
      go_wp2
      go_ret
      exact ⟨rfl, hw1⟩
    have hd : decide ((k : Int) < (m : Int)) = true := by simp; omega
    have hkm : (k : Int) < (m : Int) := by omega
    obtain ⟨v, hv⟩ : ∃ v, r[k]? = some v := ⟨_, List.getElem?_eq_getElem (by rw [HR.out.2]; exact hlt)⟩
    obtain ⟨cl, hcl⟩ : ∃ cl, cols[k]? = some cl := ⟨_, List.getElem?_eq_getElem (by rw [HC.out.2]; exact hlt)⟩
    obtain ⟨b, o, rfl, _, _, hb⟩ := HR.out.1.some_ (by omega)
    obtain ⟨b', o', rfl, _, _, hb'⟩ := HC.out.1.some_ (by omega)
    have hst := fitsGo_step hv hcl
    rw [HK.out] at hst
    have HST := Lib.hid hst
    have hsz := HS.out v (List.mem_of_getElem? hv)
    have q0 := (HR.out.ext hw1).at_ hv
    clear hst HK HZ
    obtain ⟨v0, v1, v2⟩ := v
    obtain ⟨c0, c1, c2⟩ := cl
    simp only at HST hsz
    go_wp2_with fail
    clear q0
    refine (rcheck_ ⟨v0, v1, v2⟩ _ hsz).mono ?_
    rintro e w3 ⟨rfl, hb3⟩
    have hbw3 := Below.trans hbw (Below.mono hb3 hbw.size)
    have hw3 := Below.trans hbW (Below.mono hbw3 hbW.size)
    have q2 := (HR.out.ext hw3).at_ hv
    have q3 := (HC.out.ext hw3).at_ hcl
    have q1 := four B1 hbw3
    have D2 := fun w' (h : Below w3.heap.size w3.drew w') => (HR.out.ext (Below.trans hw3.drew (Below.mono h hw3.size))).at_ hv
    have D3 := fun w' (h : Below w3.heap.size w3.drew w') => (HC.out.ext (Below.trans hw3.drew (Below.mono h hw3.size))).at_ hcl
    have D1 := fun w' (h : Below w3.heap.size w3.drew w') => four B1 (Below.trans hbw3.drew (Below.mono h hbw3.size))
    clear hb3 hbw hw1 hv hcl
    obtain ⟨p1, hp1⟩ : ∃ p, (vchk ⟨v0, v1, v2⟩ != 0) = p := ⟨_, rfl⟩
    cases p1 with
    | true =>
      have e : z = vchk ⟨v0, v1, v2⟩ := by
        rw [HST.out, if_pos (by simpa using hp1)]
      go_wp2
      go_ret
      exact ⟨ret_int e.symm, hw3⟩
    | false =>
      have h1 : ¬ vchk ⟨v0, v1, v2⟩ ≠ 0 := by simpa using hp1
      have hst := HST.out
      rw [if_neg h1] at hst
      by_cases hk0 : v0 = 0
      · cases c2 with
        | false =>
          have e : z = 13 := by rw [hst, if_pos ⟨hk0, rfl⟩]
          have HE := Lib.hid e
          subst hk0
          clear hst e h1
          go_wp2
          go_ret
          exact ⟨ret_int HE.out.symm, hw3⟩
        | true =>
          rw [if_neg (by simp), if_neg (by simp [hk0])] at hst
          have HN := Lib.hid hst.symm
          subst hk0
          clear hst h1
          go_wp2
          go_roundw
          case rel => exact ⟨k + 1, by omega, by go_num, hbw3, HN⟩
          case measure => simp [intOf]; omega
      · rw [if_neg (by simp [hk0])] at hst
        have hk1 : (v0 == 0) = false := by simpa using hk0
        have hk2 : (v0 != 0) = true := by simpa using hk0
        by_cases hkk : v0 = c1
        · rw [if_neg (by simp [hkk])] at hst
          have HN := Lib.hid hst.symm
          have hk3 : (v0 != c1) = false := by simpa using hkk
          clear hst h1 hkk hk0
          go_wp2_with fail
          refine wp_region_one [(0, true), (1, true), (2, true), (3, true), (4, true), (5, true), (6, true), (7, true), (8, true), (9, true), (10, true), (11, true)] (by kernel_rfl) (by kernel_rfl) (by kernel_rfl) (by decide) ?_
          repeat ((with_reducible show wpPerm _ _ _ _ ((_, true) :: _) _ _); (first | (refine wpPerm_on (v := ?_) rfl rfl (wanted_free rfl) (fun w' hS => ?_) ?_; rotate_left; (focus (go_simp; (try with_reducible rfl); done)); try simp only [List.setIfInBounds_toArray, List.set_cons_zero, List.set_cons_succ]) | (refine wpPerm_on (v := ?_) rfl rfl (wanted_yes rfl rfl rfl) (fun w' hS => ?_) ?_; rotate_left; (focus (go_simp; (try with_reducible rfl); done)); try simp only [List.setIfInBounds_toArray, List.set_cons_zero, List.set_cons_succ]) | (refine wpPerm_off rfl rfl (wanted_no rfl rfl rfl) ?_; try simp only [List.setIfInBounds_toArray, List.set_cons_zero, List.set_cons_succ]) | (refine wpPerm_off rfl rfl (wanted_undef rfl rfl rfl) ?_; try simp only [List.setIfInBounds_toArray, List.set_cons_zero, List.set_cons_succ])))
          refine wpPerm_done ?_
          clear D1 D2 D3 q1 q2 q3
          go_wp2
          go_roundw
          case rel => exact ⟨k + 1, by omega, by go_num, hbw3.drew, HN⟩
          case measure => simp [intOf]; omega
        · rw [if_pos ⟨hk0, hkk⟩] at hst
          have HE := Lib.hid hst
          have hk3 : (v0 != c1) = true := by simpa using hkk
          clear hst h1 hkk hk0
          go_wp2_with fail
          refine wp_region_one [(0, true), (1, true), (2, true), (3, true), (4, true), (5, true), (6, true), (7, true), (8, true), (9, true), (10, true), (11, true)] (by kernel_rfl) (by kernel_rfl) (by kernel_rfl) (by decide) ?_
          repeat ((with_reducible show wpPerm _ _ _ _ ((_, true) :: _) _ _); (first | (refine wpPerm_on (v := ?_) rfl rfl (wanted_free rfl) (fun w' hS => ?_) ?_; rotate_left; (focus (go_simp; (try with_reducible rfl); done)); try simp only [List.setIfInBounds_toArray, List.set_cons_zero, List.set_cons_succ]) | (refine wpPerm_on (v := ?_) rfl rfl (wanted_yes rfl rfl rfl) (fun w' hS => ?_) ?_; rotate_left; (focus (go_simp; (try with_reducible rfl); done)); try simp only [List.setIfInBounds_toArray, List.set_cons_zero, List.set_cons_succ]) | (refine wpPerm_off rfl rfl (wanted_no rfl rfl rfl) ?_; try simp only [List.setIfInBounds_toArray, List.set_cons_zero, List.set_cons_succ]) | (refine wpPerm_off rfl rfl (wanted_undef rfl rfl rfl) ?_; try simp only [List.setIfInBounds_toArray, List.set_cons_zero, List.set_cons_succ])))
          refine wpPerm_done ?_
          clear D1 D2 D3 q1 q2 q3
          go_wp2
          go_ret
          exact ⟨ret_int HE.out.symm, hw3.drew⟩
end Go.Proofs.Ytnlmbjmgmofeiaa.tb
