/- Contracts: key, find's closure, BinarySearchFunc, find. -/
import Derived.Test.YtalfacbkofgdjaaT3
import Derived.Deep.CutRange
namespace Go.Proofs.Ytalfacbkofgdjaa.tb
open Go.ChangeShapes Go.WideShapes Go.ChangeAt Go.RowKit Go.Proofs.Ytalfacbkofgdjaa.lib Go.Proofs.Ytalfacbkofgdjaa.val
set_option linter.unusedVariables false

set_option maxHeartbeats 1000000 in
theorem key_ (S : Sch) (A : Option Addr) (n c : Nat) (A' : Option Addr) (n' c' : Nat) (r : List V) (lo : Nat) (Ar : Option Addr) (m cr : Nat) (v : V) (w : World) (hr : Vs w lo Ar m cr r) (hv : r[S.key]? = some v) (hm : m ≤ 100000) :
    Calls Try.prog 38 #[.agg (tabA S A n c A' n' c'), .slice Ar m cr] w fun e w' => e = .returned (.agg #[.int .i64 v.k, .int .i64 v.n, .string v.s]) ∧ Below w.heap.size w w' := by
  have hlt : S.key < m := by have := (List.getElem?_eq_some_iff.1 hv).1; rw [hr.2] at this; exact this
  obtain ⟨b, o, rfl, _, _, hb⟩ := hr.1.some_ (by omega)
  obtain ⟨nm, cols, key, only⟩ := S
  simp only [tabA] at hlt hv ⊢
  go_enter Try.func38, Try.ntmps38
  go_upto_region 1 with fail
  obtain ⟨W, hW_, hbW, B1, B2⟩ : ∃ W_, W_ = ((w.alloc (.cells #[.string nm, .slice A n c, .int .i64 key, .bool only, .slice A' n' c'] 75)).alloc (.cells #[.int .i64 0, .int .i64 0, .string ⟨#[]⟩] 39)) ∧ Below w.heap.size w W_ ∧ Blk W_ (w.heap.size) 75 #[.string nm, .slice A n c, .int .i64 key, .bool only, .slice A' n' c'] ∧ Blk W_ (w.heap.size + 1) 39 #[.int .i64 0, .int .i64 0, .string ⟨#[]⟩] :=
    ⟨_, rfl, (((Below.refl _ _).alloc (Nat.le_refl _) _).alloc (by simp; try omega) _), ((blk_new_at w (w.heap.size) _ _ (by simp)).alloc _), (blk_new_at (w.alloc (.cells #[.string nm, .slice A n c, .int .i64 key, .bool only, .slice A' n' c'] 75)) (w.heap.size + 1) _ _ (by simp))⟩
  rw [← hW_]
  clear hW_
  have q1 := five B1 (Below.refl _ _)
  have q2 := B2.three (Below.refl _ _)
  have f2 := B2.free3
  have q := (hr.ext hbW).at_ hv
  have hd1 : decide ((key : Int) < 0) = false := by simp
  have hd2 : decide ((m : Int) ≤ (key : Int)) = false := by simp; omega
  have hkm : (key : Int) < (m : Int) := by omega
  go_wp2
  obtain ⟨w3, hw3, B3, hlow, hgr⟩ := B2.set3 (.int .i64 v.k) (.int .i64 v.n) (.string v.s)
  rw [← hw3]
  have q3 := B3.three (Below.refl _ _)
  exact bodyPost_ret (v := .agg #[.int .i64 v.k, .int .i64 v.n, .string v.s]) (by simp [results, Try.results38, go_sem, q3]; try rfl) rfl ⟨rfl, Below.trans hbW (hlow w.heap.size (Nat.le_succ _))⟩

set_option maxHeartbeats 1000000 in
theorem findc_ (S : Sch) (A : Option Addr) (n c : Nat) (A' : Option Addr) (n' c' : Nat) (g : Nat) (k : V) (r : List V) (lo : Nat) (Ar : Option Addr) (m cr : Nat) (v : V) (w : World) (hg : Blk w g 75 (tabA S A n c A' n' c')) (hr : Vs w lo Ar m cr r) (hv : r[S.key]? = some v) (hm : m ≤ 100000) :
    Calls Try.prog 51 #[.slice Ar m cr, .agg #[.int .i64 k.k, .int .i64 k.n, .string k.s], .pointer (some ⟨g, 0, none⟩)] w fun e w' => e = .returned (.int .i64 (cmpV v k)) ∧ Below w.heap.size w w' := by
  obtain ⟨kk, kn, ks⟩ := k
  simp only
  have hg5 : Blk w g 75 #[.string S.name, .slice A n c, .int .i64 S.key, .bool S.only, .slice A' n' c'] := hg
  go_enter Try.func51, Try.ntmps51
  go_upto_region 1 with fail
  obtain ⟨W, hW_, hbW, B1⟩ : ∃ W_, W_ = (w.alloc (.cells #[.int .i64 kk, .int .i64 kn, .string ks] 39)) ∧ Below w.heap.size w W_ ∧ Blk W_ (w.heap.size) 39 #[.int .i64 kk, .int .i64 kn, .string ks] :=
    ⟨_, rfl, ((Below.refl _ _).alloc (Nat.le_refl _) _), (blk_new_at w (w.heap.size) _ _ (by simp))⟩
  rw [← hW_]
  clear hW_
  have D := fun w' (h : Below W.heap.size W.drew w') => five hg5 (Below.trans hbW.drew (Below.mono h hbW.size))
  have D2 := fun w' (h : Below W.heap.size W.drew w') => B1.three (Below.trans (Below.refl _ _).drew h)
  refine wp_region_one [(0, true), (1, true), (3, true), (2, false), (4, false), (5, true)] (by kernel_rfl) (by kernel_rfl) (by kernel_rfl) (by decide) ?_
  repeat ((with_reducible show wpPerm _ _ _ _ ((_, true) :: _) _ _); (first | (refine wpPerm_on (v := ?_) rfl rfl (wanted_free rfl) (fun w' hS => ?_) ?_; rotate_left; (focus (go_simp; (try with_reducible rfl); done)); try simp only [List.setIfInBounds_toArray, List.set_cons_zero, List.set_cons_succ]) | (refine wpPerm_on (v := ?_) rfl rfl (wanted_yes rfl rfl rfl) (fun w' hS => ?_) ?_; rotate_left; (focus (go_simp; (try with_reducible rfl); done)); try simp only [List.setIfInBounds_toArray, List.set_cons_zero, List.set_cons_succ]) | (refine wpPerm_off rfl rfl (wanted_no rfl rfl rfl) ?_; try simp only [List.setIfInBounds_toArray, List.set_cons_zero, List.set_cons_succ]) | (refine wpPerm_off rfl rfl (wanted_undef rfl rfl rfl) ?_; try simp only [List.setIfInBounds_toArray, List.set_cons_zero, List.set_cons_succ])))
  refine wpPerm_do rfl (wanted_free rfl) (fun K hK => ?_); go_simp
  refine (key_ S A n c A' n' c' r lo Ar m cr v _ (hr.ext hbW.drew) hv hm).mono ?_
  rintro e w1 ⟨rfl, hb1⟩
  refine hK.out _ _ hb1 ?_
  clear hK K
  refine wpPerm_do rfl (wanted_free rfl) (fun K hK => ?_); go_simp
  refine (compare v.k v.n v.s kk kn ks _).mono ?_
  rintro e w2 ⟨rfl, hb2⟩
  have h2 := Below.trans hb1 (Below.mono hb2 hb1.size)
  refine hK.out _ _ h2 ?_
  clear hK K
  repeat ((with_reducible show wpPerm _ _ _ _ ((_, true) :: _) _ _); (first | (refine wpPerm_on (v := ?_) rfl rfl (wanted_free rfl) (fun w' hS => ?_) ?_; rotate_left; (focus (go_simp; (try with_reducible rfl); done)); try simp only [List.setIfInBounds_toArray, List.set_cons_zero, List.set_cons_succ]) | (refine wpPerm_on (v := ?_) rfl rfl (wanted_yes rfl rfl rfl) (fun w' hS => ?_) ?_; rotate_left; (focus (go_simp; (try with_reducible rfl); done)); try simp only [List.setIfInBounds_toArray, List.set_cons_zero, List.set_cons_succ]) | (refine wpPerm_off rfl rfl (wanted_no rfl rfl rfl) ?_; try simp only [List.setIfInBounds_toArray, List.set_cons_zero, List.set_cons_succ]) | (refine wpPerm_off rfl rfl (wanted_undef rfl rfl rfl) ?_; try simp only [List.setIfInBounds_toArray, List.set_cons_zero, List.set_cons_succ])))
  refine wpPerm_done ?_
  clear D D2
  go_wp2
  go_ret
  exact ⟨rfl, Below.trans hbW.drew (Below.mono h2 hbW.size)⟩
end Go.Proofs.Ytalfacbkofgdjaa.tb
