/- Contracts: rows (the same ones), l5.Good, Of. -/
import Derived.Test.YtnlmbjmgmofeiaaU3
import Derived.Test.YtnlmbjmgmofeiaaTArg
namespace Go.Proofs.Ytnlmbjmgmofeiaa.tb
open Go.ChangeShapes Go.WideShapes Go.ChangeAt Go.RowKit Go.Proofs.Ytnlmbjmgmofeiaa.lib Go.Proofs.Ytnlmbjmgmofeiaa.val
set_option linter.unusedVariables false

def gV (v : V) : V := ⟨gK v.k, gN v.k v.n, gS v.k v.s⟩
theorem take_size (s : ByteArray) : (s.extract 0 (min s.size 60)).size ≤ 60 := by
  rw [ByteArray.size_extract]; omega
theorem gV_chk (v : V) : vchk (gV v) = 0 := by
  unfold vchk gV chk vEq bareN bareS gK gN gS
  have h4 : 0 ≤ v.k % 4 ∧ v.k % 4 < 4 := ⟨Int.emod_nonneg _ (by decide), Int.emod_lt_of_pos _ (by decide)⟩
  have h2 : 0 ≤ v.n % 2 ∧ v.n % 2 < 2 := ⟨Int.emod_nonneg _ (by decide), Int.emod_lt_of_pos _ (by decide)⟩
  obtain ⟨k, hk⟩ : ∃ k, v.k % 4 = k := ⟨_, rfl⟩
  rw [hk] at h4 ⊢
  have hs := take_size v.s
  have hc : k = 0 ∨ k = 1 ∨ k = 2 ∨ k = 3 := by omega
  rcases hc with rfl | rfl | rfl | rfl
  · simp [ba_refl]
  · have hn : v.n % 2 = 0 ∨ v.n % 2 = 1 := by omega
    rcases hn with e | e <;> rw [e] <;> simp [ba_refl]
  · simp [ba_refl]
  · simp only [ByteArray.size_extract] at hs
    simp [ba_refl]
    try omega
theorem gV_raw {v : V} (h : RawV v) : (gV v).s.size ≤ 60 := by
  have := (chk_form (gV_chk v)).2.2.2.2.2
  exact this
set_option maxHeartbeats 2000000 in
theorem of_ (S : Sch) (A : Option Addr) (n c : Nat) (A' : Option Addr) (n' c' : Nat) (w : World) :
    Calls Try.prog 15 #[.agg (tabA S A n c A' n' c')] w fun e w' => e = .returned (.agg (tabA S A n c A' n' c')) ∧ Below w.heap.size w w' := by
  obtain ⟨nm, cols, key, only⟩ := S
  simp only [tabA]
  go_enter Try.func15, Try.ntmps15
  go_upto_region 1 with fail
  obtain ⟨W, hW_, hbW, B1, B2⟩ : ∃ W_, W_ = ((w.alloc (.cells #[.string nm, .slice A n c, .int .i64 key, .bool only, .slice A' n' c'] 32)).alloc (.cells #[.string ⟨#[]⟩, .slice none 0 0, .int .i64 0, .bool false, .slice none 0 0] 36)) ∧ Below w.heap.size w W_ ∧ Blk W_ (w.heap.size) 32 #[.string nm, .slice A n c, .int .i64 key, .bool only, .slice A' n' c'] ∧ Blk W_ (w.heap.size + 1) 36 #[.string ⟨#[]⟩, .slice none 0 0, .int .i64 0, .bool false, .slice none 0 0] :=
    ⟨_, rfl, (((Below.refl _ _).alloc (Nat.le_refl _) _).alloc (by simp; try omega) _), ((blk_new_at w (w.heap.size) _ _ (by simp)).alloc _), (blk_new_at (w.alloc (.cells #[.string nm, .slice A n c, .int .i64 key, .bool only, .slice A' n' c'] 32)) (w.heap.size + 1) _ _ (by simp))⟩
  rw [← hW_]
  clear hW_
  have f0 := B2.frozen 0
  have f1 := B2.frozen 1
  have f2 := B2.frozen 2
  have f3 := B2.frozen 3
  have f4 := B2.frozen 4
  have q := five B2 (Below.refl _ _)
  have q1 := five B1 (Below.refl _ _)
  go_wp2
  clear f0 f1 f2 f3 f4 q q1
  obtain ⟨wz, hwz, Bz, hlowz, hgrz⟩ := Blk.set5 B2 (.string nm) (.slice A n c) (.int .i64 key) (.bool only) (.slice A' n' c')
  rw [← hwz]
  clear hwz
  have q := five Bz (Below.refl _ _)
  exact bodyPost_ret (v := .agg #[.string nm, .slice A n c, .int .i64 key, .bool only, .slice A' n' c']) (by simp [results, Try.results15, go_sem, q]; try rfl) rfl
    ⟨rfl, Below.trans hbW (hlowz _ (Nat.le_succ _))⟩
end Go.Proofs.Ytnlmbjmgmofeiaa.tb
