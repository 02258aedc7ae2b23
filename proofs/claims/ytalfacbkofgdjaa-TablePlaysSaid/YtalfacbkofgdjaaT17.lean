/- Contracts: known; Put and Take by their tables. -/
import Derived.Test.YtalfacbkofgdjaaT12
import Derived.Test.YtalfacbkofgdjaaTf
import Derived.Test.YtalfacbkofgdjaaT16
namespace Go.Proofs.Ytalfacbkofgdjaa.tb
open Go.ChangeShapes Go.WideShapes Go.ChangeAt Go.RowKit Go.Proofs.Ytalfacbkofgdjaa.lib Go.Proofs.Ytalfacbkofgdjaa.val
set_option linter.unusedVariables false

def S0 : Sch := ⟨⟨#[120]⟩, colF, 0, false⟩
def r5 : List V := [⟨2, 5, ByteArray.empty⟩]
theorem ok0 : Ok S0.cols S0.key [] := ⟨by decide, fun c h => by injection h with h; rw [← h], fun r h => absurd h (by simp), List.Pairwise.nil⟩
theorem r5_fits : fitsL S0.cols r5 = 0 := by
  unfold fitsL S0 colF r5 fitsGo vchk chk vEq bareN bareS
  simp [fitsGo, ba_refl]
theorem put5 : putL S0.cols S0.key [] r5 = (0, [r5]) := by
  unfold putL
  rw [if_neg (by simpa using r5_fits)]
  rfl
set_option maxHeartbeats 4000000 in
theorem known_ (w : World) : Calls Try.prog 11 #[] w fun e w' => e = .returned (.bool true) ∧ Below w.heap.size w w' := by
  have HT := Lib.hid (fun lo A n c w' hC => take_ S0 [] ⟨2, 0, ByteArray.empty⟩ lo A n c none 0 0 w' hC (Rs.nil w' lo) (.inl rfl) ok0 (by decide) (by decide))
  have HPu := Lib.hid (fun lo A n c lo' Ar m cr w' hC hr => put_ S0 [] r5 lo A n c none 0 0 lo' Ar m cr w' hC (Rs.nil w' lo) (.inl rfl) hr (fun v hv => by simp [r5] at hv; subst hv; decide) ok0 (by decide) (by decide))
  go_enter Try.func11, Try.ntmps11
  go_wp2_with fail
  obtain ⟨W, hW_, hbW, BC, B1⟩ : ∃ W_, W_ = ((w.alloc (.cells #[.string ⟨#[97]⟩, .int .i64 2, .bool false] 46)).alloc (.cells #[.string ⟨#[120]⟩, .slice (some ⟨w.heap.size, 0, none⟩) 1 1, .int .i64 0, .bool false, .slice none 0 0] 32)) ∧ Below w.heap.size w W_ ∧ Blk W_ (w.heap.size) 46 #[.string ⟨#[97]⟩, .int .i64 2, .bool false] ∧ Blk W_ (w.heap.size + 1) 32 #[.string ⟨#[120]⟩, .slice (some ⟨w.heap.size, 0, none⟩) 1 1, .int .i64 0, .bool false, .slice none 0 0] :=
    ⟨_, rfl, (((Below.refl _ _).alloc (Nat.le_refl _) _).alloc (by simp; try omega) _), ((blk_new_at w (w.heap.size) _ _ (by simp)).alloc _), (blk_new_at (w.alloc (.cells #[.string ⟨#[97]⟩, .int .i64 2, .bool false] 46)) (w.heap.size + 1) _ _ (by simp))⟩
  rw [← hW_]
  clear hW_
  have hCs : Cs W 0 (some ⟨w.heap.size, 0, none⟩) 1 1 S0.cols := ⟨Row.of_blk BC (Nat.zero_le _) 1 1 (Nat.le_refl _), rfl⟩
  refine (HT.out 0 (some ⟨w.heap.size, 0, none⟩) 1 1 _ hCs).mono ?_
  rintro e w3 ⟨v, A3, m3, c3, rfl, hT3, hV3, hb3⟩
  obtain ⟨A5, n5, c5, A6, n6, c6, rfl, _⟩ := hT3
  have hbw3 := Below.trans hbW (Below.mono hb3 hbW.size)
  have hp3 : (takeL S0.key [] ⟨2, 0, ByteArray.empty⟩).1 = 2 := by decide +kernel
  rw [hp3]
  simp only [tabA]
  have q1 := fun o => five (B1.ext hb3) ((Below.refl _ _).alloc (Nat.le_refl _) o)
  go_wp2_with fail
  clear q1
  obtain ⟨W4, hW_, hb4, BX, BR⟩ : ∃ W_, W_ = ((w3.alloc (.cells #[.string S0.name, .slice A5 n5 c5, .int .i64 S0.key, .bool S0.only, .slice A6 n6 c6] 32)).alloc (.cells #[.int .i64 2, .int .i64 5, .string ⟨#[]⟩] 39)) ∧ Below w3.heap.size w3 W_ ∧ Blk W_ (w3.heap.size) 32 #[.string S0.name, .slice A5 n5 c5, .int .i64 S0.key, .bool S0.only, .slice A6 n6 c6] ∧ Blk W_ (w3.heap.size + 1) 39 #[.int .i64 2, .int .i64 5, .string ⟨#[]⟩] :=
    ⟨_, rfl, (((Below.refl _ _).alloc (Nat.le_refl _) _).alloc (by simp; try omega) _), ((blk_new_at w3 (w3.heap.size) _ _ (by simp)).alloc _), (blk_new_at (w3.alloc (.cells #[.string S0.name, .slice A5 n5 c5, .int .i64 S0.key, .bool S0.only, .slice A6 n6 c6] 32)) (w3.heap.size + 1) _ _ (by simp))⟩
  rw [← hW_]
  clear hW_
  have hbw4 := Below.trans hbw3 (Below.mono hb4 hbw3.size)
  have hx4 := Below.trans hb3 (Below.mono hb4 hb3.size)
  refine (HPu.out 0 (some ⟨w.heap.size, 0, none⟩) 1 1 0 (some ⟨w3.heap.size + 1, 0, none⟩) 1 1 _ (hCs.ext hx4) ⟨Row.of_blk BR (Nat.zero_le _) 1 1 (Nat.le_refl _), rfl⟩ (by decide)).mono ?_
  rintro e w5 ⟨v, rfl, hT5, hb5⟩
  rw [put5] at hT5 ⊢
  obtain ⟨A7, n7, c7, A8, n8, c8, rfl, _, hR5, _⟩ := hT5
  obtain rfl : 1 = n8 := hR5.len
  have hx5 := Below.trans hx4 (Below.mono hb5 hx4.size)
  have q1 := fun o => five B1 (Below.trans hx5 ((Below.refl _ _).alloc hx5.size o))
  simp only [tabA]
  go_wp2
  go_ret
  exact ⟨rfl, (Below.trans hbw4 (Below.mono hb5 hbw4.size)).alloc (by have := hbw4.size; have := hb5.size; omega) _⟩
end Go.Proofs.Ytalfacbkofgdjaa.tb
