/- Contract: law11's known. Plain: entries of rows that Fit made. -/
import Derived.Test.YtnlmbjmgmofeiaaI14
namespace Go.Proofs.Ytnlmbjmgmofeiaa.ix
open Go.ChangeShapes Go.WideShapes Go.ChangeAt Go.RowKit Go.Proofs.Ytnlmbjmgmofeiaa.lib Go.Proofs.Ytnlmbjmgmofeiaa.val Go.Proofs.Ytnlmbjmgmofeiaa.tb
set_option linter.unusedVariables false

theorem mem_foldN {col key : Nat} : ∀ (rows : List (List V)) (l : List En) {x : En}, x ∈ rows.foldl (fun es r => addN es (enR col key r)) l → x ∈ l ∨ ∃ r ∈ rows, x = enR col key r
  | [], l, x, h => .inl h
  | r :: rs, l, x, h => by
    rcases mem_foldN rs _ h with h | ⟨r', h1, h2⟩
    · rcases mem_addN h with h | h
      · exact .inr ⟨r, List.mem_cons_self, h⟩
      · exact .inl h
    · exact .inr ⟨r', List.mem_cons_of_mem _ h1, h2⟩
theorem mem_buildN {col key : Nat} {rows : List (List V)} {x : En} (h : x ∈ buildN col key rows) : ∃ r ∈ rows, x = enR col key r := by
  rcases mem_foldN rows [] h with h | h
  · cases h
  · exact h
set_option maxRecDepth 1000000 in
set_option maxHeartbeats 4000000 in
theorem known11_ (w : World) : Calls Try.prog 9 #[] w fun e w' => e = .returned (.bool true) ∧ Below w.heap.size w w' := by
  go_enter Try.func9, Try.ntmps9
  go_wp2_with fail
  obtain ⟨W, hW_, hbW, BC⟩ : ∃ W_, W_ = (w.alloc (.cells #[.string ⟨#[97]⟩, .int .i64 2, .bool false] 66)) ∧ Below w.heap.size w W_ ∧ Blk W_ (w.heap.size) 66 #[.string ⟨#[97]⟩, .int .i64 2, .bool false] :=
    ⟨_, rfl, ((Below.refl _ _).alloc (Nat.le_refl _) _), (blk_new_at w (w.heap.size) _ _ (by simp))⟩
  rw [← hW_]
  clear hW_
  refine (of_ ⟨⟨#[120]⟩, [], 0, false⟩ (some ⟨w.heap.size, 0, none⟩) 1 1 none 0 0 _).mono ?_
  rintro e w1 ⟨rfl, hb1⟩
  have hbw1 := Below.trans hbW (Below.mono hb1 hbW.size)
  simp only [tabA]
  go_wp2_with fail
  refine (build_ ⟨⟨#[120]⟩, [], 0, false⟩ [] 0 0 0 (some ⟨w.heap.size, 0, none⟩) 1 1 none 0 0 _ rfl (Rs.nil _ _) (by decide) (by simp)).mono ?_
  rintro e w2 ⟨g, ws, A, c, rfl, hx, hmap, hlo, hb2⟩
  have hbw2 := Below.trans hbw1 (Below.mono hb2 hbw1.size)
  obtain rfl : ws = [] := List.map_eq_nil_iff.1 hmap
  have HX := Lib.hid hx
  clear hx hmap
  go_wp2_with fail
  refine (len_ [] g (g + 1) 0 0 A c _ HX.out).mono ?_
  rintro e w3 ⟨rfl, rfl⟩
  go_wp2_with fail
  refine (keys_ [] ⟨0, 0, ⟨#[]⟩⟩ g (g + 1) 0 0 A c _ HX.out (by decide)).mono ?_
  rintro e w4 ⟨A2, c2, rfl, _, hb4⟩
  go_wp2
  go_ret
  exact ⟨rfl, Below.trans hbw2 (Below.mono hb4 hbw2.size)⟩
end Go.Proofs.Ytnlmbjmgmofeiaa.ix
