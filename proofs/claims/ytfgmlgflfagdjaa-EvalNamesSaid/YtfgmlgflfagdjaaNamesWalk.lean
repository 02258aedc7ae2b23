/- The walk of EvalNames. -/
import Derived.Test.YtfgmlgflfagdjaaC2
namespace Go.Proofs.Ytfgmlgflfagdjaa.ev
open Go.ChangeShapes Go.WideShapes Go.ChangeAt Go.RowKit Go.Proofs.Ytfgmlgflfagdjaa.lib Go.Proofs.Ytfgmlgflfagdjaa.val
set_option linter.unusedVariables false

def nmL : List ByteArray := [⟨#[97]⟩, ⟨#[116, 46, 97]⟩, ⟨#[99]⟩, ⟨#[117, 46, 99]⟩, ⟨#[98]⟩, ⟨#[116, 46, 98]⟩, ⟨#[117, 46, 98]⟩, ⟨#[122, 122]⟩, ⟨#[117, 46, 97]⟩, ⟨#[116, 46, 99]⟩, ⟨#[120, 46, 98]⟩]
def wantL : List Int := [2, 2, 1, 1, 0, 3, 3, 0, 0, 0, 0]
def nmCs : Array Value := #[.string ⟨#[97]⟩, .string ⟨#[116, 46, 97]⟩, .string ⟨#[99]⟩, .string ⟨#[117, 46, 99]⟩, .string ⟨#[98]⟩, .string ⟨#[116, 46, 98]⟩, .string ⟨#[117, 46, 98]⟩, .string ⟨#[122, 122]⟩, .string ⟨#[117, 46, 97]⟩, .string ⟨#[116, 46, 99]⟩, .string ⟨#[120, 46, 98]⟩]
def wantCs : Array Value := #[.int .i64 2, .int .i64 2, .int .i64 1, .int .i64 1, .int .i64 0, .int .i64 3, .int .i64 3, .int .i64 0, .int .i64 0, .int .i64 0, .int .i64 0]
def nc (s : ByteArray) : Nd := ⟨2, 0, 0, nul, s⟩
theorem names_at (i : Nat) (X : ByteArray) (v : Int) (hX : nmL[i]? = some X) (hv : wantL[i]? = some v) :
    nmCs[i]? = some (.string X) ∧ wantCs[i]? = some (.int .i64 v) ∧ X.size ≤ 10 ∧ ∃ kk er : Int, KindV colF colG [nc X] = (kk, er) ∧
      ((0 < v ∧ er = 0 ∧ kk = v) ∨ (v = 0 ∧ (X.data.toList == [98]) = true ∧ er = 12 ∧ kk = 0) ∨ (v = 0 ∧ (X.data.toList == [98]) = false ∧ er = 2 ∧ kk = 0)) := by
  have hi : i < 11 := (List.getElem?_eq_some_iff.1 hX).1
  have : i = 0 ∨ i = 1 ∨ i = 2 ∨ i = 3 ∨ i = 4 ∨ i = 5 ∨ i = 6 ∨ i = 7 ∨ i = 8 ∨ i = 9 ∨ i = 10 := by omega
  rcases this with rfl | rfl | rfl | rfl | rfl | rfl | rfl | rfl | rfl | rfl | rfl
  all_goals
    injection hX with hX
    injection hv with hv
    subst hX hv
    refine ⟨rfl, rfl, by decide, _, _, rfl, ?_⟩
    first
      | exact .inl ⟨by decide, by decide, by decide⟩
      | exact .inr (.inl ⟨by decide, by decide, by decide, by decide⟩)
      | exact .inr (.inr ⟨by decide, by decide, by decide, by decide⟩)

set_option maxRecDepth 1000000 in
set_option maxHeartbeats 8000000 in
theorem names_walk (which : Int) (w : World) (hw : ok64 which) :
    Calls Try.prog 7 #[.int .i64 which] w fun e w' => e = .returned (.bool true) ∧ Below w.heap.size w w' := by
  obtain ⟨i, hi, hi3⟩ : ∃ i : Nat, which % 11 = i ∧ i < 11 := ⟨(which % 11).toNat, by omega, by omega⟩
  have HI := Lib.hid hi
  have hi4 : (i : Int) < 11 := by omega
  obtain ⟨X, hX⟩ : ∃ X, nmL[i]? = some X := ⟨_, List.getElem?_eq_getElem (show i < 11 from hi3)⟩
  obtain ⟨v, hv⟩ : ∃ v, wantL[i]? = some v := ⟨_, List.getElem?_eq_getElem (show i < 11 from hi3)⟩
  obtain ⟨h1, h2, h3, kk, er, hk, hcase⟩ := names_at i X v hX hv
  have H1 := Lib.hid h1
  have H2 := Lib.hid h2
  have HK := Lib.hid hk
  have HCASE := Lib.hid hcase
  have HC := Lib.hid (show ∀ n ∈ [nc X], n.v.s.size ≤ maxLen ∧ n.s.size ≤ 100000 by
    intro n hn
    simp at hn
    subst hn
    exact ⟨show ByteArray.empty.size ≤ maxLen by decide, show X.size ≤ 100000 by omega⟩)
  clear hi hX hv h1 h2 hk hcase
  go_enter Try.func7, Try.ntmps7
  go_wp2_with fail
  refine (known _).mono ?_
  rintro e w1 ⟨rfl, hb1⟩
  go_wp2_with fail
  obtain ⟨W, hW_, hbW, B1, B2⟩ : ∃ W_, W_ = ((w1.alloc (.cells #[.string ⟨#[97]⟩, .string ⟨#[116, 46, 97]⟩, .string ⟨#[99]⟩, .string ⟨#[117, 46, 99]⟩, .string ⟨#[98]⟩, .string ⟨#[116, 46, 98]⟩, .string ⟨#[117, 46, 98]⟩, .string ⟨#[122, 122]⟩, .string ⟨#[117, 46, 97]⟩, .string ⟨#[116, 46, 99]⟩, .string ⟨#[120, 46, 98]⟩] 9)).alloc (.cells #[.int .i64 2, .int .i64 2, .int .i64 1, .int .i64 1, .int .i64 0, .int .i64 3, .int .i64 3, .int .i64 0, .int .i64 0, .int .i64 0, .int .i64 0] 3)) ∧ Below w1.heap.size w1 W_ ∧ Blk W_ (w1.heap.size) 9 #[.string ⟨#[97]⟩, .string ⟨#[116, 46, 97]⟩, .string ⟨#[99]⟩, .string ⟨#[117, 46, 99]⟩, .string ⟨#[98]⟩, .string ⟨#[116, 46, 98]⟩, .string ⟨#[117, 46, 98]⟩, .string ⟨#[122, 122]⟩, .string ⟨#[117, 46, 97]⟩, .string ⟨#[116, 46, 99]⟩, .string ⟨#[120, 46, 98]⟩] ∧ Blk W_ (w1.heap.size + 1) 3 #[.int .i64 2, .int .i64 2, .int .i64 1, .int .i64 1, .int .i64 0, .int .i64 3, .int .i64 3, .int .i64 0, .int .i64 0, .int .i64 0, .int .i64 0] :=
    ⟨_, rfl, (((Below.refl _ _).alloc (Nat.le_refl _) _).alloc (by simp; try omega) _), ((blk_new_at w1 (w1.heap.size) _ _ (by simp)).alloc _), (blk_new_at (w1.alloc (.cells #[.string ⟨#[97]⟩, .string ⟨#[116, 46, 97]⟩, .string ⟨#[99]⟩, .string ⟨#[117, 46, 99]⟩, .string ⟨#[98]⟩, .string ⟨#[116, 46, 98]⟩, .string ⟨#[117, 46, 98]⟩, .string ⟨#[122, 122]⟩, .string ⟨#[117, 46, 97]⟩, .string ⟨#[116, 46, 99]⟩, .string ⟨#[120, 46, 98]⟩] 9)) (w1.heap.size + 1) _ _ (by simp))⟩
  rw [← hW_]
  clear hW_
  refine (withinr _ _ _ HI.out _ (by decide) (by decide) hw).mono ?_
  rintro e w2 ⟨rfl, rfl⟩
  go_wp2_with fail
  have D := fun w' (h : Below W.heap.size W.drew w') => (show w'.cell? ⟨w1.heap.size, i, none⟩ = some (.string X) from ((B1.ext (Below.trans (Below.refl _ _).drew h)).cell i).trans H1.out)
  refine wp_region_mix1 ⟨5, 22, fun g => .slice (some ⟨g, 0, none⟩) 1 1, .cells #[.int .i64 2, .int .i64 0, .int .i64 0, .int .i64 0, .int .i64 0, .string ⟨#[]⟩, .string X] 36⟩
    [(0, true), (1, true), (2, true), (3, true), (4, true)] [(6, false)] [(7, false), (8, true), (9, true), (10, true), (11, true), (12, true)] (by kernel_rfl) (by kernel_rfl) ?_
  repeat ((with_reducible show wpI _ _ _ _ _ ((_, true) :: _) _ _); (first | (refine wpI_on (v := ?_) rfl rfl (wanted_free rfl) (fun w' hS => ?_) ?_; rotate_left; (focus (go_simp; (try with_reducible rfl); done)); try simp only [Act.put, List.setIfInBounds_toArray, List.set_cons_zero, List.set_cons_succ]) | (refine wpI_on (v := ?_) rfl rfl (wanted_yes rfl rfl rfl) (fun w' hS => ?_) ?_; rotate_left; (focus (go_simp; (try with_reducible rfl); done)); try simp only [Act.put, List.setIfInBounds_toArray, List.set_cons_zero, List.set_cons_succ]) | (refine wpI_off rfl rfl (wanted_no rfl rfl rfl) ?_; try simp only [Act.put, List.setIfInBounds_toArray, List.set_cons_zero, List.set_cons_succ]) | (refine wpI_off rfl rfl (wanted_undef rfl rfl rfl) ?_; try simp only [Act.put, List.setIfInBounds_toArray, List.set_cons_zero, List.set_cons_succ])))
  refine wpI_done ⟨?_, ?_⟩
  · intro t ht
    simp only [List.mem_cons, List.not_mem_nil, or_false] at ht
    subst ht
    exact ⟨_, rfl, rfl, wanted_free rfl, fun w => by go_simp⟩
  clear D
  refine wpI_do rfl (wanted_free rfl) (fun wI hI hSI K hK => ?_); go_simp
  refine (cols_ _).mono ?_
  rintro e w3 ⟨g, rfl, hcl, hlo, hb3⟩
  refine hK.out _ _ hb3 ?_
  clear hK K
  refine wpI_done ?_
  intro g1 wf he hb hlo1 hhi1 hat1
  simp only [List.setIfInBounds_toArray, List.set_cons_zero, List.set_cons_succ]
  have BE : Blk wf g1 36 #[.int .i64 2, .int .i64 0, .int .i64 0, .int .i64 0, .int .i64 0, .string ⟨#[]⟩, .string X] := hat1
  clear hat1
  refine wpPerm_do rfl (wanted_free rfl) (fun K hK => ?_); go_simp
  refine (KindC [nc X] (kk, er) g1 1 1 g _ _ HK.out rfl BE rfl (hcl.ext he) HC.out).mono ?_
  rintro e w5 ⟨rfl, hb5⟩
  unfold two
  have hbA : Below W.heap.size W.drew w5 := Below.trans hb (Below.mono hb5 hb.size)
  refine hK.out _ _ hbA ?_
  clear hK K
  repeat ((with_reducible show wpPerm _ _ _ _ ((_, true) :: _) _ _); (first | (refine wpPerm_on (v := ?_) rfl rfl (wanted_free rfl) (fun w' hS => ?_) ?_; rotate_left; (focus (go_simp; (try with_reducible rfl); done)); try simp only [Act.put, List.setIfInBounds_toArray, List.set_cons_zero, List.set_cons_succ]) | (refine wpPerm_on (v := ?_) rfl rfl (wanted_yes rfl rfl rfl) (fun w' hS => ?_) ?_; rotate_left; (focus (go_simp; (try with_reducible rfl); done)); try simp only [Act.put, List.setIfInBounds_toArray, List.set_cons_zero, List.set_cons_succ]) | (refine wpPerm_off rfl rfl (wanted_no rfl rfl rfl) ?_; try simp only [Act.put, List.setIfInBounds_toArray, List.set_cons_zero, List.set_cons_succ]) | (refine wpPerm_off rfl rfl (wanted_undef rfl rfl rfl) ?_; try simp only [Act.put, List.setIfInBounds_toArray, List.set_cons_zero, List.set_cons_succ])))
  refine wpPerm_done ?_
  have hbB : Below W.heap.size W w5 := Below.trans (Below.refl _ _).drew hbA
  have qn : w5.cell? ⟨w1.heap.size, i, none⟩ = some (.string X) := ((B1.ext hbB).cell i).trans H1.out
  have qw : w5.cell? ⟨w1.heap.size + 1, i, none⟩ = some (.int .i64 v) := ((B2.ext hbB).cell i).trans H2.out
  have hbF : Below w.heap.size w w5 := bch0 hb1 (bch0 hbW hbB)
  clear BE hbA hb5 hb hcl he HK
  rcases HCASE.out with ⟨h1, rfl, rfl⟩ | ⟨rfl, h1, rfl, rfl⟩ | ⟨rfl, h1, rfl, rfl⟩
  · go_wp2
    go_ret
    exact ⟨rfl, hbF⟩
  · have hx : (X.toList == [98]) = true := by rw [ByteArray.toList_eq]; exact h1
    clear h1
    go_wp2
    go_ret
    exact ⟨rfl, hbF⟩
  · have hx : (X.toList == [98]) = false := by rw [ByteArray.toList_eq]; exact h1
    clear h1
    go_wp2
    go_ret
    exact ⟨rfl, hbF⟩
end Go.Proofs.Ytfgmlgflfagdjaa.ev
