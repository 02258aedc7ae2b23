/- The walk of EvalMixed. -/
import Derived.Test.YtfgmlgflfagdjaaE14
namespace Go.Proofs.Ytfgmlgflfagdjaa.ev
open Go.ChangeShapes Go.WideShapes Go.ChangeAt Go.RowKit Go.Proofs.Ytfgmlgflfagdjaa.lib Go.Proofs.Ytfgmlgflfagdjaa.val
set_option linter.unusedVariables false

theorem below_from {B : Nat} {w w' : World} (h : Below B w w') : Below B w.drew w' := ⟨h.os, h.tape, h.output, h.size, h.block⟩
theorem KindB (es : List Nd) (p : Int × Int) (g N c : Nat) (C : Value) (w : World) (cs : Array Value) (hp : KindV (fun _ => (0, 0)) (fun _ => 0) es = p) (hN : es.length = N) (hb : Blk w g 36 cs) (hcs : cs.toList = cellsN es)
    (hc : ∀ n ∈ es, n.op ≠ 2 ∧ n.v.s.size ≤ maxLen) :
    Calls Try.prog 20 #[.slice (some ⟨g, 0, none⟩) N c, C] w fun e w' => e = .returned (two p) ∧ Below w.heap.size w w' :=
  Kindr es p _ N c w.heap.size C _ _ w w hp hN (Nat.le_refl _) (Below.refl _ _) (Nds.of_blk hb hcs) (fun n h => (hc n h).1) (fun n h => (hc n h).2)

def mixVs : List V := [nul, ⟨1, 1, ByteArray.empty⟩, ⟨2, 2, ByteArray.empty⟩, ⟨3, 0, ⟨#[120]⟩⟩]
def mixCs : Array Value := #[.int .i64 0, .int .i64 0, .string ⟨#[]⟩, .int .i64 1, .int .i64 1, .string ⟨#[]⟩, .int .i64 2, .int .i64 2, .string ⟨#[]⟩, .int .i64 3, .int .i64 0, .string ⟨#[120]⟩]
theorem mix_at (i : Nat) (v : V) (h : mixVs[i]? = some v) : mixCs[i * 3]? = some (.int .i64 v.k) ∧ mixCs[i * 3 + 1]? = some (.int .i64 v.n) ∧ mixCs[i * 3 + 2]? = some (.string v.s) ∧ v.k = i ∧ chk v.k v.n v.s = 0 ∧ v.s.size ≤ maxLen := by
  have hi : i < 4 := (List.getElem?_eq_some_iff.1 h).1
  have : i = 0 ∨ i = 1 ∨ i = 2 ∨ i = 3 := by omega
  rcases this with rfl | rfl | rfl | rfl <;> (injection h with h; subst h; exact ⟨rfl, rfl, rfl, rfl, by decide, by decide⟩)
/-- may the two stand there? -/
def MixF (o x y : Int) : Prop := (x = 0 ∨ y = 0 ∨ x = y) ∧ (o ≤ 7 → x ≤ 1 ∧ y ≤ 1) ∧ (14 ≤ o → x ≠ 1 ∧ x ≠ 3 ∧ y ≠ 1 ∧ y ≠ 3)
theorem mix_made (o x y : Int) (ho : 6 ≤ o ∧ o ≤ 16) (hx : 0 ≤ x ∧ x ≤ 3) (hy : 0 ≤ y ∧ y ≤ 3) :
    ∃ k er : Int, madeV o x y = (k, er) ∧ ((MixF o x y ∧ er = 0 ∧ (14 ≤ o ∧ k = 2 ∨ o < 14 ∧ k = 1)) ∨ (¬ MixF o x y ∧ er = 3 ∧ k = 0)) := by
  unfold madeV fitsV MixF
  rw [if_neg (by omega)]
  by_cases h14 : 14 ≤ o
  · rw [if_neg (show ¬ (8 ≤ o ∧ o ≤ 13) by omega), if_pos (show o = 4 ∨ 14 ≤ o from .inr h14)]
    by_cases hf : (x == 0 || x == 2) && (y == 0 || y == 2)
    · rw [if_pos hf]
      simp at hf
      exact ⟨2, 0, rfl, .inl ⟨by omega, rfl, .inl ⟨h14, rfl⟩⟩⟩
    · rw [if_neg hf]
      simp at hf
      exact ⟨0, 3, rfl, .inr ⟨by omega, rfl, rfl⟩⟩
  · rw [if_neg (show ¬ (o = 4 ∨ 14 ≤ o) by omega)]
    by_cases h8 : 8 ≤ o ∧ o ≤ 13
    · rw [if_pos h8]
      by_cases hx0 : x = 0
      · subst hx0
        rw [if_pos rfl, if_pos (by simp)]
        exact ⟨1, 0, rfl, .inl ⟨by omega, rfl, .inr ⟨by omega, rfl⟩⟩⟩
      · rw [if_neg hx0]
        by_cases hf : (x == 0 || x == x) && (y == 0 || y == x)
        · rw [if_pos hf]
          simp at hf
          exact ⟨1, 0, rfl, .inl ⟨by omega, rfl, .inr ⟨by omega, rfl⟩⟩⟩
        · rw [if_neg hf]
          simp at hf
          exact ⟨0, 3, rfl, .inr ⟨by omega, rfl, rfl⟩⟩
    · rw [if_neg h8]
      by_cases hf : (x == 0 || x == 1) && (y == 0 || y == 1)
      · rw [if_pos hf]
        simp at hf
        exact ⟨1, 0, rfl, .inl ⟨by omega, rfl, .inr ⟨by omega, rfl⟩⟩⟩
      · rw [if_neg hf]
        simp at hf
        exact ⟨0, 3, rfl, .inr ⟨by omega, rfl, rfl⟩⟩
theorem mix_kind (o : Int) (i j : Nat) (u v : V) (ho : 6 ≤ o ∧ o ≤ 16) (hu : mixVs[i]? = some u) (hv : mixVs[j]? = some v) (k er : Int) (h : madeV o i j = (k, er)) (hk0 : er ≠ 0 → k = 0) :
    KindV (fun _ => (0, 0)) (fun _ => 0) [nv u, nv v, nb o 0 1] = (k, er) := by
  obtain ⟨_, _, _, u1, u2, _⟩ := mix_at i u hu
  obtain ⟨_, _, _, v1, v2, _⟩ := mix_at j v hv
  have kv : ∀ (ks : List Int) (x : V), chk x.k x.n x.s = 0 → kindN (fun _ => (0, 0)) (fun _ => 0) ks (nv x) = (x.k, 0) := by
    intro ks x hx
    unfold kindN nv
    rw [if_neg (show ¬ partsV 1 = -1 by decide), if_pos rfl]
    exact Prod.ext rfl hx
  have kb : kindN (fun _ => (0, 0)) (fun _ => 0) [u.k, v.k] (nb o 0 1) = (k, er) := by
    have hp : partsV o = 2 := by unfold partsV; rw [if_neg (by omega), if_neg (by omega), if_pos (by omega)]
    unfold kindN nb
    simp only [hp]
    rw [if_neg (by decide), if_neg (by omega), if_neg (by omega), if_neg (by simp), if_neg (by omega), if_neg (by simp)]
    show madeV o u.k v.k = _
    rw [u1, v1, h]
  unfold KindV
  rw [if_neg (by simp)]
  simp only [kindsV, kv _ u u2, kv _ v v2, if_true, List.nil_append, List.cons_append, kb]
  by_cases he : er = 0
  · rw [if_pos he, he]; rfl
  · rw [if_neg he, hk0 he]

set_option maxRecDepth 1000000 in
set_option maxHeartbeats 8000000 in
theorem mixed_walk (op a b : Int) (w : World) (hop : ok64 op) (ha : ok64 a) (hb : ok64 b) :
    Calls Try.prog 9 #[.int .i64 op, .int .i64 a, .int .i64 b] w fun e w' => e = .returned (.bool true) ∧ Below w.heap.size w w' := by
  obtain ⟨m, hm, hm0, hm1⟩ : ∃ m : Int, op % 11 = m ∧ 0 ≤ m ∧ m ≤ 10 := ⟨_, rfl, by omega, by omega⟩
  obtain ⟨i, hi, hi3⟩ : ∃ i : Nat, a % 4 = i ∧ i < 4 := ⟨(a % 4).toNat, by omega, by omega⟩
  obtain ⟨j, hj, hj3⟩ : ∃ j : Nat, b % 4 = j ∧ j < 4 := ⟨(b % 4).toNat, by omega, by omega⟩
  have HM := Lib.hid hm
  have HI := Lib.hid hi
  have HJ := Lib.hid hj
  obtain ⟨k, er, hmd, hcase⟩ := mix_made (6 + m) i j (by omega) (by omega) (by omega)
  obtain ⟨⟨uk, un, us⟩, hu⟩ : ∃ u, mixVs[i]? = some u := ⟨_, List.getElem?_eq_getElem (show i < 4 from hi3)⟩
  obtain ⟨⟨vk, vn, vs⟩, hv⟩ : ∃ v, mixVs[j]? = some v := ⟨_, List.getElem?_eq_getElem (show j < 4 from hj3)⟩
  have HK := Lib.hid (mix_kind (6 + m) i j _ _ (by omega) hu hv k er hmd (fun h => by rcases hcase with ⟨_, h2, _⟩ | ⟨_, _, h2⟩; exact absurd h2 h; exact h2))
  have HU := Lib.hid (mix_at i _ hu)
  have HV := Lib.hid (mix_at j _ hv)
  have HCASE := Lib.hid hcase
  have HC := Lib.hid (show ∀ n ∈ [nv ⟨uk, un, us⟩, nv ⟨vk, vn, vs⟩, nb (6 + m) 0 1], n.op ≠ 2 ∧ n.v.s.size ≤ maxLen by
    intro n hn
    simp at hn
    rcases hn with rfl | rfl | rfl
    · exact ⟨show (1 : Int) ≠ 2 by decide, (mix_at i _ hu).2.2.2.2.2⟩
    · exact ⟨show (1 : Int) ≠ 2 by decide, (mix_at j _ hv).2.2.2.2.2⟩
    · exact ⟨show (6 + m : Int) ≠ 2 by omega, show ByteArray.empty.size ≤ maxLen by decide⟩)
  have hi4 : (i : Int) < 4 := by omega
  have hj4 : (j : Int) < 4 := by omega
  clear hm hi hj hmd hu hv hcase
  go_enter Try.func9, Try.ntmps9
  go_wp2_with fail
  refine (known _).mono ?_
  rintro e w1 ⟨rfl, hb1⟩
  go_wp2_with fail
  obtain ⟨W, hW_, hbW, B1⟩ : ∃ W_, W_ = (w1.alloc (.cells #[.int .i64 0, .int .i64 0, .string ⟨#[]⟩, .int .i64 1, .int .i64 1, .string ⟨#[]⟩, .int .i64 2, .int .i64 2, .string ⟨#[]⟩, .int .i64 3, .int .i64 0, .string ⟨#[120]⟩] 30)) ∧ Below w1.heap.size w1 W_ ∧ Blk W_ (w1.heap.size) 30 #[.int .i64 0, .int .i64 0, .string ⟨#[]⟩, .int .i64 1, .int .i64 1, .string ⟨#[]⟩, .int .i64 2, .int .i64 2, .string ⟨#[]⟩, .int .i64 3, .int .i64 0, .string ⟨#[120]⟩] :=
    ⟨_, rfl, ((Below.refl _ _).alloc (Nat.le_refl _) _), (blk_new_at w1 (w1.heap.size) _ _ (by simp))⟩
  rw [← hW_]
  clear hW_
  refine (withinr _ _ _ HM.out _ (by decide) (by decide) hop).mono ?_
  rintro e w2 ⟨rfl, rfl⟩
  go_wp2_with fail
  refine (withinr _ _ _ HI.out _ (by decide) (by decide) ha).mono ?_
  rintro e w2 ⟨rfl, rfl⟩
  go_wp2_with fail
  refine (withinr _ _ _ HJ.out _ (by decide) (by decide) hb).mono ?_
  rintro e w2 ⟨rfl, rfl⟩
  go_wp2_with fail
  have D := fun w' (h : Below W.heap.size W.drew w') => (show w'.cell? ⟨w1.heap.size, i * 3, none⟩ = some (.int .i64 uk) ∧ w'.cell? ⟨w1.heap.size, i * 3 + 1, none⟩ = some (.int .i64 un) ∧ w'.cell? ⟨w1.heap.size, i * 3 + 2, none⟩ = some (.string us) from
    ⟨((B1.ext (Below.trans (Below.refl _ _).drew h)).cell _).trans HU.out.1, ((B1.ext (Below.trans (Below.refl _ _).drew h)).cell _).trans HU.out.2.1, ((B1.ext (Below.trans (Below.refl _ _).drew h)).cell _).trans HU.out.2.2.1⟩)
  have D2 := fun w' (h : Below W.heap.size W.drew w') => (show w'.cell? ⟨w1.heap.size, j * 3, none⟩ = some (.int .i64 vk) ∧ w'.cell? ⟨w1.heap.size, j * 3 + 1, none⟩ = some (.int .i64 vn) ∧ w'.cell? ⟨w1.heap.size, j * 3 + 2, none⟩ = some (.string vs) from
    ⟨((B1.ext (Below.trans (Below.refl _ _).drew h)).cell _).trans HV.out.1, ((B1.ext (Below.trans (Below.refl _ _).drew h)).cell _).trans HV.out.2.1, ((B1.ext (Below.trans (Below.refl _ _).drew h)).cell _).trans HV.out.2.2.1⟩)
  refine wp_region_one [(0, true), (1, true), (2, true), (3, true), (4, true), (5, true), (6, true), (7, true), (8, true), (9, true), (10, true), (11, true), (12, false), (13, false), (14, true), (15, true), (16, true), (17, true), (18, true)] (by kernel_rfl) (by kernel_rfl) (by kernel_rfl) (by decide) ?_
  repeat ((with_reducible show wpPerm _ _ _ _ ((_, true) :: _) _ _); (first | (refine wpPerm_on (v := ?_) rfl rfl (wanted_free rfl) (fun w' hS => ?_) ?_; rotate_left; (focus (go_simp; (try with_reducible rfl); done)); try simp only [List.setIfInBounds_toArray, List.set_cons_zero, List.set_cons_succ]) | (refine wpPerm_on (v := ?_) rfl rfl (wanted_yes rfl rfl rfl) (fun w' hS => ?_) ?_; rotate_left; (focus (go_simp; (try with_reducible rfl); done)); try simp only [List.setIfInBounds_toArray, List.set_cons_zero, List.set_cons_succ]) | (refine wpPerm_off rfl rfl (wanted_no rfl rfl rfl) ?_; try simp only [List.setIfInBounds_toArray, List.set_cons_zero, List.set_cons_succ]) | (refine wpPerm_off rfl rfl (wanted_undef rfl rfl rfl) ?_; try simp only [List.setIfInBounds_toArray, List.set_cons_zero, List.set_cons_succ])))
  refine wpPerm_do rfl (wanted_free rfl) (fun K hK => ?_); go_simp
  refine hK.out _ _ (below_from ((Below.refl _ _).alloc (Nat.le_refl _) _).drew) ?_
  clear hK K
  obtain ⟨W2, hW2, BE, hbE⟩ : ∃ W2, W2 = (W.alloc (.cells #[.int .i64 1, .int .i64 0, .int .i64 0, .int .i64 uk, .int .i64 un, .string us, .string ⟨#[]⟩, .int .i64 1, .int .i64 0, .int .i64 0, .int .i64 vk, .int .i64 vn, .string vs, .string ⟨#[]⟩, .int .i64 (6 + m), .int .i64 0, .int .i64 1, .int .i64 0, .int .i64 0, .string ⟨#[]⟩, .string ⟨#[]⟩] 36)).drew ∧ Blk W2 W.heap.size 36 #[.int .i64 1, .int .i64 0, .int .i64 0, .int .i64 uk, .int .i64 un, .string us, .string ⟨#[]⟩, .int .i64 1, .int .i64 0, .int .i64 0, .int .i64 vk, .int .i64 vn, .string vs, .string ⟨#[]⟩, .int .i64 (6 + m), .int .i64 0, .int .i64 1, .int .i64 0, .int .i64 0, .string ⟨#[]⟩, .string ⟨#[]⟩] ∧ Below W.heap.size W W2 := ⟨_, rfl, Blk.new W _ _, ((Below.refl _ _).alloc (Nat.le_refl _) _).drew⟩
  rw [← hW2]
  clear hW2
  refine wpPerm_do rfl (wanted_free rfl) (fun K hK => ?_); go_simp
  refine (KindB [nv ⟨uk, un, us⟩, nv ⟨vk, vn, vs⟩, nb (6 + m) 0 1] (k, er) _ 3 3 _ W2 _ HK.out rfl BE rfl HC.out).mono ?_
  rintro e w3 ⟨rfl, hb3⟩
  unfold two
  refine hK.out _ _ (below_from (Below.trans hbE (Below.mono hb3 hbE.size))) ?_
  clear hK K
  repeat ((with_reducible show wpPerm _ _ _ _ ((_, true) :: _) _ _); (first | (refine wpPerm_on (v := ?_) rfl rfl (wanted_free rfl) (fun w' hS => ?_) ?_; rotate_left; (focus (go_simp; (try with_reducible rfl); done)); try simp only [List.setIfInBounds_toArray, List.set_cons_zero, List.set_cons_succ]) | (refine wpPerm_on (v := ?_) rfl rfl (wanted_yes rfl rfl rfl) (fun w' hS => ?_) ?_; rotate_left; (focus (go_simp; (try with_reducible rfl); done)); try simp only [List.setIfInBounds_toArray, List.set_cons_zero, List.set_cons_succ]) | (refine wpPerm_off rfl rfl (wanted_no rfl rfl rfl) ?_; try simp only [List.setIfInBounds_toArray, List.set_cons_zero, List.set_cons_succ]) | (refine wpPerm_off rfl rfl (wanted_undef rfl rfl rfl) ?_; try simp only [List.setIfInBounds_toArray, List.set_cons_zero, List.set_cons_succ])))
  refine wpPerm_done ?_
  clear D D2
  have hbF : Below w.heap.size w w3 := bch0 hb1 (bch0 hbW (bch0 hbE hb3))
  have hcase := HCASE.out
  unfold MixF at hcase
  have hx0 : (0 : Int) ≤ i := by omega
  have hy0 : (0 : Int) ≤ j := by omega
  obtain ⟨x, hx⟩ : ∃ x : Int, (i : Int) = x := ⟨_, rfl⟩
  obtain ⟨y, hy⟩ : ∃ y : Int, (j : Int) = y := ⟨_, rfl⟩
  rw [hx] at hcase hx0 hi4
  rw [hy] at hcase hy0 hj4
  rw [hx, hy]
  clear hx hy HK HU HV HC HCASE HI HJ BE hbE hb3 hbW B1 hb1
  have hxs : x = 0 ∨ x = 1 ∨ x = 2 ∨ x = 3 := by omega
  have hys : y = 0 ∨ y = 1 ∨ y = 2 ∨ y = 3 := by omega
  have hms : (m ≤ 1) ∨ (2 ≤ m ∧ m ≤ 7) ∨ 8 ≤ m := by omega
  rcases hcase with ⟨hf, rfl, hk⟩ | ⟨hf, rfl, rfl⟩
  · rcases hk with ⟨h14, rfl⟩ | ⟨h14, rfl⟩
    all_goals
      rcases hms with hms | ⟨hms, hms2⟩ | hms
      all_goals
        rcases hxs with rfl | rfl | rfl | rfl
        all_goals
          rcases hys with rfl | rfl | rfl | rfl
          all_goals
            first
              | (exfalso; omega)
              | (clear hf; go_wp2; go_ret; exact ⟨rfl, hbF⟩)
  · rcases hms with hms | ⟨hms, hms2⟩ | hms
    all_goals
      rcases hxs with rfl | rfl | rfl | rfl
      all_goals
        rcases hys with rfl | rfl | rfl | rfl
        all_goals
          first
            | (exfalso; omega)
            | (clear hf; go_wp2; go_ret; exact ⟨rfl, hbF⟩)
end Go.Proofs.Ytfgmlgflfagdjaa.ev
