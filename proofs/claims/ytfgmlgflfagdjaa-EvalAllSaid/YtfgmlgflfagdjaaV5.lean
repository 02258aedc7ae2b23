/- Contract: the law's Expr: it answers a text of at most some hundred bytes. Printed by genv5.py. -/
import Derived.Test.YtfgmlgflfagdjaaV3
import Derived.Test.YtfgmlgflfagdjaaArg
import Derived.Deep.CutBlock
namespace Go.Proofs.Ytfgmlgflfagdjaa.ev
open Go.ChangeShapes Go.WideShapes Go.ChangeAt Go.RowKit Go.Proofs.Ytfgmlgflfagdjaa.lib Go.Proofs.Ytfgmlgflfagdjaa.val
set_option linter.unusedVariables false

theorem within18 (a n : Int) (w : World) (hn : 1 ≤ n) (hn2 : n ≤ 2000000000000) (ha : ok64 a) :
    Calls Try.prog 34 #[.int .i64 a, .int .i64 n] w fun e w' => e = .returned (.int .i64 (a % n)) ∧ w = w' := by
  obtain ⟨ha, hb⟩ := ha
  have h0 : (n == 0) = false := by simp; omega
  have h1 := Int.emod_nonneg a (by omega : n ≠ 0)
  have h2 := Int.emod_lt_of_pos a (by omega : 0 < n)
  go_enter Try.func34, Try.ntmps34
  go_wp2
  · have h := tmod_pos a n hn (by assumption)
    go_ret
    exact ⟨ret_int (by simp [h]; exact IntWalk.wrap64_in _ ⟨by omega, by omega⟩), rfl⟩
  · have h := tmod_nn a n hn (by assumption)
    go_ret
    exact ⟨ret_int (by simp [h]), rfl⟩
theorem kwrap_ok (x : Int) : ok64 (IntKind.i64.wrap x) := by unfold ok64; simp [IntKind.wrap, IntKind.bits, IntKind.signed]; omega
def SomeI (n : Nat) (w : World) (e : Ending) (w' : World) : Prop := ∃ m : Nat, m < n ∧ e = .returned (.int .i64 m) ∧ w = w'
theorem within18n (a : Int) (n : Nat) (w : World) (hn : 1 ≤ n) (hn2 : n ≤ 1000) (ha : ok64 a) :
    Calls Try.prog 34 #[.int .i64 a, .int .i64 n] w (SomeI n w) := by
  refine (within18 a n w (by omega) (by omega) ha).mono ?_
  rintro e w' ⟨rfl, rfl⟩
  have h1 := Int.emod_nonneg a (by omega : (n : Int) ≠ 0)
  have h2 := Int.emod_lt_of_pos a (by omega : 0 < (n : Int))
  exact ⟨(a % n).toNat, by omega, by rw [Int.toNat_of_nonneg h1], rfl⟩
/-- texts in a row -/
def strV (ss : List ByteArray) : List Value := ss.map Value.string
theorem strV_at {ss : List ByteArray} {i : Nat} {s : ByteArray} (h : ss[i]? = some s) : (strV ss)[i]? = some (.string s) := by unfold strV; rw [List.getElem?_map, h]; rfl
theorem strV_snoc (ss : List ByteArray) (s : ByteArray) : strV (ss ++ [s]) = strV ss ++ [.string s] := by simp [strV]
theorem own_strs {w : World} {base e n : Nat} {v : Value} {ss : List ByteArray} (h : w.ownsRow base e 1 v n (strV ss)) (hn : 0 < n) : ∃ g c, v = .slice (some ⟨g, 0, none⟩) n c ∧ g < w.heap.size ∧ ∀ (i : Nat) s, ss[i]? = some s → w.cell? ⟨g, i, none⟩ = some (.string s) := by
  obtain ⟨g, cap, rfl, _, hlt⟩ := h.form hn
  refine ⟨g, cap, rfl, hlt, fun i s hs => ?_⟩
  have := h.cells (g := g) rfl i _ (strV_at hs)
  rw [Addr.add_lit, Nat.zero_add] at this
  exact this
def first6 : List ByteArray := [⟨#[49]⟩, ⟨#[97]⟩, ⟨#[116, 114, 117, 101]⟩, ⟨#[110, 117, 108, 108]⟩, ⟨#[39, 120, 39]⟩, ⟨#[116, 46, 98]⟩]
theorem own_first (w : World) (e : TypeId) : (w.alloc (.cells #[.string ⟨#[49]⟩, .string ⟨#[97]⟩, .string ⟨#[116, 114, 117, 101]⟩, .string ⟨#[110, 117, 108, 108]⟩, .string ⟨#[39, 120, 39]⟩, .string ⟨#[116, 46, 98]⟩] e)).ownsRow w.heap.size e 1 (.slice (some ⟨w.heap.size, 0, none⟩) 6 6) 6 (strV first6) :=
  ⟨rfl, .inr ⟨w.heap.size, 6, _, rfl, Nat.le_refl _, heap_alloc_new w _, Nat.le_refl _, by decide, rfl, rfl⟩⟩
def TextP (w : World) (e : Ending) (w' : World) : Prop := ∃ s : ByteArray, s.size ≤ 300 ∧ e = .returned (.string s) ∧ Below w.heap.size w w'
theorem get_some {α : Type} {l : List α} {n i : Nat} (hl : l.length = n) (hi : i < n) : ∃ x, l[i]? = some x := ⟨_, List.getElem?_eq_getElem (by rw [hl]; exact hi)⟩
theorem ok_div {a b : Int} (h : ok64 a) (hb : 1 ≤ b) : ok64 (a.tdiv b) := by
  unfold ok64 at *
  have h1 : (a.tdiv b).natAbs ≤ a.natAbs := by rw [Int.natAbs_tdiv]; exact Nat.div_le_self _ _
  rcases (show a < 0 ∨ 0 ≤ a by omega) with h0 | h0
  · have : a.tdiv b ≤ 0 := by
      have := Int.tdiv_nonneg (a := -a) (b := b) (by omega) (by omega)
      rw [Int.neg_tdiv] at this
      omega
    omega
  · have := Int.tdiv_nonneg (a := a) (b := b) (by omega) (by omega)
    omega
set_option maxRecDepth 1000000 in
set_option maxHeartbeats 8000000 in
theorem text18_ (A : Option Addr) (n c : Nat) (zs : List Int) (w : World) (hzs : Ints w A zs) (hn : zs.length = n) (hnm : n ≤ maxLen) (hz : ∀ z ∈ zs, -9223372036854775808 ≤ z ∧ z ≤ 9223372036854775807) :
    Calls Try.prog 16 #[.slice A n c] w (TextP w) := by
  unfold maxLen at hnm
  have HN := Lib.hid hn
  have HZ := Lib.hid hz
  have HI := Lib.hid hzs
  clear hn hz hzs
  obtain ⟨i0, hi, hz0, hz1, hz2⟩ := info_parts (P := Try.prog) (e := 9) (z := .string ⟨#[]⟩) (size := 1) (bytes := 16) (by kernel_rfl)
  have hu : Try.prog.underlying 38 = some (.slice 9) := by kernel_rfl
  go_enter Try.func16, Try.ntmps16
  go_wp2
  go_loopw [3, 4] (fun l i wr => ∃ (k : Nat) (ss : List ByteArray), k ≤ n ∧ k ≤ 12 ∧ i = .int .i64 k ∧ ss.length = 6 + k ∧ (∀ s ∈ ss, s.size ≤ 120) ∧ wr.ownsRow w.heap.size 9 1 l (6 + k) (strV ss) ∧ Below w.heap.size w wr) (fun _ i _ => n - (intOf i).toNat)
  case atStart => exact ⟨0, first6, by omega, by omega, rfl, rfl, by decide, own_first w _, (Below.refl _ _).alloc (Nat.le_refl _) _⟩
  case round =>
    obtain ⟨k, ss, hkn, hk12, rfl, hsl, hsz, hown, hb⟩ := hrel
    obtain ⟨m, hm⟩ : ∃ m, 6 + k = m := ⟨_, rfl⟩
    rw [hm] at hsl hown
    have hm1 : 6 ≤ m := by omega
    have hm2 : m ≤ 18 := by omega
    have HM := Lib.hid hm
    clear hm
    have HSL := Lib.hid hsl
    have HSZ := Lib.hid hsz
    clear hsl hsz
    obtain ⟨gl, cl, rfl, hgl, hcells⟩ := own_strs hown (by omega)
    have HC := Lib.hid hcells
    clear hcells
    by_cases hgo : k < n ∧ k < 12
    case neg =>
      have hx : (decide ((k : Int) < (n : Int)) = false ∧ decide (k < n) = false) ∨ decide ((k : Int) < (n : Int)) = true ∧ decide (k < n) = true ∧ decide ((k : Int) < 12) = false ∧ decide (k < 12) = false := by
        by_cases h : k < n
        · exact .inr ⟨by simp; omega, by simp; omega, by simp; omega, by simp; omega⟩
        · exact .inl ⟨by simp; omega, by simp; omega⟩
      obtain ⟨s, hs⟩ := get_some HSL.out (show m - 1 < m by omega)
      have q := HC.out _ s hs
      have hss := HSZ.out s (List.mem_of_getElem? hs)
      clear hs hgo
      rcases hx with ⟨hd, hd1⟩ | ⟨hd, hd1, hd2, hd3⟩
      · go_wp2
        go_ret
        exact ⟨s, by omega, rfl, hb⟩
      · go_wp2
        go_ret
        exact ⟨s, by omega, rfl, hb⟩
    obtain ⟨hlt, h12⟩ := hgo
    have hd : decide ((k : Int) < (n : Int)) = true := by simp; omega
    have hd2 : decide ((k : Int) < 12) = true := by simp; omega
    have hkn2 : (k : Int) < (n : Int) := by omega
    obtain ⟨b, off, rfl, hlb, hcell⟩ := HI.out (by rw [HN.out]; omega)
    obtain ⟨z, hz⟩ := get_some HN.out hlt
    have hz64 : ok64 z := HZ.out z (List.mem_of_getElem? hz)
    have qz : ∀ w', Below wr.heap.size wr w' → w'.cell? ⟨b, off + k, none⟩ = some (.int .i64 z) := fun w' h => ((Below.trans hb (Below.mono h hb.size)).cell (by exact hlb)).trans (hcell k z hz)
    have hd32 := ok_div hz64 (show (1 : Int) ≤ 32 by omega)
    have hd1k := ok_div hz64 (show (1 : Int) ≤ 1024 by omega)
    clear hz hcell
    have D := fun w' (h : Below wr.heap.size wr.drew w') => qz w' (Below.trans (Below.refl _ _).drew h)
    go_wp2_with fail
    refine wp_region_one [(0, true), (1, true), (2, true), (3, true), (4, true), (5, true), (6, true), (7, true), (11, true), (12, true), (13, true), (14, true), (15, true), (16, true), (17, true), (18, true), (8, false), (9, true), (10, true), (19, false), (20, true), (21, true), (22, true), (23, true)] (by kernel_rfl) (by kernel_rfl) (by kernel_rfl) (by decide) ?_
    repeat ((with_reducible show wpPerm _ _ _ _ ((_, true) :: _) _ _); (first | (refine wpPerm_on (v := ?_) rfl rfl (wanted_free rfl) (fun w' hS => ?_) ?_; rotate_left; (focus (go_simp; (try with_reducible rfl); done)); try simp only [List.setIfInBounds_toArray, List.set_cons_zero, List.set_cons_succ]) | (refine wpPerm_on (v := ?_) rfl rfl (wanted_yes rfl rfl rfl) (fun w' hS => ?_) ?_; rotate_left; (focus (go_simp; (try with_reducible rfl); done)); try simp only [List.setIfInBounds_toArray, List.set_cons_zero, List.set_cons_succ]) | (refine wpPerm_off rfl rfl (wanted_no rfl rfl rfl) ?_; try simp only [List.setIfInBounds_toArray, List.set_cons_zero, List.set_cons_succ]) | (refine wpPerm_off rfl rfl (wanted_undef rfl rfl rfl) ?_; try simp only [List.setIfInBounds_toArray, List.set_cons_zero, List.set_cons_succ])))
    refine wpPerm_do rfl (wanted_free rfl) (fun K hK => ?_); go_simp
    refine (within18n _ m _ (by omega) (by omega) (by exact kwrap_ok _)).mono ?_
    rintro e w3 ⟨a, ham, rfl, rfl⟩
    obtain ⟨p, hp⟩ := get_some HSL.out ham
    have hps := HSZ.out p (List.mem_of_getElem? hp)
    have hqp : wr.drew.cell? ⟨gl, a, none⟩ = some (.string p) := HC.out a p hp
    have ham2 : (a : Int) < (m : Int) := by omega
    have DP := fun w' (h : Below wr.heap.size wr.drew w') => (h.cell (p := ⟨gl, a, none⟩) (by exact hgl)).trans hqp
    clear hp hqp
    refine hK.out _ _ (Below.refl _ _) ?_
    clear hK K
    repeat ((with_reducible show wpPerm _ _ _ _ ((_, true) :: _) _ _); (first | (refine wpPerm_on (v := ?_) rfl rfl (wanted_free rfl) (fun w' hS => ?_) ?_; rotate_left; (focus (go_simp; (try with_reducible rfl); done)); try simp only [List.setIfInBounds_toArray, List.set_cons_zero, List.set_cons_succ]) | (refine wpPerm_on (v := ?_) rfl rfl (wanted_yes rfl rfl rfl) (fun w' hS => ?_) ?_; rotate_left; (focus (go_simp; (try with_reducible rfl); done)); try simp only [List.setIfInBounds_toArray, List.set_cons_zero, List.set_cons_succ]) | (refine wpPerm_off rfl rfl (wanted_no rfl rfl rfl) ?_; try simp only [List.setIfInBounds_toArray, List.set_cons_zero, List.set_cons_succ]) | (refine wpPerm_off rfl rfl (wanted_undef rfl rfl rfl) ?_; try simp only [List.setIfInBounds_toArray, List.set_cons_zero, List.set_cons_succ])))
    refine wpPerm_do rfl (wanted_free rfl) (fun K hK => ?_); go_simp
    refine (within18n _ m _ (by omega) (by omega) (by exact kwrap_ok _)).mono ?_
    rintro e w3 ⟨a2, ham3, rfl, rfl⟩
    obtain ⟨p2, hp⟩ := get_some HSL.out ham3
    have hps2 := HSZ.out p2 (List.mem_of_getElem? hp)
    have hqp : wr.drew.cell? ⟨gl, a2, none⟩ = some (.string p2) := HC.out a2 p2 hp
    have ham4 : (a2 : Int) < (m : Int) := by omega
    have DP2 := fun w' (h : Below wr.heap.size wr.drew w') => (h.cell (p := ⟨gl, a2, none⟩) (by exact hgl)).trans hqp
    clear hp hqp
    refine hK.out _ _ (Below.refl _ _) ?_
    clear hK K
    repeat ((with_reducible show wpPerm _ _ _ _ ((_, true) :: _) _ _); (first | (refine wpPerm_on (v := ?_) rfl rfl (wanted_free rfl) (fun w' hS => ?_) ?_; rotate_left; (focus (go_simp; (try with_reducible rfl); done)); try simp only [List.setIfInBounds_toArray, List.set_cons_zero, List.set_cons_succ]) | (refine wpPerm_on (v := ?_) rfl rfl (wanted_yes rfl rfl rfl) (fun w' hS => ?_) ?_; rotate_left; (focus (go_simp; (try with_reducible rfl); done)); try simp only [List.setIfInBounds_toArray, List.set_cons_zero, List.set_cons_succ]) | (refine wpPerm_off rfl rfl (wanted_no rfl rfl rfl) ?_; try simp only [List.setIfInBounds_toArray, List.set_cons_zero, List.set_cons_succ]) | (refine wpPerm_off rfl rfl (wanted_undef rfl rfl rfl) ?_; try simp only [List.setIfInBounds_toArray, List.set_cons_zero, List.set_cons_succ])))
    refine wpPerm_done ?_
    clear D DP DP2 ham ham2 ham3 ham4
    have hbd := (Below.refl wr.heap.size wr).drew
    have hownd := own_ext hown hbd
    generalize hwd : wr.drew = wd at *
    have qz2 := qz wd hbd
    have x1 : ((⟨#[40]⟩ : ByteArray) ++ p).size ≤ 121 := by have h0 : (⟨#[40]⟩ : ByteArray).size = 1 := rfl; rw [ByteArray.size_append]; omega
    have x2 : ((⟨#[40]⟩ : ByteArray) ++ p ++ (⟨#[41]⟩ : ByteArray)).size ≤ 122 := by have h0 : (⟨#[41]⟩ : ByteArray).size = 1 := rfl; rw [ByteArray.size_append]; omega
    go_wp2_with fail
    refine (within18n _ 16 _ (by omega) (by omega) hz64).mono ?_
    rintro e w3 ⟨t, ht, rfl, rfl⟩
    clear x1 qz2
    go_upto_block 2 with fail
    go_cut [7] from 50 to 84 (fun s wx => ∃ u : ByteArray, s = .string u ∧ u.size ≤ 250 ∧ Below wd.heap.size wd wx)
    case first =>
      rcases (show t = 0 ∨ t = 1 ∨ t = 2 ∨ t = 3 ∨ t = 4 ∨ t = 5 ∨ t = 6 ∨ t = 7 ∨ t = 8 ∨ t = 9 ∨ t = 10 ∨ t = 11 ∨ t = 12 ∨ t = 13 ∨ t = 14 ∨ t = 15 by omega) with rfl | rfl | rfl | rfl | rfl | rfl | rfl | rfl | rfl | rfl | rfl | rfl | rfl | rfl | rfl | rfl
      · have y1 : (p ++ (⟨#[32]⟩ : ByteArray)).size ≤ 121 := by have h1 : (⟨#[32]⟩ : ByteArray).size = 1 := rfl; rw [ByteArray.size_append]; omega
        have y2 : ((p ++ (⟨#[32]⟩ : ByteArray)) ++ (⟨#[111, 114]⟩ : ByteArray)).size ≤ 123 := by have h1 : (⟨#[111, 114]⟩ : ByteArray).size = 2 := rfl; rw [ByteArray.size_append]; omega
        have y3 : (((p ++ (⟨#[32]⟩ : ByteArray)) ++ (⟨#[111, 114]⟩ : ByteArray)) ++ (⟨#[32]⟩ : ByteArray)).size ≤ 124 := by have h1 : (⟨#[32]⟩ : ByteArray).size = 1 := rfl; rw [ByteArray.size_append]; omega
        have y4 : ((((p ++ (⟨#[32]⟩ : ByteArray)) ++ (⟨#[111, 114]⟩ : ByteArray)) ++ (⟨#[32]⟩ : ByteArray)) ++ p2).size ≤ 244 := by rw [ByteArray.size_append]; omega
        go_wp2_with fail
        go_meet
        exact ⟨_, rfl, by omega, by first | exact Below.refl _ _ | exact (Below.refl _ _).alloc (Nat.le_refl _) _⟩
      · have y1 : (p ++ (⟨#[32]⟩ : ByteArray)).size ≤ 121 := by have h1 : (⟨#[32]⟩ : ByteArray).size = 1 := rfl; rw [ByteArray.size_append]; omega
        have y2 : ((p ++ (⟨#[32]⟩ : ByteArray)) ++ (⟨#[97, 110, 100]⟩ : ByteArray)).size ≤ 124 := by have h1 : (⟨#[97, 110, 100]⟩ : ByteArray).size = 3 := rfl; rw [ByteArray.size_append]; omega
        have y3 : (((p ++ (⟨#[32]⟩ : ByteArray)) ++ (⟨#[97, 110, 100]⟩ : ByteArray)) ++ (⟨#[32]⟩ : ByteArray)).size ≤ 125 := by have h1 : (⟨#[32]⟩ : ByteArray).size = 1 := rfl; rw [ByteArray.size_append]; omega
        have y4 : ((((p ++ (⟨#[32]⟩ : ByteArray)) ++ (⟨#[97, 110, 100]⟩ : ByteArray)) ++ (⟨#[32]⟩ : ByteArray)) ++ p2).size ≤ 245 := by rw [ByteArray.size_append]; omega
        go_wp2_with fail
        go_meet
        exact ⟨_, rfl, by omega, by first | exact Below.refl _ _ | exact (Below.refl _ _).alloc (Nat.le_refl _) _⟩
      · have y1 : (p ++ (⟨#[32]⟩ : ByteArray)).size ≤ 121 := by have h1 : (⟨#[32]⟩ : ByteArray).size = 1 := rfl; rw [ByteArray.size_append]; omega
        have y2 : ((p ++ (⟨#[32]⟩ : ByteArray)) ++ (⟨#[61]⟩ : ByteArray)).size ≤ 122 := by have h1 : (⟨#[61]⟩ : ByteArray).size = 1 := rfl; rw [ByteArray.size_append]; omega
        have y3 : (((p ++ (⟨#[32]⟩ : ByteArray)) ++ (⟨#[61]⟩ : ByteArray)) ++ (⟨#[32]⟩ : ByteArray)).size ≤ 123 := by have h1 : (⟨#[32]⟩ : ByteArray).size = 1 := rfl; rw [ByteArray.size_append]; omega
        have y4 : ((((p ++ (⟨#[32]⟩ : ByteArray)) ++ (⟨#[61]⟩ : ByteArray)) ++ (⟨#[32]⟩ : ByteArray)) ++ p2).size ≤ 243 := by rw [ByteArray.size_append]; omega
        go_wp2_with fail
        go_meet
        exact ⟨_, rfl, by omega, by first | exact Below.refl _ _ | exact (Below.refl _ _).alloc (Nat.le_refl _) _⟩
      · have y1 : (p ++ (⟨#[32]⟩ : ByteArray)).size ≤ 121 := by have h1 : (⟨#[32]⟩ : ByteArray).size = 1 := rfl; rw [ByteArray.size_append]; omega
        have y2 : ((p ++ (⟨#[32]⟩ : ByteArray)) ++ (⟨#[60, 62]⟩ : ByteArray)).size ≤ 123 := by have h1 : (⟨#[60, 62]⟩ : ByteArray).size = 2 := rfl; rw [ByteArray.size_append]; omega
        have y3 : (((p ++ (⟨#[32]⟩ : ByteArray)) ++ (⟨#[60, 62]⟩ : ByteArray)) ++ (⟨#[32]⟩ : ByteArray)).size ≤ 124 := by have h1 : (⟨#[32]⟩ : ByteArray).size = 1 := rfl; rw [ByteArray.size_append]; omega
        have y4 : ((((p ++ (⟨#[32]⟩ : ByteArray)) ++ (⟨#[60, 62]⟩ : ByteArray)) ++ (⟨#[32]⟩ : ByteArray)) ++ p2).size ≤ 244 := by rw [ByteArray.size_append]; omega
        go_wp2_with fail
        go_meet
        exact ⟨_, rfl, by omega, by first | exact Below.refl _ _ | exact (Below.refl _ _).alloc (Nat.le_refl _) _⟩
      · have y1 : (p ++ (⟨#[32]⟩ : ByteArray)).size ≤ 121 := by have h1 : (⟨#[32]⟩ : ByteArray).size = 1 := rfl; rw [ByteArray.size_append]; omega
        have y2 : ((p ++ (⟨#[32]⟩ : ByteArray)) ++ (⟨#[60]⟩ : ByteArray)).size ≤ 122 := by have h1 : (⟨#[60]⟩ : ByteArray).size = 1 := rfl; rw [ByteArray.size_append]; omega
        have y3 : (((p ++ (⟨#[32]⟩ : ByteArray)) ++ (⟨#[60]⟩ : ByteArray)) ++ (⟨#[32]⟩ : ByteArray)).size ≤ 123 := by have h1 : (⟨#[32]⟩ : ByteArray).size = 1 := rfl; rw [ByteArray.size_append]; omega
        have y4 : ((((p ++ (⟨#[32]⟩ : ByteArray)) ++ (⟨#[60]⟩ : ByteArray)) ++ (⟨#[32]⟩ : ByteArray)) ++ p2).size ≤ 243 := by rw [ByteArray.size_append]; omega
        go_wp2_with fail
        go_meet
        exact ⟨_, rfl, by omega, by first | exact Below.refl _ _ | exact (Below.refl _ _).alloc (Nat.le_refl _) _⟩
      · have y1 : (p ++ (⟨#[32]⟩ : ByteArray)).size ≤ 121 := by have h1 : (⟨#[32]⟩ : ByteArray).size = 1 := rfl; rw [ByteArray.size_append]; omega
        have y2 : ((p ++ (⟨#[32]⟩ : ByteArray)) ++ (⟨#[60, 61]⟩ : ByteArray)).size ≤ 123 := by have h1 : (⟨#[60, 61]⟩ : ByteArray).size = 2 := rfl; rw [ByteArray.size_append]; omega
        have y3 : (((p ++ (⟨#[32]⟩ : ByteArray)) ++ (⟨#[60, 61]⟩ : ByteArray)) ++ (⟨#[32]⟩ : ByteArray)).size ≤ 124 := by have h1 : (⟨#[32]⟩ : ByteArray).size = 1 := rfl; rw [ByteArray.size_append]; omega
        have y4 : ((((p ++ (⟨#[32]⟩ : ByteArray)) ++ (⟨#[60, 61]⟩ : ByteArray)) ++ (⟨#[32]⟩ : ByteArray)) ++ p2).size ≤ 244 := by rw [ByteArray.size_append]; omega
        go_wp2_with fail
        go_meet
        exact ⟨_, rfl, by omega, by first | exact Below.refl _ _ | exact (Below.refl _ _).alloc (Nat.le_refl _) _⟩
      · have y1 : (p ++ (⟨#[32]⟩ : ByteArray)).size ≤ 121 := by have h1 : (⟨#[32]⟩ : ByteArray).size = 1 := rfl; rw [ByteArray.size_append]; omega
        have y2 : ((p ++ (⟨#[32]⟩ : ByteArray)) ++ (⟨#[62]⟩ : ByteArray)).size ≤ 122 := by have h1 : (⟨#[62]⟩ : ByteArray).size = 1 := rfl; rw [ByteArray.size_append]; omega
        have y3 : (((p ++ (⟨#[32]⟩ : ByteArray)) ++ (⟨#[62]⟩ : ByteArray)) ++ (⟨#[32]⟩ : ByteArray)).size ≤ 123 := by have h1 : (⟨#[32]⟩ : ByteArray).size = 1 := rfl; rw [ByteArray.size_append]; omega
        have y4 : ((((p ++ (⟨#[32]⟩ : ByteArray)) ++ (⟨#[62]⟩ : ByteArray)) ++ (⟨#[32]⟩ : ByteArray)) ++ p2).size ≤ 243 := by rw [ByteArray.size_append]; omega
        go_wp2_with fail
        go_meet
        exact ⟨_, rfl, by omega, by first | exact Below.refl _ _ | exact (Below.refl _ _).alloc (Nat.le_refl _) _⟩
      · have y1 : (p ++ (⟨#[32]⟩ : ByteArray)).size ≤ 121 := by have h1 : (⟨#[32]⟩ : ByteArray).size = 1 := rfl; rw [ByteArray.size_append]; omega
        have y2 : ((p ++ (⟨#[32]⟩ : ByteArray)) ++ (⟨#[62, 61]⟩ : ByteArray)).size ≤ 123 := by have h1 : (⟨#[62, 61]⟩ : ByteArray).size = 2 := rfl; rw [ByteArray.size_append]; omega
        have y3 : (((p ++ (⟨#[32]⟩ : ByteArray)) ++ (⟨#[62, 61]⟩ : ByteArray)) ++ (⟨#[32]⟩ : ByteArray)).size ≤ 124 := by have h1 : (⟨#[32]⟩ : ByteArray).size = 1 := rfl; rw [ByteArray.size_append]; omega
        have y4 : ((((p ++ (⟨#[32]⟩ : ByteArray)) ++ (⟨#[62, 61]⟩ : ByteArray)) ++ (⟨#[32]⟩ : ByteArray)) ++ p2).size ≤ 244 := by rw [ByteArray.size_append]; omega
        go_wp2_with fail
        go_meet
        exact ⟨_, rfl, by omega, by first | exact Below.refl _ _ | exact (Below.refl _ _).alloc (Nat.le_refl _) _⟩
      · have y1 : (p ++ (⟨#[32]⟩ : ByteArray)).size ≤ 121 := by have h1 : (⟨#[32]⟩ : ByteArray).size = 1 := rfl; rw [ByteArray.size_append]; omega
        have y2 : ((p ++ (⟨#[32]⟩ : ByteArray)) ++ (⟨#[43]⟩ : ByteArray)).size ≤ 122 := by have h1 : (⟨#[43]⟩ : ByteArray).size = 1 := rfl; rw [ByteArray.size_append]; omega
        have y3 : (((p ++ (⟨#[32]⟩ : ByteArray)) ++ (⟨#[43]⟩ : ByteArray)) ++ (⟨#[32]⟩ : ByteArray)).size ≤ 123 := by have h1 : (⟨#[32]⟩ : ByteArray).size = 1 := rfl; rw [ByteArray.size_append]; omega
        have y4 : ((((p ++ (⟨#[32]⟩ : ByteArray)) ++ (⟨#[43]⟩ : ByteArray)) ++ (⟨#[32]⟩ : ByteArray)) ++ p2).size ≤ 243 := by rw [ByteArray.size_append]; omega
        go_wp2_with fail
        go_meet
        exact ⟨_, rfl, by omega, by first | exact Below.refl _ _ | exact (Below.refl _ _).alloc (Nat.le_refl _) _⟩
      · have y1 : (p ++ (⟨#[32]⟩ : ByteArray)).size ≤ 121 := by have h1 : (⟨#[32]⟩ : ByteArray).size = 1 := rfl; rw [ByteArray.size_append]; omega
        have y2 : ((p ++ (⟨#[32]⟩ : ByteArray)) ++ (⟨#[45]⟩ : ByteArray)).size ≤ 122 := by have h1 : (⟨#[45]⟩ : ByteArray).size = 1 := rfl; rw [ByteArray.size_append]; omega
        have y3 : (((p ++ (⟨#[32]⟩ : ByteArray)) ++ (⟨#[45]⟩ : ByteArray)) ++ (⟨#[32]⟩ : ByteArray)).size ≤ 123 := by have h1 : (⟨#[32]⟩ : ByteArray).size = 1 := rfl; rw [ByteArray.size_append]; omega
        have y4 : ((((p ++ (⟨#[32]⟩ : ByteArray)) ++ (⟨#[45]⟩ : ByteArray)) ++ (⟨#[32]⟩ : ByteArray)) ++ p2).size ≤ 243 := by rw [ByteArray.size_append]; omega
        go_wp2_with fail
        go_meet
        exact ⟨_, rfl, by omega, by first | exact Below.refl _ _ | exact (Below.refl _ _).alloc (Nat.le_refl _) _⟩
      · have y1 : (p ++ (⟨#[32]⟩ : ByteArray)).size ≤ 121 := by have h1 : (⟨#[32]⟩ : ByteArray).size = 1 := rfl; rw [ByteArray.size_append]; omega
        have y2 : ((p ++ (⟨#[32]⟩ : ByteArray)) ++ (⟨#[42]⟩ : ByteArray)).size ≤ 122 := by have h1 : (⟨#[42]⟩ : ByteArray).size = 1 := rfl; rw [ByteArray.size_append]; omega
        have y3 : (((p ++ (⟨#[32]⟩ : ByteArray)) ++ (⟨#[42]⟩ : ByteArray)) ++ (⟨#[32]⟩ : ByteArray)).size ≤ 123 := by have h1 : (⟨#[32]⟩ : ByteArray).size = 1 := rfl; rw [ByteArray.size_append]; omega
        have y4 : ((((p ++ (⟨#[32]⟩ : ByteArray)) ++ (⟨#[42]⟩ : ByteArray)) ++ (⟨#[32]⟩ : ByteArray)) ++ p2).size ≤ 243 := by rw [ByteArray.size_append]; omega
        go_wp2_with fail
        go_meet
        exact ⟨_, rfl, by omega, by first | exact Below.refl _ _ | exact (Below.refl _ _).alloc (Nat.le_refl _) _⟩
      · have y1 : ((⟨#[110, 111, 116, 32]⟩ : ByteArray) ++ p).size ≤ 124 := by have h0 : (⟨#[110, 111, 116, 32]⟩ : ByteArray).size = 4 := rfl; rw [ByteArray.size_append]; omega
        go_wp2_with fail
        go_meet
        exact ⟨_, rfl, by omega, by first | exact Below.refl _ _ | exact (Below.refl _ _).alloc (Nat.le_refl _) _⟩
      · have y1 : ((⟨#[45, 32]⟩ : ByteArray) ++ p).size ≤ 122 := by have h0 : (⟨#[45, 32]⟩ : ByteArray).size = 2 := rfl; rw [ByteArray.size_append]; omega
        go_wp2_with fail
        go_meet
        exact ⟨_, rfl, by omega, by first | exact Below.refl _ _ | exact (Below.refl _ _).alloc (Nat.le_refl _) _⟩
      · have y1 : (p ++ (⟨#[32, 105, 115, 32, 110, 117, 108, 108]⟩ : ByteArray)).size ≤ 128 := by have h1 : (⟨#[32, 105, 115, 32, 110, 117, 108, 108]⟩ : ByteArray).size = 8 := rfl; rw [ByteArray.size_append]; omega
        go_wp2_with fail
        go_meet
        exact ⟨_, rfl, by omega, by first | exact Below.refl _ _ | exact (Below.refl _ _).alloc (Nat.le_refl _) _⟩
      · go_wp2_with fail
        go_meet
        exact ⟨_, rfl, by omega, by first | exact Below.refl _ _ | exact (Below.refl _ _).alloc (Nat.le_refl _) _⟩
      · go_wp2_with fail
        go_meet
        exact ⟨_, rfl, by omega, by first | exact Below.refl _ _ | exact (Below.refl _ _).alloc (Nat.le_refl _) _⟩
    obtain ⟨u, rfl, hus, hbx⟩ := hcut
    have hbx2 : Below wr.heap.size wr wc := Below.trans hbd (Below.mono hbx hbd.size)
    have hownx := own_ext hownd hbx
    have hsr := hb.size
    have hsx := hbx2.size
    have hbw : Below w.heap.size w wc := Below.trans hb (Below.mono hbx2 hb.size)
    have HD2 := Lib.hid (show (ss ++ [u]).length = m + 1 by simp [HSL.out])
    clear hbx x2 hownd hwd
    by_cases hbig : 120 < u.size
    · have hg : decide ((120 : Int) < (u.size : Int)) = true := by simp; omega
      have hg2 : decide (120 < u.size) = true := by simp; omega
      go_wp2_with (at_builtin; refine wpList_append_own _ rfl _ _ 38 rfl w.heap.size 9 i0 (.string ⟨#[]⟩) 1 16 hu hi hz0 hz1 hz2 rfl (by decide) _ _ _ rfl (hownx.alloc _) ⟨wc.heap.size, 0, none⟩ 1 1 [.string u] rfl rfl ?c1 ?c2 ?c3 ?c4 ?c5 ?_)
      case c1 =>
        intro j v hj
        match j, hj with
        | 0, hj => simp at hj; subst hj; simp [Addr.add]
      case c2 => intro v hv; simp at hv; subst hv; rfl
      case c3 => unfold maxLen; omega
      case c4 => omega
      case c5 => simp; omega
      intro v' w9 hown9 hgrow9 _
      have hb9 : Below w.heap.size w w9 := (hbw.alloc (by omega) _).grown hgrow9 (by simp; omega) (fun g hg => (hownx.lt g hg).1)
      rw [← strV_snoc] at hown9
      obtain ⟨g9, c9, rfl, hg9, hcells9⟩ := own_strs hown9 (by omega)
      have q9 := hcells9 m u (by rw [List.getElem?_append_right (by rw [HSL.out]; omega), HSL.out, Nat.sub_self]; rfl)
      have hm3 : m < m + 1 := by omega
      clear hcells9 hbig
      go_wp2
      go_ret
      exact ⟨u, by omega, rfl, hb9⟩
    · have hg : decide ((120 : Int) < (u.size : Int)) = false := by simp; omega
      have hg2 : decide (120 < u.size) = false := by simp; omega
      go_wp2_with (at_builtin; refine wpList_append_own _ rfl _ _ 38 rfl w.heap.size 9 i0 (.string ⟨#[]⟩) 1 16 hu hi hz0 hz1 hz2 rfl (by decide) _ _ _ rfl (hownx.alloc _) ⟨wc.heap.size, 0, none⟩ 1 1 [.string u] rfl rfl ?c1 ?c2 ?c3 ?c4 ?c5 ?_)
      case c1 =>
        intro j v hj
        match j, hj with
        | 0, hj => simp at hj; subst hj; simp [Addr.add]
      case c2 => intro v hv; simp at hv; subst hv; rfl
      case c3 => unfold maxLen; omega
      case c4 => omega
      case c5 => simp; omega
      intro v' w9 hown9 hgrow9 _
      have hb9 : Below w.heap.size w w9 := (hbw.alloc (by omega) _).grown hgrow9 (by simp; omega) (fun g hg => (hownx.lt g hg).1)
      rw [← strV_snoc] at hown9
      go_wp2
      go_roundw
      case rel => exact ⟨k + 1, ss ++ [u], by omega, by omega, by go_num, by rw [HD2.out, ← HM.out]; omega, fun s hs => by
        rcases List.mem_append.1 hs with hs | hs
        · exact HSZ.out s hs
        · rw [List.mem_singleton.1 hs]; omega, by rw [show 6 + (k + 1) = m + 1 by rw [← HM.out]; omega]; exact hown9, hb9⟩
      case measure => simp [intOf]; omega
end Go.Proofs.Ytfgmlgflfagdjaa.ev
