/- Contracts: find, own, Grow, Concat, with. -/
import Derived.Test.YtalfacbkofgdjaaT5
import Derived.Lib.AppendZeros
import Derived.Laws.AppendOwnNone
namespace Go.Proofs.Ytalfacbkofgdjaa.tb
open Go.ChangeShapes Go.WideShapes Go.ChangeAt Go.RowKit Go.Proofs.Ytalfacbkofgdjaa.lib Go.Proofs.Ytalfacbkofgdjaa.val
set_option linter.unusedVariables false

set_option maxHeartbeats 1000000 in
theorem find_ (S : Sch) (k : V) (rows : List (List V)) (lo : Nat) (A : Option Addr) (n c : Nat) (A' : Option Addr) (n' c' : Nat) (w : World) (hr : Rs w lo A' n' c' rows)
    (hk : Keyed S.key rows) (ho : rows.Pairwise fun a b => cmpV (keyOf S.key a) (keyOf S.key b) < 0) (hn : n' ≤ 100000) :
    Calls Try.prog 34 #[.agg (tabA S A n c A' n' c'), .agg #[.int .i64 k.k, .int .i64 k.n, .string k.s]] w
      fun e w' => e = .returned (.tuple #[.int .i64 (atL S.key k rows : Nat), .bool (isL S.key k rows)]) ∧ Below w.heap.size w w' := by
  have HB := Lib.hid (fun g w' hg hr' => bsf_ S A n c A' n' c' g k rows lo A' n' c' w' hg hr' hk ho hn)
  obtain ⟨p, hp⟩ : ∃ p, atL S.key k rows = p := ⟨_, rfl⟩
  obtain ⟨q, hq⟩ : ∃ q, isL S.key k rows = q := ⟨_, rfl⟩
  rw [hp, hq] at HB ⊢
  clear hp hq hk ho
  obtain ⟨kk, kn, ks⟩ := k
  simp only at HB ⊢
  simp only [tabA] at HB ⊢
  go_enter Try.func34, Try.ntmps34
  go_upto_region 1 with fail
  obtain ⟨W, hW_, hbW, B1, B2⟩ : ∃ W_, W_ = ((w.alloc (.cells #[.string S.name, .slice A n c, .int .i64 S.key, .bool S.only, .slice A' n' c'] 75)).alloc (.cells #[.int .i64 kk, .int .i64 kn, .string ks] 39)) ∧ Below w.heap.size w W_ ∧ Blk W_ (w.heap.size) 75 #[.string S.name, .slice A n c, .int .i64 S.key, .bool S.only, .slice A' n' c'] ∧ Blk W_ (w.heap.size + 1) 39 #[.int .i64 kk, .int .i64 kn, .string ks] :=
    ⟨_, rfl, (((Below.refl _ _).alloc (Nat.le_refl _) _).alloc (by simp; try omega) _), ((blk_new_at w (w.heap.size) _ _ (by simp)).alloc _), (blk_new_at (w.alloc (.cells #[.string S.name, .slice A n c, .int .i64 S.key, .bool S.only, .slice A' n' c'] 75)) (w.heap.size + 1) _ _ (by simp))⟩
  rw [← hW_]
  clear hW_
  have q1 := B1.cell 4
  have q2 := B2.three (Below.refl _ _)
  go_wp2_with fail
  refine (HB.out _ _ B1 (hr.ext hbW)).mono ?_
  rintro e w1 ⟨rfl, hb1⟩
  clear q1 q2
  go_wp2
  exact bodyPost_ret (v := .tuple #[.int .i64 (p : Int), .bool q]) (by simp [results, Try.results34, go_sem]; try rfl) rfl ⟨rfl, Below.trans hbW (Below.mono hb1 hbW.size)⟩

theorem Hs.far {w : World} {lo : Nat} {hs : List Value} {rows : List (List V)} (k : Hs w lo hs rows) {p : Addr} (u : Value) (hp : p.block < lo) : Hs (w.setCell p u) lo hs rows := ⟨k.1, fun i h r h1 h2 => by
  obtain ⟨A, c, e, hv⟩ := k.2 i h r h1 h2
  exact ⟨A, c, e, hv.1.farL u hp, hv.2⟩⟩
def OwnR (rows : List (List V)) (n : Nat) (w : World) (r : Ending) (w' : World) : Prop := ∃ A c, r = .returned (.slice A n c) ∧ Rs w' w.heap.size A n c rows ∧ Fine A ∧ Below w.heap.size w w'
def nilS : Value := .slice none 0 0
theorem made_nil (n : Nat) : (madeCells #[Value.slice none 0 0] n).toList = List.replicate n nilS := by
  apply List.ext_getElem?
  intro i
  simp only [madeCells, Array.toList_map, Array.toList_range, List.getElem?_map, List.getElem?_replicate]
  by_cases h : i < n
  · rw [if_pos h, List.getElem?_range h]
    simp [nilS, Nat.mod_one]
  · rw [if_neg h, List.getElem?_eq_none (by simpa using h)]; rfl
theorem fill_set (hs : List Value) (n k : Nat) (u : Value) (hk : hs.length = k) (hn : k < n) : (hs ++ List.replicate (n - k) nilS).set k u = (hs ++ [u]) ++ List.replicate (n - (k + 1)) nilS := by
  have e : n - k = n - (k + 1) + 1 := by omega
  rw [List.set_append_right _ _ (by omega), hk, Nat.sub_self, e, List.replicate_succ, List.set_cons_zero, List.append_assoc]; rfl
set_option maxHeartbeats 2000000 in
theorem own_ (rows : List (List V)) (lo : Nat) (A : Option Addr) (n c : Nat) (w : World) (hr : Rs w lo A n c rows) (hn : n ≤ 100000) (hl : ∀ r ∈ rows, r.length ≤ 100000) :
    Calls Try.prog 44 #[.slice A n c] w (OwnR rows n w) := by
  obtain ⟨hs0, R, H, hN⟩ := hr
  have HN := Lib.hid hN
  have HL := Lib.hid hl
  clear hN hl
  obtain ⟨i0, hi, hz0, hz1, hz2⟩ := info_parts (P := Try.prog) (e := 33) (z := .slice none 0 0) (size := 1) (bytes := 24) (by kernel_rfl)
  go_enter Try.func44, Try.ntmps44
  go_wp2_with (at_make; refine wpList_make_full _ rfl _ _ 30 rfl w.heap.size 33 i0 (.slice none 0 0) 1 Try.underlying30 hi hz0 hz1 _ _ _ _ n rfl rfl rfl rfl ?b2 ?b3 (Nat.le_refl _) ?_)
  case b2 => rw [hz2]; omega
  case b3 => unfold maxLen; omega
  intro w3 hown3 hgrow3
  rw [made_nil] at hown3
  have hb3 : Below w.heap.size w w3 := (Below.refl _ _).grown hgrow3 (Nat.le_refl _) (fun k h => by cases h)
  have hs3 := (hown3.lt w.heap.size rfl).2
  have HO3 := Lib.hid hown3
  clear hown3 hgrow3
  go_wp2
  go_loopw [11] (fun i wr => ∃ (k : Nat) (hs : List Value), k ≤ n ∧ i = .int .i64 k ∧ wr.ownsRow w.heap.size 33 1 (.slice (some ⟨w.heap.size, 0, none⟩) n n) n (hs ++ List.replicate (n - k) nilS) ∧ Hs wr (w.heap.size + 1) hs (rows.take k) ∧ Below w.heap.size w wr) (fun i _ => n - (intOf i).toNat)
  case atStart => exact ⟨0, [], by omega, rfl, HO3.out, Hs.nil _ _, hb3⟩
  case round =>
    obtain ⟨k, hs, hk, rfl, hown, hH, hbw⟩ := hrel
    have hsl : hs.length = k := by rw [hH.1, List.length_take, HN.out]; omega
    rcases Nat.lt_or_ge k n with hlt | hge
    · have hd : decide ((k : Int) < (n : Int)) = true := by simp; omega
      have hkn : (k : Int) < (n : Int) := by omega
      obtain ⟨r, hx⟩ : ∃ r, rows[k]? = some r := ⟨_, List.getElem?_eq_getElem (by rw [HN.out]; exact hlt)⟩
      obtain ⟨b, off, rfl, _, _, hb⟩ := R.some_ (by omega)
      obtain ⟨Ar, cr, he, hvs⟩ := H.at_ hx
      have hrl := HL.out r (List.mem_of_getElem? hx)
      have q := (R.ext hbw).at_ he
      have HO := Lib.hid hown
      have HX := Lib.hid hx
      clear hown hx
      have hsz := (HO.out.lt w.heap.size rfl).2
      go_wp2_with fail
      clear q
      refine (cloneV r lo Ar r.length cr _ hrl (hvs.ext hbw)).mono ?_
      rintro e w4 ⟨A2, c2, rfl, hown2, hb4⟩
      have hown4 := own_ext HO.out hb4
      have f := hown4.frozenAt k
      have q := hown4.cellAt k (by omega)
      have hst := hown4.stored k (.slice A2 r.length c2)
      rw [fill_set hs n k _ hsl hlt] at hst
      have hV2 : Vs w4 (w.heap.size + 1) A2 r.length c2 r := (Vs.of_own hown2).base (by omega)
      have hH4 := ((hH.ext hb4).append (Hs.one ⟨A2, c2, rfl, hV2⟩)).far (p := ⟨w.heap.size, k, none⟩) (.slice A2 r.length c2) (Nat.lt_succ_self _)
      have HS := Lib.hid hst
      have hbw4 := Below.trans hbw (Below.mono hb4 hbw.size)
      clear hown2 hown4 hst
      have hq : ∃ x, w4.cell? ⟨w.heap.size, k, none⟩ = some x := by
        rw [q]
        exact ⟨_, List.getElem?_eq_getElem (by rw [List.length_append, List.length_replicate]; omega)⟩
      clear q
      obtain ⟨x, q⟩ := hq
      go_wp2
      clear q f
      go_roundw
      case rel =>
        refine ⟨k + 1, hs ++ [.slice A2 r.length c2], by omega, by go_num, HS.out.1, ?_, hbw4.grown HS.out.2 hbw4.size (fun j hj => by injection hj with hj; omega)⟩
        rw [List.take_add_one, HX.out]
        exact hH4
      case measure => simp [intOf]; omega
    · have hd : decide ((k : Int) < (n : Int)) = false := by simp; omega
      obtain rfl : k = n := by omega
      rw [Nat.sub_self, List.replicate_zero, List.append_nil] at hown
      rw [List.take_of_length_le (by rw [HN.out]; exact Nat.le_refl _)] at hH
      have hRow := Row.of_own hown
      go_wp2
      go_ret
      exact ⟨_, _, rfl, ⟨hs, hRow, hH.base (Nat.le_succ _), HN.out⟩, .inr ⟨_, _, rfl⟩, hbw⟩
end Go.Proofs.Ytalfacbkofgdjaa.tb
