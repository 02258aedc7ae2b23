/- Contracts: rows (the same ones), l5.Good, Of. -/
import Derived.Test.YtalfacbkofgdjaaU3
import Derived.Test.YtalfacbkofgdjaaTArg
namespace Go.Proofs.Ytalfacbkofgdjaa.tb
open Go.ChangeShapes Go.WideShapes Go.ChangeAt Go.RowKit Go.Proofs.Ytalfacbkofgdjaa.lib Go.Proofs.Ytalfacbkofgdjaa.val
set_option linter.unusedVariables false

set_option maxHeartbeats 2000000 in
theorem rows_ (rows : List (List V)) (lo lo' : Nat) (A A' : Option Addr) (n c n' c' : Nat) (w : World) (hn : n ≤ 100000) (hl : ∀ r ∈ rows, r.length ≤ 100000) (hr : Rs w lo A n c rows) (hr' : Rs w lo' A' n' c' rows) :
    Calls Try.prog 22 #[.slice A n c, .slice A' n' c'] w fun e w' => e = .returned (.bool true) ∧ Below w.heap.size w w' := by
  have HL := Lib.hid hr.len
  have HS := Lib.hid hl
  obtain rfl : n = n' := hr.len.symm.trans hr'.len
  clear hl
  go_enter Try.func22, Try.ntmps22
  go_wp2
  go_loopw [5] (fun i w' => ∃ k : Nat, Below w.heap.size w w' ∧ k ≤ n ∧ i = .int .i64 k) (fun i _ => n - (intOf i).toNat)
  case atStart => exact ⟨0, Below.refl _ _, Nat.zero_le _, rfl⟩
  case round =>
    obtain ⟨k, hbw, hk, rfl⟩ := hrel
    rcases Nat.lt_or_ge k n with hlt | hge
    · have hd : decide ((k : Int) < (n : Int)) = true := by simp; omega
      have hkn : (k : Int) < (n : Int) := by omega
      obtain ⟨x, hx⟩ : ∃ x, rows[k]? = some x := ⟨_, List.getElem?_eq_getElem (by rw [HL.out]; exact hlt)⟩
      obtain ⟨g, o, rfl, _, _, hg⟩ := hr.some_ (by omega)
      obtain ⟨g', o', rfl, _, _, hg'⟩ := hr'.some_ (by omega)
      obtain ⟨A1, c1, q1, v1⟩ := (hr.ext hbw).at_ hx
      obtain ⟨A2, c2, q2, v2⟩ := (hr'.ext hbw).at_ hx
      have hxl := HS.out x (List.mem_of_getElem? hx)
      clear hx
      go_wp2_with fail
      have hz1 := hbw.size
      have D := fun w' (h : Below wr.heap.size wr.drew w') => (show w'.cell? ⟨g, o + k, none⟩ = some (.slice A1 x.length c1) ∧ w'.cell? ⟨g', o' + k, none⟩ = some (.slice A2 x.length c2) from
        ⟨((Below.trans (Below.refl _ wr).drew h).cell (p := ⟨g, o + k, none⟩) (by show g < wr.heap.size; omega)).trans q1, ((Below.trans (Below.refl _ wr).drew h).cell (p := ⟨g', o' + k, none⟩) (by show g' < wr.heap.size; omega)).trans q2⟩)
      refine wp_region_one [(0, true), (1, true), (2, true), (3, true), (4, true), (5, true), (6, true), (7, true), (8, false), (9, true)] (by kernel_rfl) (by kernel_rfl) (by kernel_rfl) (by decide) ?_
      repeat ((with_reducible show wpPerm _ _ _ _ ((_, true) :: _) _ _); (first | (refine wpPerm_on (v := ?_) rfl rfl (wanted_free rfl) (fun w' hS => ?_) ?_; rotate_left; (focus (go_simp; (try with_reducible rfl); done)); try simp only [List.setIfInBounds_toArray, List.set_cons_zero, List.set_cons_succ]) | (refine wpPerm_on (v := ?_) rfl rfl (wanted_yes rfl rfl rfl) (fun w' hS => ?_) ?_; rotate_left; (focus (go_simp; (try with_reducible rfl); done)); try simp only [List.setIfInBounds_toArray, List.set_cons_zero, List.set_cons_succ]) | (refine wpPerm_off rfl rfl (wanted_no rfl rfl rfl) ?_; try simp only [List.setIfInBounds_toArray, List.set_cons_zero, List.set_cons_succ]) | (refine wpPerm_off rfl rfl (wanted_undef rfl rfl rfl) ?_; try simp only [List.setIfInBounds_toArray, List.set_cons_zero, List.set_cons_succ])))
      refine wpPerm_do rfl (wanted_free rfl) (fun K hK => ?_); go_simp
      refine (rrowSame_ x lo lo' A1 A2 x.length c1 x.length c2 _ hxl (v1.ext (Below.refl _ _).drew) (v2.ext (Below.refl _ _).drew)).mono ?_
      rintro e w1 ⟨rfl, hb1⟩
      refine hK.out _ _ hb1 ?_
      clear hK K
      repeat ((with_reducible show wpPerm _ _ _ _ ((_, true) :: _) _ _); (first | (refine wpPerm_on (v := ?_) rfl rfl (wanted_free rfl) (fun w' hS => ?_) ?_; rotate_left; (focus (go_simp; (try with_reducible rfl); done)); try simp only [List.setIfInBounds_toArray, List.set_cons_zero, List.set_cons_succ]) | (refine wpPerm_on (v := ?_) rfl rfl (wanted_yes rfl rfl rfl) (fun w' hS => ?_) ?_; rotate_left; (focus (go_simp; (try with_reducible rfl); done)); try simp only [List.setIfInBounds_toArray, List.set_cons_zero, List.set_cons_succ]) | (refine wpPerm_off rfl rfl (wanted_no rfl rfl rfl) ?_; try simp only [List.setIfInBounds_toArray, List.set_cons_zero, List.set_cons_succ]) | (refine wpPerm_off rfl rfl (wanted_undef rfl rfl rfl) ?_; try simp only [List.setIfInBounds_toArray, List.set_cons_zero, List.set_cons_succ])))
      refine wpPerm_done ?_
      clear D q1 q2
      go_wp2
      go_roundw
      case rel => exact ⟨k + 1, Below.trans hbw (Below.mono (Below.trans (Below.refl _ wr).drew hb1) hbw.size), by omega, by go_num⟩
      case measure => simp [intOf]; omega
    · have hd : decide ((k : Int) < (n : Int)) = false := by simp; omega
      go_wp2
      go_ret
      exact ⟨rfl, hbw⟩

def gV (v : V) : V := ⟨gK v.k, gN v.k v.n, gS v.k v.s⟩
theorem take_size (s : ByteArray) : (s.extract 0 (min s.size 60)).size ≤ 60 := by
  rw [ByteArray.size_extract]; omega
theorem gV_chk (v : V) : vchk (gV v) = 0 := by
  unfold vchk gV chk vEq bareN bareS gK gN gS
  have h4 : 0 ≤ v.k % 4 ∧ v.k % 4 < 4 := ⟨Int.emod_nonneg _ (by decide), Int.emod_lt_of_pos _ (by decide)⟩
  have h2 : 0 ≤ v.n % 2 ∧ v.n % 2 < 2 := ⟨Int.emod_nonneg _ (by decide), Int.emod_lt_of_pos _ (by decide)⟩
  obtain ⟨k, hk⟩ : ∃ k, v.k % 4 = k := ⟨_, rfl⟩
  rw [hk] at h4 ⊢
  have hs := take_size v.s
  have hc : k = 0 ∨ k = 1 ∨ k = 2 ∨ k = 3 := by omega
  rcases hc with rfl | rfl | rfl | rfl
  · simp [ba_refl]
  · have hn : v.n % 2 = 0 ∨ v.n % 2 = 1 := by omega
    rcases hn with e | e <;> rw [e] <;> simp [ba_refl]
  · simp [ba_refl]
  · simp only [ByteArray.size_extract] at hs
    simp [ba_refl]
    try omega
theorem gV_raw {v : V} (h : RawV v) : (gV v).s.size ≤ 60 := by
  have := (chk_form (gV_chk v)).2.2.2.2.2
  exact this
set_option maxHeartbeats 2000000 in
theorem good5_ (l : List V) (lo : Nat) (A : Option Addr) (n c : Nat) (w : World) (hn : n ≤ 100) (hr : Vs w lo A n c l) (hp : ∀ x ∈ l, RawV x) :
    Calls Try.prog 21 #[.slice A n c] w (OwnV (l.map gV) n w) := by
  obtain ⟨i0, hi, hz0, hz1, hz2⟩ := info_parts (P := Try.prog) (e := 39) (z := .agg #[.int .i64 0, .int .i64 0, .string ⟨#[]⟩]) (size := 3) (bytes := 32) (by kernel_rfl)
  have HL := Lib.hid hr.2
  go_enter Try.func21, Try.ntmps21
  go_wp2
  go_loopw [3, 4] (fun o i w' => ∃ k : Nat, Below w.heap.size w w' ∧ k ≤ n ∧ i = .int .i64 k ∧ w'.ownsRow w.heap.size 39 3 o k (cellsV ((l.take k).map gV))) (fun _ i _ => n - (intOf i).toNat)
  case atStart => exact ⟨0, Below.refl _ _, Nat.zero_le _, rfl, World.ownsRow_nil _ _ _ _⟩
  case round =>
    obtain ⟨k, hbw, hk, rfl, hown⟩ := hrel
    obtain ⟨A2, c2, rfl⟩ := own_slice hown
    have HO := Lib.hid hown
    clear hown
    rcases Nat.lt_or_ge k n with hlt | hge
    · have hd : decide ((k : Int) < (n : Int)) = true := by simp; omega
      have hkn : (k : Int) < (n : Int) := by omega
      obtain ⟨x, hx⟩ : ∃ x, l[k]? = some x := ⟨_, List.getElem?_eq_getElem (by rw [HL.out]; exact hlt)⟩
      obtain ⟨g, o, rfl, _, _, hg⟩ := hr.1.some_ (by omega)
      have hraw := hp x (List.mem_of_getElem? hx)
      have q := (hr.ext hbw).at_ hx
      have HC := Lib.hid (show cellsV ((l.take (k + 1)).map gV) = cellsV ((l.take k).map gV) ++ [.int .i64 (gV x).k, .int .i64 (gV x).n, .string (gV x).s] by
        rw [List.take_add_one, hx]
        simp only [Option.toList, List.map_append, List.map_cons, List.map_nil]
        unfold cellsV
        rw [flatK_append, flatK_one]
        rfl)
      clear hx
      obtain ⟨x0, x1, x2⟩ := x
      go_wp2_with fail
      refine (good x0 x1 x2 _ hraw.s hraw.k.1 hraw.k.2 hraw.n.1 hraw.n.2).mono ?_
      rintro e w1 ⟨rfl, hb1⟩
      have HO1 := Lib.hid (own_ext HO.out hb1)
      have hbw1 := Below.trans hbw (Below.mono hb1 hbw.size)
      clear q
      obtain ⟨z, hz⟩ : ∃ z, gV ⟨x0, x1, x2⟩ = z := ⟨_, rfl⟩
      have hz' := hz
      obtain ⟨z0, z1, z2⟩ := z
      unfold gV at hz
      simp only [V.mk.injEq] at hz
      obtain ⟨e0, e1, e2⟩ := hz
      rw [e0, e1, e2]
      have HC' := HC.out
      rw [hz'] at HC'
      have HC2 := Lib.hid HC'
      clear e0 e1 e2 hz' HC' HC
      go_wp2_with (at_builtin; refine wpList_append_own _ rfl (.tmp 11) (.tmp 17) 33 rfl w.heap.size 39 i0 _ 3 32 Try.underlying33 hi hz0 hz1 hz2 rfl (by decide) _ _ _ rfl (HO1.out.alloc _) ⟨w1.heap.size, 0, none⟩ 1 1 [.int .i64 z0, .int .i64 z1, .string z2] rfl rfl ?c1 ?c2 ?c3 ?c4 ?c5 ?_)
      case c1 => exact (Row.of_blk (Blk.new w1 _ _) (Nat.zero_le _) 1 1 (Nat.le_refl _)).src
      case c2 => exact fun u hu => oneV [⟨z0, z1, z2⟩] u hu
      case c3 => unfold maxLen; omega
      case c4 => omega
      all_goals try (case c5 => have := hbw1.size; first | omega | (simp; done) | (simp; omega))
      intro v' w9 hown9 hgrow9 _
      have hlt1 := HO1.out.lt
      have hbw9 := (hbw1.alloc hbw1.size (.cells #[.int .i64 z0, .int .i64 z1, .string z2] 39)).grown hgrow9 (by have := hbw1.size; simp; omega) (fun b hb => (hlt1 b hb).1)
      have HO9 := Lib.hid hown9
      clear hown9 hgrow9 hlt1
      go_wp2
      go_roundw
      case rel => exact ⟨k + 1, hbw9, by omega, by go_num, by rw [HC2.out, List.map_take]; exact HO9.out⟩
      case measure => simp [intOf]; omega
    · have hd : decide ((k : Int) < (n : Int)) = false := by simp; omega
      obtain rfl : k = n := by omega
      have e : l.take k = l := List.take_of_length_le (by rw [HL.out]; exact Nat.le_refl _)
      have HO2 := HO.out
      rw [e] at HO2
      have HO3 := Lib.hid HO2
      clear e HO2
      go_wp2
      go_ret
      exact ⟨A2, c2, rfl, HO3.out, hbw⟩
set_option maxHeartbeats 2000000 in
theorem of_ (S : Sch) (A : Option Addr) (n c : Nat) (A' : Option Addr) (n' c' : Nat) (w : World) :
    Calls Try.prog 20 #[.agg (tabA S A n c A' n' c')] w fun e w' => e = .returned (.agg (tabA S A n c A' n' c')) ∧ Below w.heap.size w w' := by
  obtain ⟨nm, cols, key, only⟩ := S
  simp only [tabA]
  go_enter Try.func20, Try.ntmps20
  go_upto_region 1 with fail
  obtain ⟨W, hW_, hbW, B1, B2⟩ : ∃ W_, W_ = ((w.alloc (.cells #[.string nm, .slice A n c, .int .i64 key, .bool only, .slice A' n' c'] 48)).alloc (.cells #[.string ⟨#[]⟩, .slice none 0 0, .int .i64 0, .bool false, .slice none 0 0] 32)) ∧ Below w.heap.size w W_ ∧ Blk W_ (w.heap.size) 48 #[.string nm, .slice A n c, .int .i64 key, .bool only, .slice A' n' c'] ∧ Blk W_ (w.heap.size + 1) 32 #[.string ⟨#[]⟩, .slice none 0 0, .int .i64 0, .bool false, .slice none 0 0] :=
    ⟨_, rfl, (((Below.refl _ _).alloc (Nat.le_refl _) _).alloc (by simp; try omega) _), ((blk_new_at w (w.heap.size) _ _ (by simp)).alloc _), (blk_new_at (w.alloc (.cells #[.string nm, .slice A n c, .int .i64 key, .bool only, .slice A' n' c'] 48)) (w.heap.size + 1) _ _ (by simp))⟩
  rw [← hW_]
  clear hW_
  have f0 := B2.frozen 0
  have f1 := B2.frozen 1
  have f2 := B2.frozen 2
  have f3 := B2.frozen 3
  have f4 := B2.frozen 4
  have q := five B2 (Below.refl _ _)
  have q1 := five B1 (Below.refl _ _)
  go_wp2
  clear f0 f1 f2 f3 f4 q q1
  obtain ⟨wz, hwz, Bz, hlowz, hgrz⟩ := Blk.set5 B2 (.string nm) (.slice A n c) (.int .i64 key) (.bool only) (.slice A' n' c')
  rw [← hwz]
  clear hwz
  have q := five Bz (Below.refl _ _)
  exact bodyPost_ret (v := .agg #[.string nm, .slice A n c, .int .i64 key, .bool only, .slice A' n' c']) (by simp [results, Try.results20, go_sem, q]; try rfl) rfl
    ⟨rfl, Below.trans hbW (hlowz _ (Nat.le_succ _))⟩
end Go.Proofs.Ytalfacbkofgdjaa.tb
