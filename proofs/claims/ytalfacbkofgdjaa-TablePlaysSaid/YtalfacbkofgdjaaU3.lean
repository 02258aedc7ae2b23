/- Contracts: the document's Range; rows. Printed by genrrange.py. -/
import Derived.Test.YtalfacbkofgdjaaU2
namespace Go.Proofs.Ytalfacbkofgdjaa.tb
open Go.ChangeShapes Go.WideShapes Go.ChangeAt Go.RowKit Go.Proofs.Ytalfacbkofgdjaa.lib Go.Proofs.Ytalfacbkofgdjaa.val
set_option linter.unusedVariables false

set_option maxRecDepth 1000000 in
set_option maxHeartbeats 8000000 in
theorem rrange_ (S : Sch) (rows : List (List V)) (kl kh : V) (lo : Nat) (A : Option Addr) (n c : Nat) (A' : Option Addr) (n' c' : Nat) (w : World)
    (hR : Rs w lo A' n' c' rows) (hOk : Ok S.cols S.key rows) (hn : S.cols.length ≤ 100) (hrows : rows.length ≤ 1000) (hkl : vchk kl = 0) (hkh : vchk kh = 0) :
    Calls Try.prog 24 #[.agg (tabA S A n c A' n' c'), .agg #[.int .i64 kl.k, .int .i64 kl.n, .string kl.s], .agg #[.int .i64 kh.k, .int .i64 kh.n, .string kh.s]] w
      (fun e w' => ∃ A2 n2 c2, e = .returned (.slice A2 n2 c2) ∧ Rs w' 0 A2 n2 c2 (rows.filter (rrangeB S.key kl kh)) ∧ Below w.heap.size w w') := by
  obtain ⟨i0, hi, hz0, hz1, hz2⟩ := info_parts (P := Try.prog) (e := 39) (z := .agg #[.int .i64 0, .int .i64 0, .string ⟨#[]⟩]) (size := 3) (bytes := 32) (by kernel_rfl)
  obtain ⟨j0, hj, hy0, hy1, hy2⟩ := info_parts (P := Try.prog) (e := 33) (z := .slice none 0 0) (size := 1) (bytes := 24) (by kernel_rfl)
  have HRN := Lib.hid hR.len
  have hn' : n' ≤ 1000 := by rw [← HRN.out]; exact hrows
  have hOk := Lib.hid hOk
  have hls : kl.s.size ≤ maxLen := by have := (chk_form hkl).2.2.2.2.2; unfold maxLen; omega
  have hhs : kh.s.size ≤ maxLen := by have := (chk_form hkh).2.2.2.2.2; unfold maxLen; omega
  obtain ⟨F, hF⟩ : ∃ F, rrangeB S.key kl kh = F := ⟨_, rfl⟩
  have HF := Lib.hid hF
  rw [hF]
  clear hF hkl hkh
  obtain ⟨nm, cols, key, only⟩ := S
  simp only [tabA] at hn ⊢
  simp only at hOk HF
  go_enter Try.func24, Try.ntmps24
  go_upto_region 1 with fail
  obtain ⟨W, hW_, hbW, B1, BL, BH⟩ : ∃ W_, W_ = (((w.alloc (.cells #[.string nm, .slice A n c, .int .i64 key, .bool only, .slice A' n' c'] 48)).alloc (.cells #[.int .i64 kl.k, .int .i64 kl.n, .string kl.s] 39)).alloc (.cells #[.int .i64 kh.k, .int .i64 kh.n, .string kh.s] 39)) ∧ Below w.heap.size w W_ ∧ Blk W_ (w.heap.size) 48 #[.string nm, .slice A n c, .int .i64 key, .bool only, .slice A' n' c'] ∧ Blk W_ (w.heap.size + 1) 39 #[.int .i64 kl.k, .int .i64 kl.n, .string kl.s] ∧ Blk W_ (w.heap.size + 1 + 1) 39 #[.int .i64 kh.k, .int .i64 kh.n, .string kh.s] :=
    ⟨_, rfl, ((((Below.refl _ _).alloc (Nat.le_refl _) _).alloc (by simp; try omega) _).alloc (by simp; try omega) _), (((blk_new_at w (w.heap.size) _ _ (by simp)).alloc _).alloc _), ((blk_new_at (w.alloc (.cells #[.string nm, .slice A n c, .int .i64 key, .bool only, .slice A' n' c'] 48)) (w.heap.size + 1) _ _ (by simp)).alloc _), (blk_new_at ((w.alloc (.cells #[.string nm, .slice A n c, .int .i64 key, .bool only, .slice A' n' c'] 48)).alloc (.cells #[.int .i64 kl.k, .int .i64 kl.n, .string kl.s] 39)) (w.heap.size + 1 + 1) _ _ (by simp))⟩
  rw [← hW_]
  clear hW_
  go_wp2_with fail
  go_loopw [7, 8] (fun out i wr => ∃ (k : Nat) (L : List (List V)) (hs : List Value), k ≤ n' ∧ i = .int .i64 k ∧ (rows.take k).filter F = L ∧ wr.ownsRow W.heap.size 33 1 out L.length hs ∧ Es wr hs L ∧ Below W.heap.size W wr) (fun _ i _ => n' - (intOf i).toNat)
  case atStart => exact ⟨0, [], [], Nat.zero_le _, rfl, rfl, World.ownsRow_nil _ _ _ _, Es.nil _, Below.refl _ _⟩
  case round =>
    obtain ⟨k, L, hs, hk, rfl, hL, hown, hE, hbw⟩ := hrel
    obtain ⟨A2, c2, rfl⟩ := own_slice hown
    have HO := Lib.hid hown
    have HL := Lib.hid hL
    have hLk : L.length ≤ k := by rw [← hL]; exact Nat.le_trans (List.length_filter_le _ _) (by rw [List.length_take]; omega)
    clear hown hL
    have hw1 := Below.trans hbW (Below.mono hbw hbW.size)
    have B1 := B1.ext hbw
    have BL := BL.ext hbw
    have BH := BH.ext hbw
    rcases Nat.lt_or_ge k n' with hlt | hge
    case inr =>
      have hd : decide ((k : Int) < (n' : Int)) = false := by simp; omega
      have e : rows.take k = rows := List.take_of_length_le (by rw [HRN.out]; exact hge)
      have hLL := HL.out
      rw [e] at hLL
      have HLL := Lib.hid hLL
      clear e hLL
      have q1 := five B1 (Below.refl _ _)
      go_wp2
      go_ret
      refine ⟨A2, L.length, c2, rfl, ⟨hs, (Row.of_own HO.out).base (Nat.zero_le _), ⟨by rw [HLL.out]; exact hE.1, ?_⟩, ?_⟩, hw1⟩
      · intro i h r h1 h2
        rw [HLL.out] at h2
        obtain ⟨A9, c9, e9, ho⟩ := hE.2 i h r h1 h2
        rw [e9] at ho
        exact ⟨A9, c9, e9, Vs.of_own ho⟩
      · rw [HLL.out]
    have hd : decide ((k : Int) < (n' : Int)) = true := by simp; omega
    have hdn : decide (k < n') = true := by simp; omega
    have hkn : (k : Int) < (n' : Int) := by omega
    obtain ⟨r, hx⟩ : ∃ r, rows[k]? = some r := ⟨_, List.getElem?_eq_getElem (by rw [HRN.out]; exact hlt)⟩
    obtain ⟨v, hv, hke, hvc⟩ := key_chk hOk.out.kl (hOk.out.fit r (List.mem_of_getElem? hx))
    have hrl := fits_len (hOk.out.fit r (List.mem_of_getElem? hx))
    have hrl2 : r.length ≤ 100 := by rw [hrl]; exact hn
    have hkr : key < r.length := (List.getElem?_eq_some_iff.1 hv).1
    have hkr2 : (key : Int) < (r.length : Int) := by omega
    have hvs : v.s.size ≤ maxLen := by have := (chk_form hvc).2.2.2.2.2; unfold maxLen; omega
    obtain ⟨bA, oA, rfl, _, _, hbA⟩ := hR.some_ (by omega)
    obtain ⟨Ar, cr, q0, hVr⟩ := hR.at_ hx
    obtain ⟨br, or_, rfl, _, _, _⟩ := hVr.1.some_ (by omega)
    have hFr : F r = ((decide (kl.k = 0) || decide (0 ≤ rcmpV v kl)) && (decide (kh.k = 0) || decide (rcmpV v kh ≤ 0))) := by
      rw [← HF.out]; unfold rrangeB; rw [hke]
    have HN := Lib.hid (filter_snoc F rows k r hx)
    have HFr := Lib.hid hFr
    have HV := Lib.hid hv
    have Hq := Lib.hid q0
    clear hFr hx hv hke hvc q0 hrl
    obtain ⟨v0, v1, v2⟩ := v
    simp only at hvs
    have q1 := five B1 (Below.refl _ _)
    go_wp2_with fail
    clear q1
    have D1 := fun w' (h : Below wr.heap.size wr.drew w') => five B1 (Below.trans (Below.refl _ _).drew h)
    have D2 := fun w' (h : Below wr.heap.size wr.drew w') => ((Below.trans hw1 (Below.mono (Below.trans (Below.refl _ wr).drew h) hw1.size)).cell (p := ⟨bA, oA + k, none⟩) hbA).trans Hq.out
    have Dr := fun w' (h : Below wr.heap.size wr.drew w') => (hVr.ext (Below.trans hw1 (Below.mono (Below.trans (Below.refl _ wr).drew h) hw1.size))).at_ HV.out
    refine wp_region_one [(0, true), (1, true), (2, true), (3, true), (4, true), (5, true), (6, true), (7, true), (8, true), (9, true), (10, false), (11, false)] (by kernel_rfl) (by kernel_rfl) (by kernel_rfl) (by decide) ?_
    repeat ((with_reducible show wpPerm _ _ _ _ ((_, true) :: _) _ _); (first | (refine wpPerm_on (v := ?_) rfl rfl (wanted_free rfl) (fun w' hS => ?_) ?_; rotate_left; (focus (go_simp; (try with_reducible rfl); done)); try simp only [List.setIfInBounds_toArray, List.set_cons_zero, List.set_cons_succ]) | (refine wpPerm_on (v := ?_) rfl rfl (wanted_yes rfl rfl rfl) (fun w' hS => ?_) ?_; rotate_left; (focus (go_simp; (try with_reducible rfl); done)); try simp only [List.setIfInBounds_toArray, List.set_cons_zero, List.set_cons_succ]) | (refine wpPerm_off rfl rfl (wanted_no rfl rfl rfl) ?_; try simp only [List.setIfInBounds_toArray, List.set_cons_zero, List.set_cons_succ]) | (refine wpPerm_off rfl rfl (wanted_undef rfl rfl rfl) ?_; try simp only [List.setIfInBounds_toArray, List.set_cons_zero, List.set_cons_succ])))
    have hrd : Below wr.heap.size wr wr.drew := (Below.refl _ _).drew
    clear D1 D2 Dr
    have hwd0 : wr.drew.heap.size = wr.heap.size := rfl
    generalize wr.drew = wd at *
    refine wpPerm_do rfl (wanted_free rfl) (fun K hK => ?_); go_simp
    refine hK.out _ _ ((Below.refl _ _).alloc (by omega) _) ?_
    clear hK K
    have BK : Blk (wd.alloc (.cells #[.int .i64 0, .int .i64 0, .string ⟨#[]⟩] 39)) wd.heap.size 39 #[.int .i64 0, .int .i64 0, .string ⟨#[]⟩] := Blk.new _ _ _
    have f := BK.free3
    have q := BK.three (Below.refl _ _)
    refine wpPerm_do rfl (wanted_free rfl) (fun K hK => ?_); go_simp
    clear f q BK
    obtain ⟨wq, hwq⟩ : ∃ wq, wq = wd.alloc (.cells #[.int .i64 v0, .int .i64 v1, .string v2] 39) := ⟨_, rfl⟩
    have hbdq : Below wr.heap.size wd wq := by rw [hwq]; exact (Below.refl _ _).alloc (by omega) _
    have BK : Blk wq wr.heap.size 39 #[.int .i64 v0, .int .i64 v1, .string v2] := by rw [hwq, ← hwd0]; exact Blk.new _ _ _
    rw [← hwq]
    clear hwq
    refine hK.out _ _ hbdq ?_
    clear hK K
    refine wpPerm_done ?_
    have hbrq := Below.trans hrd hbdq
    have hbw := Below.trans hbw (Below.mono hbrq hbw.size)
    have hw1 := Below.trans hw1 (Below.mono hbrq hw1.size)
    have B1 := B1.ext hbrq
    have BL := BL.ext hbrq
    have BH := BH.ext hbrq
    have HO := Lib.hid (own_ext HO.out hbrq)
    have hE := hE.ext hbrq
    clear hrd hbdq hbrq hwd0
    have hql := BL.three (Below.refl _ _)
    have hqh := BH.three (Below.refl _ _)
    have hqk := BK.three (Below.refl _ _)
    obtain ⟨p1, hp1⟩ : ∃ p, decide (kl.k = 0) = p := ⟨_, rfl⟩
    obtain ⟨p2, hp2⟩ : ∃ p, decide (0 ≤ rcmpV ⟨v0, v1, v2⟩ kl) = p := ⟨_, rfl⟩
    obtain ⟨p3, hp3⟩ : ∃ p, decide (kh.k = 0) = p := ⟨_, rfl⟩
    obtain ⟨p4, hp4⟩ : ∃ p, decide (rcmpV ⟨v0, v1, v2⟩ kh ≤ 0) = p := ⟨_, rfl⟩
    have hFr := HFr.out
    rw [hp1, hp2, hp3, hp4] at hFr
    have HFr := Lib.hid hFr
    have hp1' : (kl.k == 0) = p1 := hp1
    have hp3' : (kh.k == 0) = p3 := hp3
    clear hp1 hp3 hFr
    cases p1 with
    | true =>
      cases p3 with
      | true =>
        have FR : F r = true := by rw [HFr.out]; rfl 
        have q1 := fun o => five B1 ((Below.refl _ _).alloc (Nat.le_refl _) o)
        have q2 := fun o => ((hw1.alloc hw1.size o).cell (p := ⟨bA, oA + k, none⟩) hbA).trans Hq.out
        go_wp2_with (at_builtin; refine wpList_append_own _ rfl (.tmp 48) (.tmp 53) 33 rfl wq.heap.size 39 i0 _ 3 32 Try.underlying33 hi hz0 hz1 hz2 rfl (by decide) _ _ _ rfl (own_empty (w := wq) rfl (Nat.le_refl _)) ⟨br, or_, none⟩ r.length cr (cellsV r) rfl ?b11 ?b12 ?b13 ?b14 ?b15 ?b16 ?_)
        case b11 => rw [lenV]
        case b12 => first | exact fun j u hu => Row.at_ ((hVr.1.ext hw1).ext ((Below.refl _ _).alloc (Nat.le_refl _) _)) hu | exact Row.src ((hVr.1.ext hw1).ext ((Below.refl _ _).alloc (Nat.le_refl _) _))
        case b13 => exact oneV r
        case b14 => unfold maxLen; omega
        case b15 => omega
        all_goals try (case b16 => first | omega | (simp; done) | (simp; omega))
        intro v8 w8 hown8 hgrow8 _
        obtain ⟨A8, c8, rfl⟩ := own_slice hown8
        try simp only [Nat.zero_add, List.nil_append] at hown8
        clear q1 q2
        have h7a : Below wq.heap.size wq (wq.alloc (.cells #[] 39)) := (Below.refl _ _).alloc (Nat.le_refl _) _
        have hbw8 := (hbw.alloc hbw.size (.cells #[] 39)).grown hgrow8 (by have := hbw.size; simp; omega) (fun b hb => by simp [Value.ownBlock] at hb; have := hbw.size; omega)
        have hb78 : Below wq.heap.size wq w8 := h7a.grown hgrow8 (by simp) (fun b hb => by simp [Value.ownBlock] at hb; omega)
        have HO8 := Lib.hid (own_ext HO.out hb78)
        have hE8 := hE.ext hb78
        clear hb78
        clear hgrow8
        go_wp2_with (at_builtin; refine wpList_append_own _ rfl (.tmp 47) (.tmp 55) 30 rfl W.heap.size 33 j0 _ 1 24 Try.underlying30 hj hy0 hy1 hy2 rfl (by decide) _ _ _ rfl (HO8.out.alloc _) ⟨w8.heap.size, 0, none⟩ 1 1 [.slice A8 r.length c8] rfl rfl ?d11 ?d12 ?d13 ?d14 ?d15 ?_)
        case d11 => exact (Row.of_blk (Blk.new w8 _ _) (Nat.zero_le _) 1 1 (Nat.le_refl _)).src
        case d12 => intro u hu; rw [List.mem_singleton] at hu; rw [hu]; rfl
        case d13 => unfold maxLen; omega
        case d14 => omega
        all_goals try (case d15 => have := hbw8.size; first | omega | (simp; done) | (simp; omega))
        intro v9 w9 hown9 hgrow9 _
        have h8a : Below w8.heap.size w8 (w8.alloc (.cells #[.slice A8 r.length c8] 33)) := (Below.refl _ _).alloc (Nat.le_refl _) _
        have hlt8 := HO8.out.lt
        have hbw9 := (hbw8.alloc hbw8.size (.cells #[.slice A8 r.length c8] 33)).grown hgrow9 (by have := hbw8.size; simp; omega) (fun b hb => (hlt8 b hb).1)
        have hE9 := ((hE8.ext h8a).own (own_ext HO8.out h8a) hgrow9 (by decide)).snoc ((own_ext hown8 h8a).kept hgrow9 (own_ne (own_ext hown8 h8a) (own_ext HO8.out h8a) (by decide)))
        have HO9 := Lib.hid hown9
        clear hown8 hown9 hgrow9 h8a hlt8
        go_wp2
        go_roundw
        case rel => exact ⟨k + 1, L ++ [r], hs ++ [.slice A8 r.length c8], by omega, by go_num, by rw [HN.out, if_pos FR, HL.out], by simpa using HO9.out, hE9, hbw9⟩
        case measure => simp [intOf]; omega
      | false =>
        go_wp2_with fail
        refine (rcmp_ ⟨v0, v1, v2⟩ kh _ hvs hhs).mono ?_
        rintro e ws ⟨rfl, hb⟩
        have hbqs := hb
        have hbw := Below.trans hbw (Below.mono hb hbw.size)
        have hw1 := Below.trans hw1 (Below.mono hb hw1.size)
        have B1 := B1.ext hb
        have HO := Lib.hid (own_ext HO.out hb)
        have hE := hE.ext hb
        clear hql hqh hqk hb
        cases p4 with
        | true =>
          have FR : F r = true := by rw [HFr.out]; rfl
          have q1 := fun o => five B1 ((Below.refl _ _).alloc (Nat.le_refl _) o)
          have q2 := fun o => ((hw1.alloc hw1.size o).cell (p := ⟨bA, oA + k, none⟩) hbA).trans Hq.out
          go_wp2_with (at_builtin; refine wpList_append_own _ rfl (.tmp 48) (.tmp 53) 33 rfl ws.heap.size 39 i0 _ 3 32 Try.underlying33 hi hz0 hz1 hz2 rfl (by decide) _ _ _ rfl (own_empty (w := ws) rfl (Nat.le_refl _)) ⟨br, or_, none⟩ r.length cr (cellsV r) rfl ?b1x1 ?b1x2 ?b1x3 ?b1x4 ?b1x5 ?b1x6 ?_)
          case b1x1 => rw [lenV]
          case b1x2 => first | exact fun j u hu => Row.at_ ((hVr.1.ext hw1).ext ((Below.refl _ _).alloc (Nat.le_refl _) _)) hu | exact Row.src ((hVr.1.ext hw1).ext ((Below.refl _ _).alloc (Nat.le_refl _) _))
          case b1x3 => exact oneV r
          case b1x4 => unfold maxLen; omega
          case b1x5 => omega
          all_goals try (case b1x6 => first | omega | (simp; done) | (simp; omega))
          intro v8 w8 hown8 hgrow8 _
          obtain ⟨A8, c8, rfl⟩ := own_slice hown8
          try simp only [Nat.zero_add, List.nil_append] at hown8
          clear q1 q2
          have h7a : Below ws.heap.size ws (ws.alloc (.cells #[] 39)) := (Below.refl _ _).alloc (Nat.le_refl _) _
          have hbw8 := (hbw.alloc hbw.size (.cells #[] 39)).grown hgrow8 (by have := hbw.size; simp; omega) (fun b hb => by simp [Value.ownBlock] at hb; have := hbw.size; omega)
          have hb78 : Below ws.heap.size ws w8 := h7a.grown hgrow8 (by simp) (fun b hb => by simp [Value.ownBlock] at hb; omega)
          have HO8 := Lib.hid (own_ext HO.out hb78)
          have hE8 := hE.ext hb78
          clear hb78
          clear hgrow8
          go_wp2_with (at_builtin; refine wpList_append_own _ rfl (.tmp 47) (.tmp 55) 30 rfl W.heap.size 33 j0 _ 1 24 Try.underlying30 hj hy0 hy1 hy2 rfl (by decide) _ _ _ rfl (HO8.out.alloc _) ⟨w8.heap.size, 0, none⟩ 1 1 [.slice A8 r.length c8] rfl rfl ?d1x1 ?d1x2 ?d1x3 ?d1x4 ?d1x5 ?_)
          case d1x1 => exact (Row.of_blk (Blk.new w8 _ _) (Nat.zero_le _) 1 1 (Nat.le_refl _)).src
          case d1x2 => intro u hu; rw [List.mem_singleton] at hu; rw [hu]; rfl
          case d1x3 => unfold maxLen; omega
          case d1x4 => omega
          all_goals try (case d1x5 => have := hbw8.size; first | omega | (simp; done) | (simp; omega))
          intro v9 w9 hown9 hgrow9 _
          have h8a : Below w8.heap.size w8 (w8.alloc (.cells #[.slice A8 r.length c8] 33)) := (Below.refl _ _).alloc (Nat.le_refl _) _
          have hlt8 := HO8.out.lt
          have hbw9 := (hbw8.alloc hbw8.size (.cells #[.slice A8 r.length c8] 33)).grown hgrow9 (by have := hbw8.size; simp; omega) (fun b hb => (hlt8 b hb).1)
          have hE9 := ((hE8.ext h8a).own (own_ext HO8.out h8a) hgrow9 (by decide)).snoc ((own_ext hown8 h8a).kept hgrow9 (own_ne (own_ext hown8 h8a) (own_ext HO8.out h8a) (by decide)))
          have HO9 := Lib.hid hown9
          clear hown8 hown9 hgrow9 h8a hlt8
          go_wp2
          go_roundw
          case rel => exact ⟨k + 1, L ++ [r], hs ++ [.slice A8 r.length c8], by omega, by go_num, by rw [HN.out, if_pos FR, HL.out], by simpa using HO9.out, hE9, hbw9⟩
          case measure => simp [intOf]; omega
        | false =>
          have FR : F r = false := by rw [HFr.out]; rfl
          go_wp2
          go_roundw
          case rel => exact ⟨k + 1, L, hs, by omega, by go_num, by rw [HN.out, if_neg (by rw [FR]; decide)]; exact HL.out, HO.out, hE, hbw⟩
          case measure => simp [intOf]; omega
    | false =>
      go_wp2_with fail
      refine (rcmp_ ⟨v0, v1, v2⟩ kl _ hvs hls).mono ?_
      rintro e wt ⟨rfl, hb⟩
      have hbw := Below.trans hbw (Below.mono hb hbw.size)
      have hw1 := Below.trans hw1 (Below.mono hb hw1.size)
      have B1 := B1.ext hb
      have HO := Lib.hid (own_ext HO.out hb)
      have hE := hE.ext hb
      have BH := BH.ext hb
      have BK := BK.ext hb
      clear hql hqh hqk hb
      have hqh := BH.three (Below.refl _ _)
      have hqk := BK.three (Below.refl _ _)
      have hql : True := trivial
      cases p2 with
      | true =>
        cases p3 with
        | true =>
          have FR : F r = true := by rw [HFr.out]; rfl 
          have q1 := fun o => five B1 ((Below.refl _ _).alloc (Nat.le_refl _) o)
          have q2 := fun o => ((hw1.alloc hw1.size o).cell (p := ⟨bA, oA + k, none⟩) hbA).trans Hq.out
          go_wp2_with (at_builtin; refine wpList_append_own _ rfl (.tmp 48) (.tmp 53) 33 rfl wt.heap.size 39 i0 _ 3 32 Try.underlying33 hi hz0 hz1 hz2 rfl (by decide) _ _ _ rfl (own_empty (w := wt) rfl (Nat.le_refl _)) ⟨br, or_, none⟩ r.length cr (cellsV r) rfl ?b21 ?b22 ?b23 ?b24 ?b25 ?b26 ?_)
          case b21 => rw [lenV]
          case b22 => first | exact fun j u hu => Row.at_ ((hVr.1.ext hw1).ext ((Below.refl _ _).alloc (Nat.le_refl _) _)) hu | exact Row.src ((hVr.1.ext hw1).ext ((Below.refl _ _).alloc (Nat.le_refl _) _))
          case b23 => exact oneV r
          case b24 => unfold maxLen; omega
          case b25 => omega
          all_goals try (case b26 => first | omega | (simp; done) | (simp; omega))
          intro v8 w8 hown8 hgrow8 _
          obtain ⟨A8, c8, rfl⟩ := own_slice hown8
          try simp only [Nat.zero_add, List.nil_append] at hown8
          clear q1 q2
          have h7a : Below wt.heap.size wt (wt.alloc (.cells #[] 39)) := (Below.refl _ _).alloc (Nat.le_refl _) _
          have hbw8 := (hbw.alloc hbw.size (.cells #[] 39)).grown hgrow8 (by have := hbw.size; simp; omega) (fun b hb => by simp [Value.ownBlock] at hb; have := hbw.size; omega)
          have hb78 : Below wt.heap.size wt w8 := h7a.grown hgrow8 (by simp) (fun b hb => by simp [Value.ownBlock] at hb; omega)
          have HO8 := Lib.hid (own_ext HO.out hb78)
          have hE8 := hE.ext hb78
          clear hb78
          clear hgrow8
          go_wp2_with (at_builtin; refine wpList_append_own _ rfl (.tmp 47) (.tmp 55) 30 rfl W.heap.size 33 j0 _ 1 24 Try.underlying30 hj hy0 hy1 hy2 rfl (by decide) _ _ _ rfl (HO8.out.alloc _) ⟨w8.heap.size, 0, none⟩ 1 1 [.slice A8 r.length c8] rfl rfl ?d21 ?d22 ?d23 ?d24 ?d25 ?_)
          case d21 => exact (Row.of_blk (Blk.new w8 _ _) (Nat.zero_le _) 1 1 (Nat.le_refl _)).src
          case d22 => intro u hu; rw [List.mem_singleton] at hu; rw [hu]; rfl
          case d23 => unfold maxLen; omega
          case d24 => omega
          all_goals try (case d25 => have := hbw8.size; first | omega | (simp; done) | (simp; omega))
          intro v9 w9 hown9 hgrow9 _
          have h8a : Below w8.heap.size w8 (w8.alloc (.cells #[.slice A8 r.length c8] 33)) := (Below.refl _ _).alloc (Nat.le_refl _) _
          have hlt8 := HO8.out.lt
          have hbw9 := (hbw8.alloc hbw8.size (.cells #[.slice A8 r.length c8] 33)).grown hgrow9 (by have := hbw8.size; simp; omega) (fun b hb => (hlt8 b hb).1)
          have hE9 := ((hE8.ext h8a).own (own_ext HO8.out h8a) hgrow9 (by decide)).snoc ((own_ext hown8 h8a).kept hgrow9 (own_ne (own_ext hown8 h8a) (own_ext HO8.out h8a) (by decide)))
          have HO9 := Lib.hid hown9
          clear hown8 hown9 hgrow9 h8a hlt8
          go_wp2
          go_roundw
          case rel => exact ⟨k + 1, L ++ [r], hs ++ [.slice A8 r.length c8], by omega, by go_num, by rw [HN.out, if_pos FR, HL.out], by simpa using HO9.out, hE9, hbw9⟩
          case measure => simp [intOf]; omega
        | false =>
          go_wp2_with fail
          refine (rcmp_ ⟨v0, v1, v2⟩ kh _ hvs hhs).mono ?_
          rintro e ws ⟨rfl, hb⟩
          have hbqs := hb
          have hbw := Below.trans hbw (Below.mono hb hbw.size)
          have hw1 := Below.trans hw1 (Below.mono hb hw1.size)
          have B1 := B1.ext hb
          have HO := Lib.hid (own_ext HO.out hb)
          have hE := hE.ext hb
          clear hql hqh hqk hb
          cases p4 with
          | true =>
            have FR : F r = true := by rw [HFr.out]; rfl
            have q1 := fun o => five B1 ((Below.refl _ _).alloc (Nat.le_refl _) o)
            have q2 := fun o => ((hw1.alloc hw1.size o).cell (p := ⟨bA, oA + k, none⟩) hbA).trans Hq.out
            go_wp2_with (at_builtin; refine wpList_append_own _ rfl (.tmp 48) (.tmp 53) 33 rfl ws.heap.size 39 i0 _ 3 32 Try.underlying33 hi hz0 hz1 hz2 rfl (by decide) _ _ _ rfl (own_empty (w := ws) rfl (Nat.le_refl _)) ⟨br, or_, none⟩ r.length cr (cellsV r) rfl ?b2x1 ?b2x2 ?b2x3 ?b2x4 ?b2x5 ?b2x6 ?_)
            case b2x1 => rw [lenV]
            case b2x2 => first | exact fun j u hu => Row.at_ ((hVr.1.ext hw1).ext ((Below.refl _ _).alloc (Nat.le_refl _) _)) hu | exact Row.src ((hVr.1.ext hw1).ext ((Below.refl _ _).alloc (Nat.le_refl _) _))
            case b2x3 => exact oneV r
            case b2x4 => unfold maxLen; omega
            case b2x5 => omega
            all_goals try (case b2x6 => first | omega | (simp; done) | (simp; omega))
            intro v8 w8 hown8 hgrow8 _
            obtain ⟨A8, c8, rfl⟩ := own_slice hown8
            try simp only [Nat.zero_add, List.nil_append] at hown8
            clear q1 q2
            have h7a : Below ws.heap.size ws (ws.alloc (.cells #[] 39)) := (Below.refl _ _).alloc (Nat.le_refl _) _
            have hbw8 := (hbw.alloc hbw.size (.cells #[] 39)).grown hgrow8 (by have := hbw.size; simp; omega) (fun b hb => by simp [Value.ownBlock] at hb; have := hbw.size; omega)
            have hb78 : Below ws.heap.size ws w8 := h7a.grown hgrow8 (by simp) (fun b hb => by simp [Value.ownBlock] at hb; omega)
            have HO8 := Lib.hid (own_ext HO.out hb78)
            have hE8 := hE.ext hb78
            clear hb78
            clear hgrow8
            go_wp2_with (at_builtin; refine wpList_append_own _ rfl (.tmp 47) (.tmp 55) 30 rfl W.heap.size 33 j0 _ 1 24 Try.underlying30 hj hy0 hy1 hy2 rfl (by decide) _ _ _ rfl (HO8.out.alloc _) ⟨w8.heap.size, 0, none⟩ 1 1 [.slice A8 r.length c8] rfl rfl ?d2x1 ?d2x2 ?d2x3 ?d2x4 ?d2x5 ?_)
            case d2x1 => exact (Row.of_blk (Blk.new w8 _ _) (Nat.zero_le _) 1 1 (Nat.le_refl _)).src
            case d2x2 => intro u hu; rw [List.mem_singleton] at hu; rw [hu]; rfl
            case d2x3 => unfold maxLen; omega
            case d2x4 => omega
            all_goals try (case d2x5 => have := hbw8.size; first | omega | (simp; done) | (simp; omega))
            intro v9 w9 hown9 hgrow9 _
            have h8a : Below w8.heap.size w8 (w8.alloc (.cells #[.slice A8 r.length c8] 33)) := (Below.refl _ _).alloc (Nat.le_refl _) _
            have hlt8 := HO8.out.lt
            have hbw9 := (hbw8.alloc hbw8.size (.cells #[.slice A8 r.length c8] 33)).grown hgrow9 (by have := hbw8.size; simp; omega) (fun b hb => (hlt8 b hb).1)
            have hE9 := ((hE8.ext h8a).own (own_ext HO8.out h8a) hgrow9 (by decide)).snoc ((own_ext hown8 h8a).kept hgrow9 (own_ne (own_ext hown8 h8a) (own_ext HO8.out h8a) (by decide)))
            have HO9 := Lib.hid hown9
            clear hown8 hown9 hgrow9 h8a hlt8
            go_wp2
            go_roundw
            case rel => exact ⟨k + 1, L ++ [r], hs ++ [.slice A8 r.length c8], by omega, by go_num, by rw [HN.out, if_pos FR, HL.out], by simpa using HO9.out, hE9, hbw9⟩
            case measure => simp [intOf]; omega
          | false =>
            have FR : F r = false := by rw [HFr.out]; rfl
            go_wp2
            go_roundw
            case rel => exact ⟨k + 1, L, hs, by omega, by go_num, by rw [HN.out, if_neg (by rw [FR]; decide)]; exact HL.out, HO.out, hE, hbw⟩
            case measure => simp [intOf]; omega
      | false =>
        have FR : F r = false := by rw [HFr.out]; rfl
        go_wp2
        go_roundw
        case rel => exact ⟨k + 1, L, hs, by omega, by go_num, by rw [HN.out, if_neg (by rw [FR]; decide)]; exact HL.out, HO.out, hE, hbw⟩
        case measure => simp [intOf]; omega
end Go.Proofs.Ytalfacbkofgdjaa.tb
