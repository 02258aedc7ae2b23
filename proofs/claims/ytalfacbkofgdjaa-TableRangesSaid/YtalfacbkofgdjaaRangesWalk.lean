/- TableRanges: the walk. Printed by genranges.py. -/
import Derived.Test.YtalfacbkofgdjaaU4
import Derived.Test.YtalfacbkofgdjaaT
import Derived.Test.YtalfacbkofgdjaaJ
namespace Go.Proofs.Ytalfacbkofgdjaa.tb
open Go.ChangeShapes Go.WideShapes Go.ChangeAt Go.RowKit Go.Proofs.Ytalfacbkofgdjaa.lib Go.Proofs.Ytalfacbkofgdjaa.val
set_option linter.unusedVariables false

theorem ext_cell {w w' : World} {p : Addr} {v : Value} (h : Ext w w') (k : w.cell? p = some v) : w'.cell? p = some v := (Below.cell h (World.block_lt_of_cell? w p k)).trans k
/-- a block of noughts is not one whose values are of a kind -/
theorem zero_blk {w : World} {g b o : Nat} {k : Int} (h : Blk w g 39 #[.int .i64 0, .int .i64 0, .string ⟨#[]⟩]) (e : w.cell? ⟨b, o, none⟩ = some (.int .i64 k)) (hk : k ≠ 0) : b ≠ g := by
  rintro rfl
  have h2 := h.cell o
  rw [e] at h2
  match o, h2 with
  | 0, h2 => simp at h2; exact hk h2
  | 1, h2 => simp at h2; exact hk h2
  | 2, h2 => simp at h2
  | o + 3, h2 => simp at h2
theorem far3 {w w' : World} {g b o : Nat} {x y z : Value} (hw : w' = ((w.setCell ⟨g, 0, none⟩ x).setCell ⟨g, 1, none⟩ y).setCell ⟨g, 2, none⟩ z) (h : b ≠ g) : w'.cell? ⟨b, o, none⟩ = w.cell? ⟨b, o, none⟩ := by
  subst hw
  apply World.cell?_of_block
  show _ = w.heap[b]?
  rw [Below.heap_setCell _ _ _ _ (by simpa using h), Below.heap_setCell _ _ _ _ (by simpa using h), Below.heap_setCell _ _ _ _ (by simpa using h)]
set_option maxRecDepth 1000000 in
set_option maxHeartbeats 8000000 in
theorem ranges_walk (s : ByteArray) (A : Option Addr) (n c : Nat) (l : List Col) (key : Int) (only : Bool) (Ai : Option Addr) (ni ci : Nat) (zs : List Int) (a0 a1 : Int) (a2 : ByteArray) (b0 b1 : Int) (b2 : ByteArray) (pa pb : Int) (w : World) (hs : s.size ≤ maxLen) (hC : Cs w 0 A n c l) (hn : n ≤ maxLen) (hp : ∀ x ∈ l, RawC x) (hkey : ok64 key)
    (hI : Row w 0 Ai ni ci (flatK encI zs)) (hni : zs.length = ni) (hi2 : ni ≤ maxLen) (hz : ∀ x ∈ zs, ok64 x) (hra : RawV ⟨a0, a1, a2⟩) (hrb : RawV ⟨b0, b1, b2⟩) (hpa : ok64 pa) (hpb : ok64 pb) :
    Calls Try.prog 5 #[.agg #[.string s, .slice A n c, .int .i64 key, .bool only], .slice Ai ni ci, .agg #[.int .i64 a0, .int .i64 a1, .string a2], .agg #[.int .i64 b0, .int .i64 b1, .string b2], .int .i64 pa, .int .i64 pb] w fun e W' => e = .returned (.bool true) ∧ Below w.heap.size w W' := by
  unfold maxLen at hi2
  obtain ⟨hpa1, hpa2⟩ := hpa
  obtain ⟨hpb1, hpb2⟩ := hpb
  have hsa := hra.s
  have hsb := hrb.s
  have HRA := Lib.hid hra
  have HRB := Lib.hid hrb
  have HNI := Lib.hid hni
  have HZ := Lib.hid hz
  clear hni hz hra hrb
  go_enter Try.func5, Try.ntmps5
  go_upto_region 1 with fail
  obtain ⟨W0, hW_, hbW0, BS, BL, BH⟩ : ∃ W_, W_ = (((w.alloc (.cells #[.string s, .slice A n c, .int .i64 key, .bool only] 24)).alloc (.cells #[.int .i64 a0, .int .i64 a1, .string a2] 39)).alloc (.cells #[.int .i64 b0, .int .i64 b1, .string b2] 39)) ∧ Below w.heap.size w W_ ∧ Blk W_ (w.heap.size) 24 #[.string s, .slice A n c, .int .i64 key, .bool only] ∧ Blk W_ (w.heap.size + 1) 39 #[.int .i64 a0, .int .i64 a1, .string a2] ∧ Blk W_ (w.heap.size + 1 + 1) 39 #[.int .i64 b0, .int .i64 b1, .string b2] :=
    ⟨_, rfl, ((((Below.refl _ _).alloc (Nat.le_refl _) _).alloc (by simp; try omega) _).alloc (by simp; try omega) _), (((blk_new_at w (w.heap.size) _ _ (by simp)).alloc _).alloc _), ((blk_new_at (w.alloc (.cells #[.string s, .slice A n c, .int .i64 key, .bool only] 24)) (w.heap.size + 1) _ _ (by simp)).alloc _), (blk_new_at ((w.alloc (.cells #[.string s, .slice A n c, .int .i64 key, .bool only] 24)).alloc (.cells #[.int .i64 a0, .int .i64 a1, .string a2] 39)) (w.heap.size + 1 + 1) _ _ (by simp))⟩
  rw [← hW_]
  clear hW_
  go_wp2_with fail
  refine (known_ _).mono ?_
  rintro e w1 ⟨rfl, hb1⟩
  have hbw1 := Below.trans hbW0 (Below.mono hb1 hbW0.size)
  have BS := BS.ext hb1
  have BL := BL.ext hb1
  have BH := BH.ext hb1
  clear hbW0 hb1
  have q := four BS (Below.refl _ _)
  go_wp2_with fail
  refine (few9_ s A n c l key only _ hs (hC.ext hbw1) hn (fun x hx => (hp x hx).s)).mono ?_
  rintro e w2 ⟨⟨b, rfl⟩, hb2⟩
  have hbw2 := Below.trans hbw1 (Below.mono hb2 hbw1.size)
  have BS := BS.ext hb2
  have BL := BL.ext hb2
  have BH := BH.ext hb2
  clear hbw1 hb2 q
  by_cases hbt : b = true
  case neg =>
    obtain rfl : b = false := by cases b with | false => rfl | true => exact absurd rfl hbt
    go_wp2
    go_ret
    exact ⟨rfl, hbw2⟩
  subst hbt
  have q := four BS (Below.refl _ _)
  have ql := BL.three (Below.refl _ _)
  have qh := BH.three (Below.refl _ _)
  by_cases h1 : 60 < a2.size
  case pos =>
    have hd1 : decide ((60 : Int) < (a2.size : Int)) = true := by simp; omega
    have hd1n : decide (60 < a2.size) = true := by simp; omega
    go_wp2
    go_ret
    exact ⟨rfl, hbw2⟩
  have hd1 : decide ((60 : Int) < (a2.size : Int)) = false := by simp; omega
  have hd1n : decide (60 < a2.size) = false := by simp; omega
  by_cases h2 : 60 < b2.size
  case pos =>
    have hd2 : decide ((60 : Int) < (b2.size : Int)) = true := by simp; omega
    have hd2n : decide (60 < b2.size) = true := by simp; omega
    go_wp2
    go_ret
    exact ⟨rfl, hbw2⟩
  have hd2 : decide ((60 : Int) < (b2.size : Int)) = false := by simp; omega
  have hd2n : decide (60 < b2.size) = false := by simp; omega
  go_wp2_with fail
  refine (good9_ s A n c l key only _ (hC.ext hbw2) hn hp hkey).mono ?_
  rintro e w3 ⟨A7, c7, rfl, hC7, hF7, hb3⟩
  have hbw3 := Below.trans hbw2 (Below.mono hb3 hbw2.size)
  have hS : SOk (goodS l key only) := good_ok l key only
  generalize goodS l key only = S at *
  have BL := BL.ext hb3
  have BH := BH.ext hb3
  have HBL := Lib.hid (fun w' (h : Below w3.heap.size w3 w') => BL.ext h)
  have HBH := Lib.hid (fun w' (h : Below w3.heap.size w3 w') => BH.ext h)
  clear hbw2 hb3 q ql qh hd1 hd1n hd2 hd2n BS BL BH
  have h6 := hS.six
  have hn7 : S.cols.length ≤ 100 := by omega
  simp only [schA]
  go_wp2_with fail
  obtain ⟨W, hW_, hbW1, B7, BX⟩ : ∃ W_, W_ = ((w3.alloc (.cells #[.string S.name, .slice A7 S.cols.length c7, .int .i64 S.key, .bool S.only] 24)).alloc (.cells #[.string S.name, .slice A7 S.cols.length c7, .int .i64 S.key, .bool S.only, .slice none 0 0] 48)) ∧ Below w3.heap.size w3 W_ ∧ Blk W_ (w3.heap.size) 24 #[.string S.name, .slice A7 S.cols.length c7, .int .i64 S.key, .bool S.only] ∧ Blk W_ (w3.heap.size + 1) 48 #[.string S.name, .slice A7 S.cols.length c7, .int .i64 S.key, .bool S.only, .slice none 0 0] :=
    ⟨_, rfl, (((Below.refl _ _).alloc (Nat.le_refl _) _).alloc (by simp; try omega) _), ((blk_new_at w3 (w3.heap.size) _ _ (by simp)).alloc _), (blk_new_at (w3.alloc (.cells #[.string S.name, .slice A7 S.cols.length c7, .int .i64 S.key, .bool S.only] 24)) (w3.heap.size + 1) _ _ (by simp))⟩
  rw [← hW_]
  clear hW_
  have hbW := Below.trans hbw3 (Below.mono hbW1 hbw3.size)
  have hgw : w.heap.size ≤ w3.heap.size := hbw3.size
  have hCs : Hid (∀ w', Below w3.heap.size w3 w' → Cs w' 0 A7 S.cols.length c7 S.cols) := Lib.hid (fun w' h => (hC7.ext h).base (Nat.zero_le _))
  have hg3 : Below w3.heap.size w3 W := hbW1
  clear hbW1 hC7 hF7 hbW
  go_loopw [15] (fun i wr => ∃ (k : Nat) (rows : List (List V)) (A2 : Option Addr) (n2 c2 : Nat), i = .int .i64 k ∧ k ≤ ni ∧ k ≤ 40 ∧ rows.length ≤ k ∧ Ok S.cols S.key rows ∧ Blk wr (w3.heap.size + 1) 48 #[.string S.name, .slice A7 S.cols.length c7, .int .i64 S.key, .bool S.only, .slice A2 n2 c2] ∧ Rs wr (w3.heap.size + 1 + 1) A2 n2 c2 rows ∧ Fine A2 ∧ Blk wr w3.heap.size 24 #[.string S.name, .slice A7 S.cols.length c7, .int .i64 S.key, .bool S.only] ∧ Below w3.heap.size w3 wr) (fun i _ => ni - (intOf i).toNat)
  case atStart => exact ⟨0, [], none, 0, 0, rfl, Nat.zero_le _, Nat.zero_le _, Nat.zero_le _, hS.ok0, BX, Rs.nil _ _, .inl rfl, B7, hg3⟩
  case round =>
    clear B7 BX hg3
    obtain ⟨k, rows, A2, n2, c2, rfl, hk, hk30, hlen, hOk, BX, hRx, hF8, B7, hbg⟩ := hrel
    have hOk := Lib.hid hOk
    have hbw := Below.trans hbw3 (Below.mono hbg hbw3.size)
    by_cases hgo : k < ni ∧ k < 40
    case neg =>
      have hcond : (¬ k < ni ∧ decide ((k : Int) < (ni : Int)) = false) ∨ (k < ni ∧ decide ((k : Int) < (ni : Int)) = true ∧ ¬ k < 40 ∧ decide ((k : Int) < 40) = false) := by
        by_cases h : k < ni
        · exact .inr ⟨h, by simp; omega, by omega, by simp; omega⟩
        · exact .inl ⟨h, by simp; omega⟩
      clear hgo
      rcases hcond with ⟨hq0, hd1⟩ | ⟨hq0, hd1, hq1, hd2⟩
      all_goals
        have hkl : S.key < S.cols.length := hS.key
        have hki : (S.key : Int) < (S.cols.length : Int) := by omega
        have hpos : 0 < S.cols.length := hS.pos
        have q8 := five BX (Below.refl _ _)
        go_wp2_with fail
        clear q8
        refine (of_ S A7 S.cols.length c7 A2 n2 c2 _).mono ?_
        rintro e w5 ⟨rfl, hb5⟩
        simp only [tabA]
        go_wp2_with fail
        obtain ⟨W6, hW_, hb6, B16⟩ : ∃ W_, W_ = (w5.alloc (.cells #[.string S.name, .slice A7 S.cols.length c7, .int .i64 S.key, .bool S.only, .slice A2 n2 c2] 32)) ∧ Below w5.heap.size w5 W_ ∧ Blk W_ (w5.heap.size) 32 #[.string S.name, .slice A7 S.cols.length c7, .int .i64 S.key, .bool S.only, .slice A2 n2 c2] :=
          ⟨_, rfl, ((Below.refl _ _).alloc (Nat.le_refl _) _), (blk_new_at w5 (w5.heap.size) _ _ (by simp))⟩
        rw [← hW_]
        clear hW_
        have hb56 := Below.trans hb5 (Below.mono hb6 hb5.size)
        have BX := BX.ext hb56
        have B7 := B7.ext hb56
        have hRx := hRx.ext hb56
        have hbg := Below.trans hbg (Below.mono hb56 hbg.size)
        clear hb5 hb6 hb56 hbw
        have D7 := fun w' (h : Below W6.heap.size W6.drew w') => four B7 (Below.trans (Below.refl _ _).drew h)
        refine wp_region_mixJ2 ⟨14, 17, fun g => .pointer (some ⟨g, 0, none⟩), .cells #[.int .i64 0, .int .i64 0, .string ⟨#[]⟩] 39⟩ ⟨15, 18, fun g => .pointer (some ⟨g, 0, none⟩), .cells #[.int .i64 0, .int .i64 0, .string ⟨#[]⟩] 39⟩
          [(0, true), (1, true), (3, true), (4, true), (7, true), (8, true), (10, true), (11, true)] [(2, false), (5, true), (6, true), (9, false), (12, true), (13, true)] [(16, false), (17, false)] (by kernel_rfl) (by kernel_rfl) ?_
        repeat ((with_reducible show wpI _ _ _ _ _ ((_, true) :: _) _ _); (first | (refine wpI_on (v := ?_) rfl rfl (wanted_free rfl) (fun w' hS => ?_) ?_; rotate_left; (focus (go_simp; (try with_reducible rfl); done)); try simp only [List.setIfInBounds_toArray, List.set_cons_zero, List.set_cons_succ]) | (refine wpI_on (v := ?_) rfl rfl (wanted_yes rfl rfl rfl) (fun w' hS => ?_) ?_; rotate_left; (focus (go_simp; (try with_reducible rfl); done)); try simp only [List.setIfInBounds_toArray, List.set_cons_zero, List.set_cons_succ]) | (refine wpI_off rfl rfl (wanted_no rfl rfl rfl) ?_; try simp only [List.setIfInBounds_toArray, List.set_cons_zero, List.set_cons_succ]) | (refine wpI_off rfl rfl (wanted_undef rfl rfl rfl) ?_; try simp only [List.setIfInBounds_toArray, List.set_cons_zero, List.set_cons_succ])))
        refine wpI_done ⟨?_, ?_⟩
        · intro u hu
          simp only [List.mem_cons, List.not_mem_nil, or_false] at hu
          rcases hu with rfl | rfl <;> exact ⟨_, rfl, rfl, wanted_free rfl, fun w => by go_simp⟩
        clear D7
        refine wpJ_do rfl (wanted_free rfl) (fun wI hI hSI K hK => ?_); go_simp
        have hId : Below W6.heap.size W6 wI := Below.trans (Below.refl _ _).drew hSI
        refine (fit_ S 0 A7 S.cols.length c7 pa _ (hCs.out _ (Below.trans hbg (Below.mono hId hbg.size))) hn7 hS.kinds hpa1 hpa2).mono ?_
        rintro e w8 ⟨Ar, cr, rfl, hown8, hb8⟩
        obtain ⟨kp, hrp⟩ := row_i hS pa
        generalize fitL S.cols pa = rp at *
        have hVp : Vs w8 0 Ar S.cols.length cr rp := (Vs.of_own hown8).base (Nat.zero_le _)
        obtain ⟨bp, op, rfl, _, _, _⟩ := hVp.1.some_ (by omega)
        have hkpk := key_kind hS.ok0 hrp.fit
        rw [hrp.keyOf] at hkpk
        refine hK.out _ _ (fun w' => Below W6.heap.size W6.drew w' ∧ w'.cell? ⟨bp, op + S.key * 3, none⟩ = some (.int .i64 kp.k) ∧ w'.cell? ⟨bp, op + S.key * 3 + 1, none⟩ = some (.int .i64 kp.n) ∧ w'.cell? ⟨bp, op + S.key * 3 + 2, none⟩ = some (.string kp.s)) hb8 (fun x h => h.1)
          (fun x y h k => ⟨Below.trans k.1 (Below.mono h k.1.size), (ext_cell h k.2.1), (ext_cell h k.2.2.1), (ext_cell h k.2.2.2)⟩) ⟨Below.trans hSI (Below.mono hb8 hSI.size), hVp.at_ hrp.key⟩ ?_
        clear hK K hown8 hb8 hI hSI hId hVp
        repeat ((with_reducible show wpJ _ _ _ _ ((_, true) :: _) _ _ _); (refine wpJ_on (v := ?_) rfl rfl (wanted_free rfl) (fun w' hS => ?_) ?_; rotate_left; (focus (go_simp; (try with_reducible rfl); done)); try simp only [List.setIfInBounds_toArray, List.set_cons_zero, List.set_cons_succ]))
        refine wpJ_do rfl (wanted_free rfl) (fun wI hI hSI K hK => ?_); go_simp
        have hId : Below W6.heap.size W6 wI := Below.trans (Below.refl _ _).drew hSI.1
        refine (fit_ S 0 A7 S.cols.length c7 pb _ (hCs.out _ (Below.trans hbg (Below.mono hId hbg.size))) hn7 hS.kinds hpb1 hpb2).mono ?_
        rintro e w9 ⟨As, cs, rfl, hown9, hb9⟩
        obtain ⟨kq, hrq⟩ := row_i hS pb
        generalize fitL S.cols pb = rq at *
        have hVq : Vs w9 0 As S.cols.length cs rq := (Vs.of_own hown9).base (Nat.zero_le _)
        obtain ⟨bq, oq, rfl, _, _, _⟩ := hVq.1.some_ (by omega)
        have hkqk := key_kind hS.ok0 hrq.fit
        rw [hrq.keyOf] at hkqk
        refine hK.out _ _ (fun w' => Below W6.heap.size W6.drew w' ∧ (w'.cell? ⟨bp, op + S.key * 3, none⟩ = some (.int .i64 kp.k) ∧ w'.cell? ⟨bp, op + S.key * 3 + 1, none⟩ = some (.int .i64 kp.n) ∧ w'.cell? ⟨bp, op + S.key * 3 + 2, none⟩ = some (.string kp.s)) ∧ w'.cell? ⟨bq, oq + S.key * 3, none⟩ = some (.int .i64 kq.k) ∧ w'.cell? ⟨bq, oq + S.key * 3 + 1, none⟩ = some (.int .i64 kq.n) ∧ w'.cell? ⟨bq, oq + S.key * 3 + 2, none⟩ = some (.string kq.s)) hb9 (fun x h => ⟨h.1, h.2.1⟩)
          (fun x y h k => ⟨Below.trans k.1 (Below.mono h k.1.size), ⟨ext_cell h k.2.1.1, ext_cell h k.2.1.2.1, ext_cell h k.2.1.2.2⟩, ext_cell h k.2.2.1, ext_cell h k.2.2.2.1, ext_cell h k.2.2.2.2⟩)
          ⟨Below.trans hSI.1 (Below.mono hb9 hSI.1.size), ⟨ext_cell hb9 hSI.2.1, ext_cell hb9 hSI.2.2.1, ext_cell hb9 hSI.2.2.2⟩, hVq.at_ hrq.key⟩ ?_
        clear hK K hown9 hb9 hI hSI hId hVq
        repeat ((with_reducible show wpJ _ _ _ _ ((_, true) :: _) _ _ _); (refine wpJ_on (v := ?_) rfl rfl (wanted_free rfl) (fun w' hS => ?_) ?_; rotate_left; (focus (go_simp; (try with_reducible rfl); done)); try simp only [List.setIfInBounds_toArray, List.set_cons_zero, List.set_cons_succ]))
        refine wpJ_done ?_
        intro g17 g18 wf he hb hlo1 hhi1 hat1 hlo2 hhi2 hat2 hne
        try simp only [List.setIfInBounds_toArray, List.set_cons_zero, List.set_cons_succ]
        have C1 : Blk wf g17 39 #[.int .i64 0, .int .i64 0, .string ⟨#[]⟩] := hat1
        have C2 : Blk wf g18 39 #[.int .i64 0, .int .i64 0, .string ⟨#[]⟩] := hat2
        obtain ⟨hb, ⟨e0, e1, e2⟩, e3, e4, e5⟩ := hb
        have hp17 : bp ≠ g17 := zero_blk C1 e0 hkpk
        have hq17 : bq ≠ g17 := zero_blk C1 e3 hkqk
        have hp18 : bp ≠ g18 := zero_blk C2 e0 hkpk
        have hq18 : bq ≠ g18 := zero_blk C2 e3 hkqk
        clear hat1 hat2 he hhi1 hhi2
        have q := C1.three (Below.refl _ _)
        have f := C1.free3
        refine wpPerm_do rfl (wanted_free rfl) (fun K hK => ?_); go_simp
        clear q f
        obtain ⟨wh, hw, C1, hl1, hf1, hz1⟩ := C1.set3 (.int .i64 kp.k) (.int .i64 kp.n) (.string kp.s)
        rw [← hw]
        have HW := Lib.hid hw
        clear hw
        have C2 := hf1 _ _ _ hne.symm C2
        have hb := Below.trans hb (hl1 _ hlo1)
        have e0 := (far3 HW.out hp17).trans e0
        have e1 := (far3 HW.out hp17).trans e1
        have e2 := (far3 HW.out hp17).trans e2
        have e3 := (far3 HW.out hq17).trans e3
        have e4 := (far3 HW.out hq17).trans e4
        have e5 := (far3 HW.out hq17).trans e5
        refine hK.out _ _ ⟨hb, ⟨e0, e1, e2⟩, e3, e4, e5⟩ ?_
        clear hK K HW
        have q := C2.three (Below.refl _ _)
        have f := C2.free3
        refine wpPerm_do rfl (wanted_free rfl) (fun K hK => ?_); go_simp
        clear q f
        obtain ⟨wj, hw, C2, hl2, hf2, hz2⟩ := C2.set3 (.int .i64 kq.k) (.int .i64 kq.n) (.string kq.s)
        rw [← hw]
        have HW := Lib.hid hw
        clear hw
        have C1 := hf2 _ _ _ hne C1
        have hb := Below.trans hb (hl2 _ hlo2)
        refine hK.out _ _ ⟨hb, ⟨(far3 HW.out hp18).trans e0, (far3 HW.out hp18).trans e1, (far3 HW.out hp18).trans e2⟩, (far3 HW.out hq18).trans e3, (far3 HW.out hq18).trans e4, (far3 HW.out hq18).trans e5⟩ ?_
        clear hK K HW e0 e1 e2 e3 e4 e5 hf1 hf2 hz1 hz2 hl1 hl2
        refine wpPerm_done ?_
        have hbj := Below.trans ((Below.refl W6.heap.size W6).drew) hb
        have B7 := B7.ext hbj
        have BX := BX.ext hbj
        have B16 := B16.ext hbj
        have hRx := hRx.ext hbj
        have hbg := Below.trans hbg (Below.mono hbj hbg.size)
        clear hbj hb hp17 hp18 hq17 hq18 hlo1 hlo2 hne hkpk hkqk
        have ql := fun o => (HBL.out _ (hbg.alloc hbg.size o)).three (Below.refl _ _)
        have qh := fun o => (HBH.out _ (hbg.alloc hbg.size o)).three (Below.refl _ _)
        go_wp2_with fail
        clear ql qh
        obtain ⟨WK, hW_, hbk, B19, B20⟩ : ∃ W_, W_ = ((wj.alloc (.cells #[.int .i64 0, .int .i64 0, .string ⟨#[]⟩] 39)).alloc (.cells #[.int .i64 a0, .int .i64 a1, .string a2, .int .i64 b0, .int .i64 b1, .string b2] 39)) ∧ Below wj.heap.size wj W_ ∧ Blk W_ (wj.heap.size) 39 #[.int .i64 0, .int .i64 0, .string ⟨#[]⟩] ∧ Blk W_ (wj.heap.size + 1) 39 #[.int .i64 a0, .int .i64 a1, .string a2, .int .i64 b0, .int .i64 b1, .string b2] :=
          ⟨_, rfl, (((Below.refl _ _).alloc (Nat.le_refl _) _).alloc (by simp; try omega) _), ((blk_new_at wj (wj.heap.size) _ _ (by simp)).alloc _), (blk_new_at (wj.alloc (.cells #[.int .i64 0, .int .i64 0, .string ⟨#[]⟩] 39)) (wj.heap.size + 1) _ _ (by simp))⟩
        rw [← hW_]
        clear hW_
        have hVk : Vs WK 0 (some ⟨wj.heap.size + 1, 0, none⟩) 2 2 [⟨a0, a1, a2⟩, ⟨b0, b1, b2⟩] := ⟨Row.of_blk B20 (Nat.zero_le _) 2 2 (Nat.le_refl _), rfl⟩
        refine (good5_ [⟨a0, a1, a2⟩, ⟨b0, b1, b2⟩] 0 (some ⟨wj.heap.size + 1, 0, none⟩) 2 2 _ (by decide) hVk (by
          intro x hx
          simp only [List.mem_cons, List.not_mem_nil, or_false] at hx
          rcases hx with rfl | rfl
          · exact HRA.out
          · exact HRB.out)).mono ?_
        rintro e w10 ⟨A20, c20, rfl, hown20, hb10⟩
        obtain ⟨va, hva⟩ : ∃ v, gV ⟨a0, a1, a2⟩ = v := ⟨_, rfl⟩
        obtain ⟨vb, hvb⟩ : ∃ v, gV ⟨b0, b1, b2⟩ = v := ⟨_, rfl⟩
        have hca : vchk va = 0 := by rw [← hva]; exact gV_chk _
        have hcb : vchk vb = 0 := by rw [← hvb]; exact gV_chk _
        have hV20 : Vs w10 0 A20 2 c20 [va, vb] := by rw [← hva, ← hvb]; exact (Vs.of_own hown20).base (Nat.zero_le _)
        obtain ⟨b20, rfl, _, _⟩ := own_some hown20 (by decide)
        have hbk10 := Below.trans hbk (Below.mono hb10 hbk.size)
        have B7 := B7.ext hbk10
        have BX := BX.ext hbk10
        have B16 := B16.ext hbk10
        have hRx := hRx.ext hbk10
        have C1 := C1.ext hbk10
        have C2 := C2.ext hbk10
        have B19 := B19.ext hb10
        have hbg := Below.trans hbg (Below.mono hbk10 hbg.size)
        have hbw := Below.trans hbw3 (Below.mono hbg hbw3.size)
        clear hva hvb hown20 hb10 hbk hbk10 hVk B20
        have hch := hrp.chk
        have hcq := hrq.chk
        have hrl : rows.length ≤ 1000 := by omega
        have Hrg := Lib.hid (fun kk kh w' (h : Below w10.heap.size w10.drew w') => range_ S rows kk kh 0 A7 S.cols.length c7 A2 n2 c2 w' ((hRx.base (Nat.zero_le _)).ext (Below.trans (Below.refl _ _).drew h)) hOk.out hn7 hrl)
        have Hrr := Lib.hid (fun kk kh k1 k2 w' (h : Below w10.heap.size w10.drew w') => rrange_ S rows kk kh 0 A7 S.cols.length c7 A2 n2 c2 w' ((hRx.base (Nat.zero_le _)).ext (Below.trans (Below.refl _ _).drew h)) hOk.out hn7 hrl k1 k2)
        have Heq := Lib.hid (fun kk kh c1 c2 => range_eq hOk.out (lo := kk) (hi := kh) c1 c2)
        have Hfl := Lib.hid (fun kk kh => (show (rows.filter (rangeB S.key kk kh)).length ≤ 100000 from Nat.le_trans (List.length_filter_le _ _) (by omega)))
        have Hsm := Lib.hid (fun kk kh r (hr : r ∈ rows.filter (rangeB S.key kk kh)) => hOk.out.small hn7 r (List.mem_filter.1 hr).1)
        have Hsm2 := Lib.hid (hOk.out.small hn7)
        have Hall := Lib.hid (range_all hOk.out)
        have Hrx := Lib.hid (fun w' (h : Below w10.heap.size w10.drew w') => (show Rs w10 0 A2 n2 c2 rows from hRx.base (Nat.zero_le _)).ext (Below.trans (Below.refl _ _).drew h))
        simp only [tabA] at Hrg Hrr
        have D16 := fun w' (h : Below w10.heap.size w10.drew w') => five B16 (Below.trans (Below.refl _ _).drew h)
        have DX := fun w' (h : Below w10.heap.size w10.drew w') => five BX (Below.trans (Below.refl _ _).drew h)
        have D17 := fun w' (h : Below w10.heap.size w10.drew w') => C1.three (Below.trans (Below.refl _ _).drew h)
        have D18 := fun w' (h : Below w10.heap.size w10.drew w') => C2.three (Below.trans (Below.refl _ _).drew h)
        have D19 := fun w' (h : Below w10.heap.size w10.drew w') => B19.three (Below.trans (Below.refl _ _).drew h)
        have Dv0 := fun w' (h : Below w10.heap.size w10.drew w') => (hV20.ext (Below.trans (Below.refl _ _).drew h)).at_ (show [va, vb][0]? = some va from rfl)
        have Dv1 := fun w' (h : Below w10.heap.size w10.drew w') => (hV20.ext (Below.trans (Below.refl _ _).drew h)).at_ (show [va, vb][1]? = some vb from rfl)
        simp only [Nat.zero_mul, Nat.one_mul, Nat.zero_add, Nat.add_zero] at Dv0 Dv1
        clear B7 BX B16 C1 C2 B19 hV20 hRx hrp hrq
        go_wp2_with fail
        refine wp_region_one [(0, true), (1, true), (2, true), (4, true), (5, true), (6, true), (3, false), (7, false), (8, false), (9, true), (10, true), (11, true), (12, true), (13, true), (14, true), (15, true), (16, true), (18, true), (19, true), (20, true), (21, true), (22, true), (23, true), (24, true), (17, false), (25, false), (26, false), (27, true), (28, true), (29, true), (30, true), (31, true), (33, true), (34, true), (35, true), (32, false), (36, false), (37, false), (38, true), (39, true), (40, true), (41, true), (42, true), (44, true), (45, true), (43, false), (46, false), (47, true), (48, true)] (by kernel_rfl) (by kernel_rfl) (by kernel_rfl) (by decide) ?_
        have hq : Below w10.heap.size w10.drew w10.drew := Below.refl _ _
        repeat ((with_reducible show wpPerm _ _ _ _ ((_, true) :: _) _ _); (first | (refine wpPerm_on (v := ?_) rfl rfl (wanted_free rfl) (fun w' hS => ?_) ?_; rotate_left; (focus (go_simp; (try with_reducible rfl); done)); try simp only [List.setIfInBounds_toArray, List.set_cons_zero, List.set_cons_succ]) | (refine wpPerm_on (v := ?_) rfl rfl (wanted_yes rfl rfl rfl) (fun w' hS => ?_) ?_; rotate_left; (focus (go_simp; (try with_reducible rfl); done)); try simp only [List.setIfInBounds_toArray, List.set_cons_zero, List.set_cons_succ]) | (refine wpPerm_off rfl rfl (wanted_no rfl rfl rfl) ?_; try simp only [List.setIfInBounds_toArray, List.set_cons_zero, List.set_cons_succ]) | (refine wpPerm_off rfl rfl (wanted_undef rfl rfl rfl) ?_; try simp only [List.setIfInBounds_toArray, List.set_cons_zero, List.set_cons_succ])))
        refine wpPerm_do rfl (wanted_free rfl) (fun K hK => ?_); go_simp
        refine (Hrg.out kp kq _ hq).mono ?_
        rintro e wa ⟨Aa, ca, rfl, hRa, _, hba⟩
        have hqa := Below.trans hq (Below.mono hba hq.size)
        refine hK.out _ _ hqa ?_
        clear hK K
        refine wpPerm_do rfl (wanted_free rfl) (fun K hK => ?_); go_simp
        refine (Hrr.out kp kq hch hcq _ hqa).mono ?_
        rintro e wb ⟨Ab, nb, cb, rfl, hRb, hbb⟩
        have hqb := Below.trans hqa (Below.mono hbb hqa.size)
        refine hK.out _ _ hqb ?_
        clear hK K
        rw [Heq.out kp kq hch hcq] at hRb
        refine wpPerm_do rfl (wanted_free rfl) (fun K hK => ?_); go_simp
        refine (rows_ (rows.filter (rangeB S.key kp kq)) _ 0 _ _ _ _ _ _ _ (Hfl.out kp kq) (Hsm.out kp kq) (hRa.ext hbb) hRb).mono ?_
        rintro e wc ⟨rfl, hbc⟩
        have hq := Below.trans hqb (Below.mono hbc hqb.size)
        refine hK.out _ _ hq ?_
        clear hK K hqa hqb hRa hRb hba hbb hbc
        repeat ((with_reducible show wpPerm _ _ _ _ ((_, true) :: _) _ _); (first | (refine wpPerm_on (v := ?_) rfl rfl (wanted_free rfl) (fun w' hS => ?_) ?_; rotate_left; (focus (go_simp; (try with_reducible rfl); done)); try simp only [List.setIfInBounds_toArray, List.set_cons_zero, List.set_cons_succ]) | (refine wpPerm_on (v := ?_) rfl rfl (wanted_yes rfl rfl rfl) (fun w' hS => ?_) ?_; rotate_left; (focus (go_simp; (try with_reducible rfl); done)); try simp only [List.setIfInBounds_toArray, List.set_cons_zero, List.set_cons_succ]) | (refine wpPerm_off rfl rfl (wanted_no rfl rfl rfl) ?_; try simp only [List.setIfInBounds_toArray, List.set_cons_zero, List.set_cons_succ]) | (refine wpPerm_off rfl rfl (wanted_undef rfl rfl rfl) ?_; try simp only [List.setIfInBounds_toArray, List.set_cons_zero, List.set_cons_succ])))
        refine wpPerm_do rfl (wanted_yes rfl rfl rfl) (fun K hK => ?_); go_simp
        refine (Hrg.out va vb _ hq).mono ?_
        rintro e wa ⟨Aa, ca, rfl, hRa, _, hba⟩
        have hqa := Below.trans hq (Below.mono hba hq.size)
        refine hK.out _ _ hqa ?_
        clear hK K
        refine wpPerm_do rfl (wanted_yes rfl rfl rfl) (fun K hK => ?_); go_simp
        refine (Hrr.out va vb hca hcb _ hqa).mono ?_
        rintro e wb ⟨Ab, nb, cb, rfl, hRb, hbb⟩
        have hqb := Below.trans hqa (Below.mono hbb hqa.size)
        refine hK.out _ _ hqb ?_
        clear hK K
        rw [Heq.out va vb hca hcb] at hRb
        refine wpPerm_do rfl (wanted_yes rfl rfl rfl) (fun K hK => ?_); go_simp
        refine (rows_ (rows.filter (rangeB S.key va vb)) _ 0 _ _ _ _ _ _ _ (Hfl.out va vb) (Hsm.out va vb) (hRa.ext hbb) hRb).mono ?_
        rintro e wc ⟨rfl, hbc⟩
        have hq := Below.trans hqb (Below.mono hbc hqb.size)
        refine hK.out _ _ hq ?_
        clear hK K hqa hqb hRa hRb hba hbb hbc
        repeat ((with_reducible show wpPerm _ _ _ _ ((_, true) :: _) _ _); (first | (refine wpPerm_on (v := ?_) rfl rfl (wanted_free rfl) (fun w' hS => ?_) ?_; rotate_left; (focus (go_simp; (try with_reducible rfl); done)); try simp only [List.setIfInBounds_toArray, List.set_cons_zero, List.set_cons_succ]) | (refine wpPerm_on (v := ?_) rfl rfl (wanted_yes rfl rfl rfl) (fun w' hS => ?_) ?_; rotate_left; (focus (go_simp; (try with_reducible rfl); done)); try simp only [List.setIfInBounds_toArray, List.set_cons_zero, List.set_cons_succ]) | (refine wpPerm_off rfl rfl (wanted_no rfl rfl rfl) ?_; try simp only [List.setIfInBounds_toArray, List.set_cons_zero, List.set_cons_succ]) | (refine wpPerm_off rfl rfl (wanted_undef rfl rfl rfl) ?_; try simp only [List.setIfInBounds_toArray, List.set_cons_zero, List.set_cons_succ])))
        refine wpPerm_do rfl (wanted_yes rfl rfl rfl) (fun K hK => ?_); go_simp
        refine (Hrg.out zV kq _ hq).mono ?_
        rintro e wa ⟨Aa, ca, rfl, hRa, _, hba⟩
        have hqa := Below.trans hq (Below.mono hba hq.size)
        refine hK.out _ _ hqa ?_
        clear hK K
        refine wpPerm_do rfl (wanted_yes rfl rfl rfl) (fun K hK => ?_); go_simp
        refine (Hrr.out zV kq zV_chk hcq _ hqa).mono ?_
        rintro e wb ⟨Ab, nb, cb, rfl, hRb, hbb⟩
        have hqb := Below.trans hqa (Below.mono hbb hqa.size)
        refine hK.out _ _ hqb ?_
        clear hK K
        rw [Heq.out zV kq zV_chk hcq] at hRb
        refine wpPerm_do rfl (wanted_yes rfl rfl rfl) (fun K hK => ?_); go_simp
        refine (rows_ (rows.filter (rangeB S.key zV kq)) _ 0 _ _ _ _ _ _ _ (Hfl.out zV kq) (Hsm.out zV kq) (hRa.ext hbb) hRb).mono ?_
        rintro e wc ⟨rfl, hbc⟩
        have hq := Below.trans hqb (Below.mono hbc hqb.size)
        refine hK.out _ _ hq ?_
        clear hK K hqa hqb hRa hRb hba hbb hbc
        repeat ((with_reducible show wpPerm _ _ _ _ ((_, true) :: _) _ _); (first | (refine wpPerm_on (v := ?_) rfl rfl (wanted_free rfl) (fun w' hS => ?_) ?_; rotate_left; (focus (go_simp; (try with_reducible rfl); done)); try simp only [List.setIfInBounds_toArray, List.set_cons_zero, List.set_cons_succ]) | (refine wpPerm_on (v := ?_) rfl rfl (wanted_yes rfl rfl rfl) (fun w' hS => ?_) ?_; rotate_left; (focus (go_simp; (try with_reducible rfl); done)); try simp only [List.setIfInBounds_toArray, List.set_cons_zero, List.set_cons_succ]) | (refine wpPerm_off rfl rfl (wanted_no rfl rfl rfl) ?_; try simp only [List.setIfInBounds_toArray, List.set_cons_zero, List.set_cons_succ]) | (refine wpPerm_off rfl rfl (wanted_undef rfl rfl rfl) ?_; try simp only [List.setIfInBounds_toArray, List.set_cons_zero, List.set_cons_succ])))
        refine wpPerm_do rfl (wanted_yes rfl rfl rfl) (fun K hK => ?_); go_simp
        refine (Hrg.out zV zV _ hq).mono ?_
        rintro e wa ⟨Aa, ca, rfl, hRa, _, hba⟩
        have hqa := Below.trans hq (Below.mono hba hq.size)
        refine hK.out _ _ hqa ?_
        clear hK K
        rw [Hall.out] at hRa ⊢
        repeat ((with_reducible show wpPerm _ _ _ _ ((_, true) :: _) _ _); (first | (refine wpPerm_on (v := ?_) rfl rfl (wanted_free rfl) (fun w' hS => ?_) ?_; rotate_left; (focus (go_simp; (try with_reducible rfl); done)); try simp only [List.setIfInBounds_toArray, List.set_cons_zero, List.set_cons_succ]) | (refine wpPerm_on (v := ?_) rfl rfl (wanted_yes rfl rfl rfl) (fun w' hS => ?_) ?_; rotate_left; (focus (go_simp; (try with_reducible rfl); done)); try simp only [List.setIfInBounds_toArray, List.set_cons_zero, List.set_cons_succ]) | (refine wpPerm_off rfl rfl (wanted_no rfl rfl rfl) ?_; try simp only [List.setIfInBounds_toArray, List.set_cons_zero, List.set_cons_succ]) | (refine wpPerm_off rfl rfl (wanted_undef rfl rfl rfl) ?_; try simp only [List.setIfInBounds_toArray, List.set_cons_zero, List.set_cons_succ])))
        refine wpPerm_do rfl (wanted_yes rfl rfl rfl) (fun K hK => ?_); go_simp
        refine (rows_ rows _ 0 _ _ _ _ _ _ _ (by have := Hfl.out zV zV; rw [Hall.out] at this; exact this) (Hsm2.out) hRa (Hrx.out _ hqa)).mono ?_
        rintro e wc ⟨rfl, hbc⟩
        have hq := Below.trans hqa (Below.mono hbc hqa.size)
        refine hK.out _ _ hq ?_
        clear hK K hqa hRa hba hbc
        repeat ((with_reducible show wpPerm _ _ _ _ ((_, true) :: _) _ _); (first | (refine wpPerm_on (v := ?_) rfl rfl (wanted_free rfl) (fun w' hS => ?_) ?_; rotate_left; (focus (go_simp; (try with_reducible rfl); done)); try simp only [List.setIfInBounds_toArray, List.set_cons_zero, List.set_cons_succ]) | (refine wpPerm_on (v := ?_) rfl rfl (wanted_yes rfl rfl rfl) (fun w' hS => ?_) ?_; rotate_left; (focus (go_simp; (try with_reducible rfl); done)); try simp only [List.setIfInBounds_toArray, List.set_cons_zero, List.set_cons_succ]) | (refine wpPerm_off rfl rfl (wanted_no rfl rfl rfl) ?_; try simp only [List.setIfInBounds_toArray, List.set_cons_zero, List.set_cons_succ]) | (refine wpPerm_off rfl rfl (wanted_undef rfl rfl rfl) ?_; try simp only [List.setIfInBounds_toArray, List.set_cons_zero, List.set_cons_succ])))
        refine wpPerm_done ?_
        have hbF := Below.trans hbw (Below.mono (Below.trans (Below.refl _ w10).drew hq) hbw.size)
        go_wp2
        go_ret
        exact ⟨rfl, hbF⟩
    obtain ⟨hgo1, hgo2⟩ := hgo
    have hd1 : decide ((k : Int) < (ni : Int)) = true := by simp; omega
    have hd2 : decide ((k : Int) < 40) = true := by simp; omega
    have hkni : (k : Int) < (ni : Int) := by omega
    obtain ⟨x, hx⟩ : ∃ x, zs[k]? = some x := ⟨_, List.getElem?_eq_getElem (by rw [HNI.out]; exact hgo1)⟩
    have hx64 := HZ.out x (List.mem_of_getElem? hx)
    obtain ⟨bi, oi, rfl, _, _, _⟩ := hI.some_ (by omega)
    have hxc := flatK_at encI 1 (fun _ => rfl) zs k x 0 _ hx rfl
    have HXC := Lib.hid hxc
    clear hxc hx
    obtain ⟨kv, hri⟩ := row_i hS x
    obtain ⟨r, hr⟩ : ∃ r, fitL S.cols x = r := ⟨_, rfl⟩
    rw [hr] at hri
    have hri := Lib.hid hri
    have htl := put_len (cs := S.cols) (key := S.key) (rows := rows) (r := r)
    have hok' := putL_ok hOk.out r
    obtain ⟨p, hp⟩ : ∃ p, putL S.cols S.key rows r = p := ⟨_, rfl⟩
    rw [hp] at htl hok'
    have Htl := Lib.hid htl
    have Hid' := Lib.hid hok'
    clear htl hok'
    go_wp2_with fail
    have hrd : Below wr.heap.size wr wr.drew := (Below.refl _ _).drew
    have B7 := B7.ext hrd
    have B8 : Blk wr.drew (w3.heap.size + 1) 48 #[.string S.name, .slice A7 S.cols.length c7, .int .i64 S.key, .bool S.only, .slice A2 n2 c2] := BX.ext hrd
    have hR8 := hRx.ext hrd
    have hbgd := Below.trans hbg (Below.mono hrd hbg.size)
    have hg8 := B8.lt
    have D := fun w' (h : Below (w3.heap.size + 1) wr.drew w') => four (B7.below h (by omega)) (Below.refl _ _)
    have D2 := fun w' (h : Below (w3.heap.size + 1) wr.drew w') => (hI.ext (Below.trans (Below.trans hbw (Below.mono hrd hbw.size)) (Below.mono h (by omega)))).at_ HXC.out
    simp only [Nat.mul_one, Nat.add_zero] at D2
    refine wp_region_tree (S := fun w' => Below (w3.heap.size + 1) wr.drew w') (.take 1 (.take 2 (.take 3 (.take 4 (.take 5 (.two 0 6 (.one 6 (.one 7 (.take 8 (.take 9 (.take 10 (.one 11 .nil)))))) (.one 0 (.one 7 (.take 8 (.take 9 (.take 10 (.one 11 .nil))))))))))))
      (by kernel_rfl) (by kernel_rfl) (by kernel_rfl) (by decide) (by intro c a d v w h; cases d <;> exact h) (Below.refl _ _) ?_
    repeat ((with_reducible show wpTree _ _ _ _ (.take _ _) _ _); (first | (refine wpTree_on (v := ?_) rfl rfl (wanted_free rfl) (fun w' hS => ?_) ?_; rotate_left; (focus (go_simp; (try with_reducible rfl); done)); try simp only [List.setIfInBounds_toArray, List.set_cons_zero, List.set_cons_succ]) | (refine wpTree_on (v := ?_) rfl rfl (wanted_yes rfl rfl rfl) (fun w' hS => ?_) ?_; rotate_left; (focus (go_simp; (try with_reducible rfl); done)); try simp only [List.setIfInBounds_toArray, List.set_cons_zero, List.set_cons_succ]) | (refine wpTree_off rfl rfl (wanted_no rfl rfl rfl) ?_; try simp only [List.setIfInBounds_toArray, List.set_cons_zero, List.set_cons_succ]) | (refine wpTree_off rfl rfl (wanted_undef rfl rfl rfl) ?_; try simp only [List.setIfInBounds_toArray, List.set_cons_zero, List.set_cons_succ])))
    clear D D2
    have hrr : wr.heap.size = wr.drew.heap.size := rfl
    generalize wr.drew = wd at *
    refine wpTree_both rfl (wanted_free rfl) rfl (wanted_free rfl) (fun K hK => ?_) (fun K hK => ?_)
    · have q8 := five B8 (Below.refl _ _)
      go_simp
      refine hK.out _ _ (Below.refl _ _) ?_
      clear hK K q8
      refine wpTree_do rfl (wanted_free rfl) (fun K hK => ?_); go_simp
      refine (fit_ S 0 A7 S.cols.length c7 x _ (hCs.out _ (Below.trans hbgd (Below.mono (Below.refl (w3.heap.size + 1) wd) (Nat.le_succ _)))) hn7 hS.kinds hx64.1 hx64.2).mono ?_
      rintro e w5 ⟨Ar, cr, rfl, hown5, hb5⟩
      have hb5' : Below (w3.heap.size + 1) wd w5 := Below.trans (Below.refl (w3.heap.size + 1) wd) (Below.mono hb5 (by have := B8.lt; omega))
      refine hK.out _ _ hb5' ?_
      clear hK K
      rw [hr] at hown5
      have hVr : Vs w5 0 Ar S.cols.length cr r := (Vs.of_own hown5).base (Nat.zero_le _)
      have hC5 := hCs.out _ (Below.trans hbgd (Below.mono hb5' (Nat.le_succ _)))
      have hR5 := hR8.ext hb5
      have B85 := B8.ext hb5
      have hz5 := hb5.size
      have hz8 := B8.lt
      refine wpTree_do rfl (wanted_free rfl) (fun K hK => ?_); go_simp
      refine (rput_ S rows r 0 (w3.heap.size + 1 + 1) A7 S.cols.length c7 A2 n2 c2 0 Ar S.cols.length cr w5 hC5 hR5 hF8 (by omega) hVr hri.out.small hOk.out hn7 (by omega) (by omega)).mono ?_
      rintro e w6 ⟨A6, n6, c6, rfl, hR6, hF6, hb6⟩
      rw [hp] at hR6 ⊢
      have hb6' := Below.trans hb5' (Below.mono hb6 (by omega))
      refine hK.out _ _ hb6' ?_
      clear hK K
      simp only [tabA]
      repeat ((with_reducible show wpTree _ _ _ _ (.take _ _) _ _); (first | (refine wpTree_on (v := ?_) rfl rfl (wanted_free rfl) (fun w' hS => ?_) ?_; rotate_left; (focus (go_simp; (try with_reducible rfl); done)); try simp only [List.setIfInBounds_toArray, List.set_cons_zero, List.set_cons_succ]) | (refine wpTree_on (v := ?_) rfl rfl (wanted_yes rfl rfl rfl) (fun w' hS => ?_) ?_; rotate_left; (focus (go_simp; (try with_reducible rfl); done)); try simp only [List.setIfInBounds_toArray, List.set_cons_zero, List.set_cons_succ]) | (refine wpTree_off rfl rfl (wanted_no rfl rfl rfl) ?_; try simp only [List.setIfInBounds_toArray, List.set_cons_zero, List.set_cons_succ]) | (refine wpTree_off rfl rfl (wanted_undef rfl rfl rfl) ?_; try simp only [List.setIfInBounds_toArray, List.set_cons_zero, List.set_cons_succ])))
      have hB8 : Blk w6 (w3.heap.size + 1) 48 #[.string S.name, .slice A7 S.cols.length c7, .int .i64 S.key, .bool S.only, .slice A2 n2 c2] := (Blk.below B85 hb6 (by omega))
      have f0 := hB8.frozen 0
      have f1 := hB8.frozen 1
      have f2 := hB8.frozen 2
      have f3 := hB8.frozen 3
      have f4 := hB8.frozen 4
      have q8 := five hB8 (Below.refl _ _)
      refine wpTree_do rfl (wanted_free rfl) (fun K hK => ?_); go_simp
      clear f0 f1 f2 f3 f4 q8
      obtain ⟨w9, hw9, B9, hlow9, hgr9⟩ := Blk.set5 hB8 (.string S.name) (.slice A7 S.cols.length c7) (.int .i64 S.key) (.bool S.only) (.slice A6 n6 c6)
      rw [← hw9]
      clear hw9
      have hR9 := hR6.grownL hgr9 (Nat.lt_succ_self _)
      have hb9' := Below.trans hb6' (hlow9 _ (Nat.le_refl _))
      refine hK.out _ _ hb9' ?_
      clear hK K
      refine wpTree_end ?_
      have hbg9 := Below.trans hbgd (Below.mono hb9' (Nat.le_succ _))
      go_wp2
      go_roundw
      case rel => exact ⟨k + 1, p.2, A6, n6, c6, by go_num, by omega, by omega, by have := Htl.out; split at this <;> omega, Hid'.out, B9, hR9, hF6, Blk.below B7 hb9' (by omega), hbg9⟩
      case measure => simp [intOf]; omega
    · go_simp
      refine (fit_ S 0 A7 S.cols.length c7 x _ (hCs.out _ (Below.trans hbgd (Below.mono (Below.refl (w3.heap.size + 1) wd) (Nat.le_succ _)))) hn7 hS.kinds hx64.1 hx64.2).mono ?_
      rintro e w5 ⟨Ar, cr, rfl, hown5, hb5⟩
      have hb5' : Below (w3.heap.size + 1) wd w5 := Below.trans (Below.refl (w3.heap.size + 1) wd) (Below.mono hb5 (by have := B8.lt; omega))
      refine hK.out _ _ hb5' ?_
      clear hK K
      rw [hr] at hown5
      have hVr : Vs w5 0 Ar S.cols.length cr r := (Vs.of_own hown5).base (Nat.zero_le _)
      have hC5 := hCs.out _ (Below.trans hbgd (Below.mono hb5' (Nat.le_succ _)))
      have hR5 := hR8.ext hb5
      have B85 := B8.ext hb5
      have hz5 := hb5.size
      have hz8 := B8.lt
      have q8 := five (B85 : Blk w5 (w3.heap.size + 1) 48 #[.string S.name, .slice A7 S.cols.length c7, .int .i64 S.key, .bool S.only, .slice A2 n2 c2]) (Below.refl _ _)
      refine wpTree_do rfl (wanted_free rfl) (fun K hK => ?_); go_simp
      refine hK.out _ _ hb5' ?_
      clear hK K q8
      refine wpTree_do rfl (wanted_free rfl) (fun K hK => ?_); go_simp
      refine (rput_ S rows r 0 (w3.heap.size + 1 + 1) A7 S.cols.length c7 A2 n2 c2 0 Ar S.cols.length cr w5 hC5 hR5 hF8 (by omega) hVr hri.out.small hOk.out hn7 (by omega) (by omega)).mono ?_
      rintro e w6 ⟨A6, n6, c6, rfl, hR6, hF6, hb6⟩
      rw [hp] at hR6 ⊢
      have hb6' := Below.trans hb5' (Below.mono hb6 (by omega))
      refine hK.out _ _ hb6' ?_
      clear hK K
      simp only [tabA]
      repeat ((with_reducible show wpTree _ _ _ _ (.take _ _) _ _); (first | (refine wpTree_on (v := ?_) rfl rfl (wanted_free rfl) (fun w' hS => ?_) ?_; rotate_left; (focus (go_simp; (try with_reducible rfl); done)); try simp only [List.setIfInBounds_toArray, List.set_cons_zero, List.set_cons_succ]) | (refine wpTree_on (v := ?_) rfl rfl (wanted_yes rfl rfl rfl) (fun w' hS => ?_) ?_; rotate_left; (focus (go_simp; (try with_reducible rfl); done)); try simp only [List.setIfInBounds_toArray, List.set_cons_zero, List.set_cons_succ]) | (refine wpTree_off rfl rfl (wanted_no rfl rfl rfl) ?_; try simp only [List.setIfInBounds_toArray, List.set_cons_zero, List.set_cons_succ]) | (refine wpTree_off rfl rfl (wanted_undef rfl rfl rfl) ?_; try simp only [List.setIfInBounds_toArray, List.set_cons_zero, List.set_cons_succ])))
      have hB8 : Blk w6 (w3.heap.size + 1) 48 #[.string S.name, .slice A7 S.cols.length c7, .int .i64 S.key, .bool S.only, .slice A2 n2 c2] := (Blk.below B85 hb6 (by omega))
      have f0 := hB8.frozen 0
      have f1 := hB8.frozen 1
      have f2 := hB8.frozen 2
      have f3 := hB8.frozen 3
      have f4 := hB8.frozen 4
      have q8 := five hB8 (Below.refl _ _)
      refine wpTree_do rfl (wanted_free rfl) (fun K hK => ?_); go_simp
      clear f0 f1 f2 f3 f4 q8
      obtain ⟨w9, hw9, B9, hlow9, hgr9⟩ := Blk.set5 hB8 (.string S.name) (.slice A7 S.cols.length c7) (.int .i64 S.key) (.bool S.only) (.slice A6 n6 c6)
      rw [← hw9]
      clear hw9
      have hR9 := hR6.grownL hgr9 (Nat.lt_succ_self _)
      have hb9' := Below.trans hb6' (hlow9 _ (Nat.le_refl _))
      refine hK.out _ _ hb9' ?_
      clear hK K
      refine wpTree_end ?_
      have hbg9 := Below.trans hbgd (Below.mono hb9' (Nat.le_succ _))
      go_wp2
      go_roundw
      case rel => exact ⟨k + 1, p.2, A6, n6, c6, by go_num, by omega, by omega, by have := Htl.out; split at this <;> omega, Hid'.out, B9, hR9, hF6, Blk.below B7 hb9' (by omega), hbg9⟩
      case measure => simp [intOf]; omega
end Go.Proofs.Ytalfacbkofgdjaa.tb
