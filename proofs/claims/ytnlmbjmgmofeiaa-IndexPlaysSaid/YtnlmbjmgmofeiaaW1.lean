/- Contracts: the document's Take. Printed by genrtake.py. -/
import Derived.Test.YtnlmbjmgmofeiaaU2
import Derived.Test.YtnlmbjmgmofeiaaT12
namespace Go.Proofs.Ytnlmbjmgmofeiaa.tb
open Go.ChangeShapes Go.WideShapes Go.ChangeAt Go.RowKit Go.Proofs.Ytnlmbjmgmofeiaa.lib Go.Proofs.Ytnlmbjmgmofeiaa.val
set_option linter.unusedVariables false

def RTakeP (S : Sch) (A : Option Addr) (n c : Nat) (p : Int × List (List V)) (r : List V) (lo : Nat) (w : World) (e : Ending) (w' : World) : Prop := ∃ A' n' c' Ar m cr, e = .returned (.tuple #[.agg (tabA S A n c A' n' c'), .slice Ar m cr, .int .i64 p.1]) ∧ Rs w' lo A' n' c' p.2 ∧ Fine A' ∧ Vs w' w.heap.size Ar m cr r ∧ Below w.heap.size w w'
theorem take_hold {w wz : World} {hs : List Value} {rows : List (List V)} {k n10 c10 lo B : Nat} {A10 : Option Addr} (hhs : Hs w lo hs rows) (hbz : Below w.heap.size w wz)
    (hO : wz.ownsRow B 38 1 (.slice A10 n10 c10) n10 (hs.take k ++ hs.drop (k + 1))) (h1 : lo ≤ B) :
    Rs wz lo A10 n10 c10 (rows.take k ++ rows.drop (k + 1)) ∧ Fine A10 := by
  have hl := hO.1
  have hh := hhs.ext hbz
  refine ⟨⟨_, (Row.of_own hO).base h1, (hh.take k).append (hh.drop (k + 1)), ?_⟩, ?_⟩
  · have h3 := hh.1
    simp only [List.length_append, List.length_take, List.length_drop, Nat.mul_one] at hl ⊢
    omega
  · rcases hO.2 with ⟨h, _⟩ | ⟨g, cap, cur, h, _⟩
    · injection h with h; exact .inl h
    · injection h with h; exact .inr ⟨g, 0, h⟩
theorem Vs.grownB {w w' : World} {row : Option Nat} {lo n c B : Nat} {A : Option Addr} {l : List V} (h : Vs w lo A n c l) (hw : w.heap.size ≤ B) (hg : w.grownBy w' row) (hl : ∀ g, row = some g → B ≤ g) : Vs w' lo A n c l := ⟨h.1.grownB hw hg hl, h.2⟩

set_option maxRecDepth 1000000 in
set_option maxHeartbeats 8000000 in
theorem rtake_ (S : Sch) (rows : List (List V)) (kv : V) (lo : Nat) (A : Option Addr) (n c : Nat) (A' : Option Addr) (n' c' : Nat) (w : World)
    (hR : Rs w lo A' n' c' rows) (hF : Fine A') (hlo : lo ≤ w.heap.size) (hOk : Ok S.cols S.key rows) (hn : S.cols.length ≤ 100) (hrows : rows.length ≤ 1000) (hkv : vchk kv = 0) :
    Calls Try.prog 25 #[.agg (tabA S A n c A' n' c'), .agg #[.int .i64 kv.k, .int .i64 kv.n, .string kv.s]] w (RTakeP S A n c (takeL S.key rows kv) (rowL S.key rows kv) lo w) := by
  obtain ⟨j0, hj, hy0, hy1, hy2⟩ := info_parts (P := Try.prog) (e := 38) (z := .slice none 0 0) (size := 1) (bytes := 24) (by kernel_rfl)
  have hRn := hR.len
  have HRN := Lib.hid hRn
  have hn' : n' ≤ 1000 := by omega
  have hget := fun w' (h : Below w.heap.size w w') => rget_ S rows kv lo A n c A' n' c' w' (hR.ext h) hOk hn hrows hkv
  have hat := fun w' (h : Below w.heap.size w w') => rat_ S rows kv lo A n c A' n' c' w' (hR.ext h) hOk hn hrows hkv
  obtain ⟨p, hp⟩ : ∃ p, takeL S.key rows kv = p := ⟨_, rfl⟩
  obtain ⟨rr, hrr⟩ : ∃ r, rowL S.key rows kv = r := ⟨_, rfl⟩
  have hIs := fun (h : isL S.key kv rows = true) => rowL_at h
  have hrn : isL S.key kv rows = false → rr = [] := by
    intro h
    rw [← hrr]; unfold rowL; rw [h]; rfl
  obtain ⟨iv, hiv⟩ : ∃ b, isL S.key kv rows = b := ⟨_, rfl⟩
  obtain ⟨an, han⟩ : ∃ a, atL S.key kv rows = a := ⟨_, rfl⟩
  rw [hp, hrr]
  rw [hrr, hiv] at hget
  rw [hrr, hiv, han] at hIs
  rw [hiv] at hrn
  rw [han] at hat
  unfold takeL at hp
  rw [hiv, han] at hp
  have HIs := Lib.hid hIs
  have Hrn := Lib.hid hrn
  have Hget := Lib.hid hget
  have Hat := Lib.hid hat
  have HP := Lib.hid hp
  clear hget hat hp hrr hIs hrn hiv han hRn hOk hkv
  obtain ⟨nm, cols, key, only⟩ := S
  obtain ⟨k0, k1, k2⟩ := kv
  simp only [tabA] at hn Hget Hat HIs HP ⊢
  go_enter Try.func25, Try.ntmps25
  go_upto_region 1 with fail
  obtain ⟨W, hW_, hbW, B1, BV, B2⟩ : ∃ W_, W_ = (((w.alloc (.cells #[.string nm, .slice A n c, .int .i64 key, .bool only, .slice A' n' c'] 32)).alloc (.cells #[.int .i64 k0, .int .i64 k1, .string k2] 41)).alloc (.cells #[.string ⟨#[]⟩, .slice none 0 0, .int .i64 0, .bool false, .slice none 0 0] 32)) ∧ Below w.heap.size w W_ ∧ Blk W_ (w.heap.size) 32 #[.string nm, .slice A n c, .int .i64 key, .bool only, .slice A' n' c'] ∧ Blk W_ (w.heap.size + 1) 41 #[.int .i64 k0, .int .i64 k1, .string k2] ∧ Blk W_ (w.heap.size + 1 + 1) 32 #[.string ⟨#[]⟩, .slice none 0 0, .int .i64 0, .bool false, .slice none 0 0] :=
    ⟨_, rfl, ((((Below.refl _ _).alloc (Nat.le_refl _) _).alloc (by simp; try omega) _).alloc (by simp; try omega) _), (((blk_new_at w (w.heap.size) _ _ (by simp)).alloc _).alloc _), ((blk_new_at (w.alloc (.cells #[.string nm, .slice A n c, .int .i64 key, .bool only, .slice A' n' c'] 32)) (w.heap.size + 1) _ _ (by simp)).alloc _), (blk_new_at ((w.alloc (.cells #[.string nm, .slice A n c, .int .i64 key, .bool only, .slice A' n' c'] 32)).alloc (.cells #[.int .i64 k0, .int .i64 k1, .string k2] 41)) (w.heap.size + 1 + 1) _ _ (by simp))⟩
  rw [← hW_]
  clear hW_
  have q1 := five B1 (Below.refl _ _)
  have qv := BV.three (Below.refl _ _)
  have hBg := B2.lt
  go_wp2_with fail
  clear q1 qv
  refine (Hget.out _ hbW).mono ?_
  rintro e w3 ⟨Ag, mg, cg, rfl, hVg, hb3⟩
  have hbx := Below.trans hbW (Below.mono hb3 hbW.size)
  have hVg : Vs w3 (w.heap.size + 1 + 1 + 1) Ag mg cg rr := hVg.base (by omega)
  have B1 := B1.ext hb3
  have BV := BV.ext hb3
  have B2 := B2.ext hb3
  have hz3 := hb3.size
  clear hb3
  cases iv with
  | false =>
    have hpe : p = (2, rows) := by rw [← HP.out, if_neg (by simp)]
    have hre : rr = [] := Hrn.out rfl
    subst hpe hre
    have f0 := B2.frozen 0
    have f1 := B2.frozen 1
    have f2 := B2.frozen 2
    have f3 := B2.frozen 3
    have f4 := B2.frozen 4
    have q := five B2 (Below.refl _ _)
    have q1 := five B1 (Below.refl _ _)
    go_wp2
    clear f0 f1 f2 f3 f4 q q1
    obtain ⟨wz, hwz, Bz, hlowz, hgrz⟩ := Blk.set5 B2 (.string nm) (.slice A n c) (.int .i64 key) (.bool only) (.slice A' n' c')
    rw [← hwz]
    clear hwz
    have q := five Bz (Below.refl _ _)
    exact bodyPost_ret (v := .tuple #[.agg #[.string nm, .slice A n c, .int .i64 key, .bool only, .slice A' n' c'], .slice none 0 0, .int .i64 2]) (by simp [results, Try.results25, go_sem, q]; try rfl) rfl
      ⟨_, _, _, _, _, _, rfl, hR.grownH (B := 0) hbx hgrz (by omega), hF, Vs.nil _ _, Below.trans hbx (hlowz _ (by omega))⟩
  | true =>
    rw [if_pos rfl] at HP
    obtain ⟨r, hr, hrr, _⟩ := HIs.out rfl
    have hrr := hrr.symm
    subst hrr
    have han2 : an < n' := by rw [← HRN.out]; exact (List.getElem?_eq_some_iff.1 hr).1
    clear hr
    have hpe := HP.out.symm
    subst hpe
    have q1 := five B1 (Below.refl _ _)
    have qv := BV.three (Below.refl _ _)
    go_wp2_with fail
    clear q1 qv
    refine (Hat.out _ hbx).mono ?_
    rintro e w6 ⟨rfl, hb6⟩
    have hbx := Below.trans hbx (Below.mono hb6 hbx.size)
    have B1 := B1.ext hb6
    have B2 := B2.ext hb6
    have hVg := hVg.ext hb6
    have hz6 := hb6.size
    clear hb6 BV Hget Hat HP HIs Hrn
    have hW6 : w.heap.size + 1 + 1 + 1 ≤ w6.heap.size := by omega
    have hRR := hR
    obtain ⟨hs, hrow, hhs, _⟩ := hRR
    have hrow : Row w 0 A' n' c' hs := hrow.base (Nat.zero_le _)
    have Hrow := Lib.hid hrow
    have Hhl := Lib.hid (hhs.1.trans HRN.out)
    have Hone := Lib.hid hhs.one_
    have hnc := hrow.le_
    clear hrow
    obtain ⟨bA, oA, rfl, _, _, _⟩ := hR.some_ (by omega)
    have ha1 : (0 : Int) ≤ (an : Int) := by omega
    by_cases hca : c' = an + 1
    case pos =>
      subst hca
      obtain rfl : n' = an + 1 := by omega
      have q1 := fun o => five B1 ((Below.refl _ _).alloc (Nat.le_refl _) o)
      go_wp2_with (at_builtin; refine wpList_append_row rfl (.tmp 23) (.tmp 27) 30 rfl w6.heap.size 38 j0 _ 1 24 Try.underlying30 hj hy0 hy1 hy2 rfl (by decide) _ _ _ rfl (own_empty (w := w6) rfl (Nat.le_refl _)) _ _ _ _ (hs.take an) rfl (((Hrow.out.ext hbx).ext ((Below.refl _ _).alloc (Nat.le_refl _) _)).take an (an + 1) an (by omega) (by omega)) ?a1 ?a2 ?a3 ?a4 ?a5 ?_)
      case a1 => simp [Hhl.out]; try omega
      case a2 => exact fun u hu => Hone.out u (List.mem_of_mem_take hu)
      case a3 => unfold maxLen; omega
      case a4 => omega
      all_goals try (case a5 => first | omega | (simp; done) | (simp; omega))
      intro v7 w7 hown7 hgrow7
      clear q1
      have hbx7 := (hbx.alloc hbx.size (.cells #[] 38)).grown hgrow7 (by simp; omega) (fun b hb => by simp [Value.ownBlock] at hb; omega)
      have B1 := (B1.alloc (.cells #[] 38)).grown hgrow7 (by simp [Value.ownBlock]; omega)
      have B2 := (B2.alloc (.cells #[] 38)).grown hgrow7 (by simp [Value.ownBlock]; omega)
      have hy7 := ((Below.refl w6.heap.size w6).alloc (Nat.le_refl _) (.cells #[] 38)).grown hgrow7 (by simp) (fun b hb => by simp [Value.ownBlock] at hb; omega)
      have hz7 := hy7.size
      have HO7 := Lib.hid hown7
      clear hown7 hgrow7 hbx
      have hbx := hbx7
      have hW7 := hbx7.size
      have q1 := five B1 (Below.refl _ _)
      go_wp2_with (at_builtin; refine wpList_append_row rfl (.tmp 29) (.tmp 34) 30 rfl w6.heap.size 38 j0 _ 1 24 Try.underlying30 hj hy0 hy1 hy2 rfl (by decide) _ _ _ rfl HO7.out _ _ _ _ (hs.drop (an + 1)) rfl (show Row _ 0 (some ⟨bA, oA, none⟩) 0 0 (hs.drop (an + 1)) by rw [List.drop_eq_nil_of_le (by rw [Hhl.out]; omega)]; exact Row.empty _ _ _ _) ?e1 ?e2 ?e3 ?e4 ?e5 ?_)
      case e1 => simp [Hhl.out]; try omega
      case e2 => exact fun u hu => Hone.out u (List.mem_of_mem_drop hu)
      case e3 => unfold maxLen; omega
      case e4 => omega
      all_goals try (case e5 => first | omega | (simp; done) | (simp; omega))
      intro v10 wa hown10 hgrow10
      obtain ⟨A10, c10, rfl⟩ := own_slice hown10
      have hlt9 := HO7.out.lt
      have hbxa := hbx.grown hgrow10 hbx.size (fun b hb => by have := (hlt9 b hb).1; omega)
      have B1 := B1.grown hgrow10 (fun e => by have := (hlt9 _ e.symm).1; omega)
      have B2 := B2.grown hgrow10 (fun e => by have := (hlt9 _ e.symm).1; omega)
      have hVg := hVg.ext (hy7.grown hgrow10 hy7.size (fun b hb => (hlt9 b hb).1))
      have HOa := Lib.hid hown10
      clear q1 hown10 hgrow10 hlt9 HO7 hbx
      have hbx := hbxa
      have f4 := B1.frozen 4
      have q4 := B1.cell 4
      go_upto_region 7 with fail
      clear f4 q4
      obtain ⟨wb, hwb, B1', hlowb, hgrb⟩ := Blk.set1 (i := 4) B1 (.slice A10 an c10)
      rw [← hwb]
      clear hwb
      have HOb := Lib.hid (HOa.out.kept hgrb (own_ne_blk HOa.out B1 (by decide)))
      have hVg := hVg.grownL hgrb (by omega)
      have B2 := B2.grown hgrb (by simp; try omega)
      have B1 : Blk wb w.heap.size 32 #[.string nm, .slice A n c, .int .i64 key, .bool only, .slice A10 an c10] := B1'
      have hbxb := Below.trans hbx (hlowb _ (Nat.le_refl _))
      clear HOa hgrb hlowb B1' hbx hbxa
      have hbx := hbxb
      have f0 := B2.frozen 0
      have f1 := B2.frozen 1
      have f2 := B2.frozen 2
      have f3 := B2.frozen 3
      have f4 := B2.frozen 4
      have q := five B2 (Below.refl _ _)
      have q1 := five B1 (Below.refl _ _)
      go_wp2
      clear f0 f1 f2 f3 f4 q q1
      obtain ⟨wz, hwz, Bz, hlowz, hgrz⟩ := Blk.set5 B2 (.string nm) (.slice A n c) (.int .i64 key) (.bool only) (.slice A10 an c10)
      rw [← hwz]
      clear hwz
      have q := five Bz (Below.refl _ _)
      exact bodyPost_ret (v := .tuple #[.agg #[.string nm, .slice A n c, .int .i64 key, .bool only, .slice A10 an c10], .slice Ag mg cg, .int .i64 0]) (by simp [results, Try.results25, go_sem, q]; try rfl) rfl
        ⟨_, _, _, _, _, _, rfl, (take_hold (k := an) hhs (Below.trans hbx (hlowz _ (by omega))) (HOb.out.kept hgrz (own_ne_blk HOb.out B2 (by decide))) (by omega)).1, (take_hold (k := an) hhs (Below.trans hbx (hlowz _ (by omega))) (HOb.out.kept hgrz (own_ne_blk HOb.out B2 (by decide))) (by omega)).2, (hVg.grownL hgrz (by omega)).base (by omega), Below.trans hbx (hlowz _ (by omega))⟩
    case neg =>
      have q1 := fun o => five B1 ((Below.refl _ _).alloc (Nat.le_refl _) o)
      go_wp2_with (at_builtin; refine wpList_append_row rfl (.tmp 23) (.tmp 27) 30 rfl w6.heap.size 38 j0 _ 1 24 Try.underlying30 hj hy0 hy1 hy2 rfl (by decide) _ _ _ rfl (own_empty (w := w6) rfl (Nat.le_refl _)) _ _ _ _ (hs.take an) rfl (((Hrow.out.ext hbx).ext ((Below.refl _ _).alloc (Nat.le_refl _) _)).take an c' an (by omega) (by omega)) ?a1 ?a2 ?a3 ?a4 ?a5 ?_)
      case a1 => simp [Hhl.out]; try omega
      case a2 => exact fun u hu => Hone.out u (List.mem_of_mem_take hu)
      case a3 => unfold maxLen; omega
      case a4 => omega
      all_goals try (case a5 => first | omega | (simp; done) | (simp; omega))
      intro v7 w7 hown7 hgrow7
      clear q1
      have hbx7 := (hbx.alloc hbx.size (.cells #[] 38)).grown hgrow7 (by simp; omega) (fun b hb => by simp [Value.ownBlock] at hb; omega)
      have B1 := (B1.alloc (.cells #[] 38)).grown hgrow7 (by simp [Value.ownBlock]; omega)
      have B2 := (B2.alloc (.cells #[] 38)).grown hgrow7 (by simp [Value.ownBlock]; omega)
      have hy7 := ((Below.refl w6.heap.size w6).alloc (Nat.le_refl _) (.cells #[] 38)).grown hgrow7 (by simp) (fun b hb => by simp [Value.ownBlock] at hb; omega)
      have hz7 := hy7.size
      have HO7 := Lib.hid hown7
      clear hown7 hgrow7 hbx
      have hbx := hbx7
      have hW7 := hbx7.size
      have q1 := five B1 (Below.refl _ _)
      go_wp2_with (at_builtin; refine wpList_append_row rfl (.tmp 29) (.tmp 34) 30 rfl w6.heap.size 38 j0 _ 1 24 Try.underlying30 hj hy0 hy1 hy2 rfl (by decide) _ _ _ rfl HO7.out _ _ _ _ (hs.drop (an + 1)) rfl ((Hrow.out.ext hbx).drop (n' - (an + 1)) (c' - (an + 1)) (an + 1) (by omega) (by omega)) ?e1 ?e2 ?e3 ?e4 ?e5 ?_)
      case e1 => simp [Hhl.out]; try omega
      case e2 => exact fun u hu => Hone.out u (List.mem_of_mem_drop hu)
      case e3 => unfold maxLen; omega
      case e4 => omega
      all_goals try (case e5 => first | omega | (simp; done) | (simp; omega))
      intro v10 wa hown10 hgrow10
      obtain ⟨A10, c10, rfl⟩ := own_slice hown10
      have hlt9 := HO7.out.lt
      have hbxa := hbx.grown hgrow10 hbx.size (fun b hb => by have := (hlt9 b hb).1; omega)
      have B1 := B1.grown hgrow10 (fun e => by have := (hlt9 _ e.symm).1; omega)
      have B2 := B2.grown hgrow10 (fun e => by have := (hlt9 _ e.symm).1; omega)
      have hVg := hVg.ext (hy7.grown hgrow10 hy7.size (fun b hb => (hlt9 b hb).1))
      have HOa := Lib.hid hown10
      clear q1 hown10 hgrow10 hlt9 HO7 hbx
      have hbx := hbxa
      have f4 := B1.frozen 4
      have q4 := B1.cell 4
      go_upto_region 7 with fail
      clear f4 q4
      obtain ⟨wb, hwb, B1', hlowb, hgrb⟩ := Blk.set1 (i := 4) B1 (.slice A10 (an + (n' - (an + 1))) c10)
      rw [← hwb]
      clear hwb
      have HOb := Lib.hid (HOa.out.kept hgrb (own_ne_blk HOa.out B1 (by decide)))
      have hVg := hVg.grownL hgrb (by omega)
      have B2 := B2.grown hgrb (by simp; try omega)
      have B1 : Blk wb w.heap.size 32 #[.string nm, .slice A n c, .int .i64 key, .bool only, .slice A10 (an + (n' - (an + 1))) c10] := B1'
      have hbxb := Below.trans hbx (hlowb _ (Nat.le_refl _))
      clear HOa hgrb hlowb B1' hbx hbxa
      have hbx := hbxb
      have f0 := B2.frozen 0
      have f1 := B2.frozen 1
      have f2 := B2.frozen 2
      have f3 := B2.frozen 3
      have f4 := B2.frozen 4
      have q := five B2 (Below.refl _ _)
      have q1 := five B1 (Below.refl _ _)
      go_wp2
      clear f0 f1 f2 f3 f4 q q1
      obtain ⟨wz, hwz, Bz, hlowz, hgrz⟩ := Blk.set5 B2 (.string nm) (.slice A n c) (.int .i64 key) (.bool only) (.slice A10 (an + (n' - (an + 1))) c10)
      rw [← hwz]
      clear hwz
      have q := five Bz (Below.refl _ _)
      exact bodyPost_ret (v := .tuple #[.agg #[.string nm, .slice A n c, .int .i64 key, .bool only, .slice A10 (an + (n' - (an + 1))) c10], .slice Ag mg cg, .int .i64 0]) (by simp [results, Try.results25, go_sem, q]; try rfl) rfl
        ⟨_, _, _, _, _, _, rfl, (take_hold (k := an) hhs (Below.trans hbx (hlowz _ (by omega))) (HOb.out.kept hgrz (own_ne_blk HOb.out B2 (by decide))) (by omega)).1, (take_hold (k := an) hhs (Below.trans hbx (hlowz _ (by omega))) (HOb.out.kept hgrz (own_ne_blk HOb.out B2 (by decide))) (by omega)).2, (hVg.grownL hgrz (by omega)).base (by omega), Below.trans hbx (hlowz _ (by omega))⟩
end Go.Proofs.Ytnlmbjmgmofeiaa.tb
