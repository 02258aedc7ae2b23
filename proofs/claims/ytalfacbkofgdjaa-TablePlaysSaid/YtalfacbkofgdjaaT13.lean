/- Contracts: Get, Range, Same of rows, of schemas, of tables. -/
import Derived.Test.YtalfacbkofgdjaaT11
import Derived.Test.YtalfacbkofgdjaaTl
import Derived.Laws.StructEq
namespace Go.Proofs.Ytalfacbkofgdjaa.tb
open Go.ChangeShapes Go.WideShapes Go.ChangeAt Go.RowKit Go.Proofs.Ytalfacbkofgdjaa.lib Go.Proofs.Ytalfacbkofgdjaa.val
set_option linter.unusedVariables false

def GetP (r : List V) (is_ : Bool) (w : World) (e : Ending) (w' : World) : Prop := ∃ A m c, e = .returned (.tuple #[.slice A m c, .bool is_]) ∧ Vs w' w.heap.size A m c r ∧ Below w.heap.size w w'
set_option maxHeartbeats 2000000 in
theorem get_ (S : Sch) (rows : List (List V)) (kv : V) (lo : Nat) (A : Option Addr) (n c : Nat) (A' : Option Addr) (n' c' : Nat) (w : World)
    (hR : Rs w lo A' n' c' rows) (hOk : Ok S.cols S.key rows) (hn : S.cols.length ≤ 100) (hrows : rows.length ≤ 1000) :
    Calls Try.prog 25 #[.agg (tabA S A n c A' n' c'), .agg #[.int .i64 kv.k, .int .i64 kv.n, .string kv.s]] w (GetP (rowL S.key rows kv) (isL S.key kv rows) w) := by
  have hRn := hR.len
  have HSm := Lib.hid (hOk.small hn)
  have HRN := Lib.hid hRn
  have hn' : n' ≤ 1000 := by omega
  have hfind := fun w' (h : Below w.heap.size w w') => find_ S kv rows lo A n c A' n' c' w' (hR.ext h) (hOk.keyed (Nat.le_trans hn (by decide))) hOk.ord (by omega)
  clear hRn hOk
  obtain ⟨rr, hrr⟩ : ∃ rr, rowL S.key rows kv = rr := ⟨_, rfl⟩
  rw [hrr]
  have hIs := fun (h : isL S.key kv rows = true) => rowL_at h
  rw [hrr] at hIs
  obtain ⟨at_, hat⟩ : ∃ a, atL S.key kv rows = a := ⟨_, rfl⟩
  obtain ⟨is_, his⟩ : ∃ a, isL S.key kv rows = a := ⟨_, rfl⟩
  have hrn : is_ = false → rr = [] := by
    intro h
    rw [← hrr]; unfold rowL; rw [his, h]; rfl
  rw [hat, his] at hfind hIs
  rw [his]
  have HIs := Lib.hid hIs
  have Hrn := Lib.hid hrn
  have Hfind := Lib.hid hfind
  clear hfind hat his hIs hrn hrr
  obtain ⟨nm, cols, key, only⟩ := S
  obtain ⟨kk, kn, ks⟩ := kv
  simp only [tabA] at Hfind hn HIs ⊢
  go_enter Try.func25, Try.ntmps25
  go_upto_region 1 with fail
  obtain ⟨W, hW_, hbW, B1, BV⟩ : ∃ W_, W_ = ((w.alloc (.cells #[.string nm, .slice A n c, .int .i64 key, .bool only, .slice A' n' c'] 32)).alloc (.cells #[.int .i64 kk, .int .i64 kn, .string ks] 39)) ∧ Below w.heap.size w W_ ∧ Blk W_ (w.heap.size) 32 #[.string nm, .slice A n c, .int .i64 key, .bool only, .slice A' n' c'] ∧ Blk W_ (w.heap.size + 1) 39 #[.int .i64 kk, .int .i64 kn, .string ks] :=
    ⟨_, rfl, (((Below.refl _ _).alloc (Nat.le_refl _) _).alloc (by simp; try omega) _), ((blk_new_at w (w.heap.size) _ _ (by simp)).alloc _), (blk_new_at (w.alloc (.cells #[.string nm, .slice A n c, .int .i64 key, .bool only, .slice A' n' c'] 32)) (w.heap.size + 1) _ _ (by simp))⟩
  rw [← hW_]
  clear hW_
  have q1 := five B1 (Below.refl _ _)
  have qv := BV.three (Below.refl _ _)
  go_wp2_with fail
  clear q1 qv
  refine (Hfind.out _ hbW).mono ?_
  rintro e2 w3 ⟨rfl, hb3⟩
  have hbw3 := Below.trans hbW (Below.mono hb3 hbW.size)
  have B1 := B1.ext hb3
  cases is_ with
  | false =>
    have hre : rr = [] := Hrn.out rfl
    subst hre
    go_wp2
    exact bodyPost_ret (v := .tuple #[.slice none 0 0, .bool false]) (by simp [results, Try.results25, go_sem]; try rfl) rfl ⟨_, _, _, rfl, ⟨Row.nil _ _, rfl⟩, hbw3⟩
  | true =>
    obtain ⟨r, hr, hrr, _⟩ := HIs.out rfl
    have hrr := hrr.symm
    subst hrr
    have hrlen := HSm.out r (List.mem_of_getElem? hr)
    have hatl : at_ < n' := by rw [← HRN.out]; exact (List.getElem?_eq_some_iff.1 hr).1
    have hat2 : (at_ : Int) < (n' : Int) := by omega
    obtain ⟨bA, oA, rfl, hle, _, hlA⟩ := hR.some_ (by omega)
    obtain ⟨Ae, ce, hce, hve⟩ := (hR.ext hbw3).at_ hr
    have q1 := five B1 (Below.refl _ _)
    clear hr
    go_wp2_with fail
    refine (cloneV r lo Ae r.length ce _ hrlen hve).mono ?_
    rintro e9 w9 ⟨A9, c9, rfl, hown9, hb9⟩
    have hV9 : Vs w9 w3.heap.size A9 r.length c9 r := Vs.of_own hown9
    clear q1 hce
    go_wp2
    exact bodyPost_ret (v := .tuple #[.slice A9 r.length c9, .bool true]) (by simp [results, Try.results25, go_sem]; try rfl) rfl ⟨_, _, _, rfl, hV9.base hbw3.size, Below.trans hbw3 (Below.mono hb9 hbw3.size)⟩

theorem compare_ (a b : V) (w : World) : Calls Try.prog 43 #[.agg #[.int .i64 a.k, .int .i64 a.n, .string a.s], .agg #[.int .i64 b.k, .int .i64 b.n, .string b.s]] w fun e w' => e = .returned (.int .i64 (cmpV a b)) ∧ Below w.heap.size w w' := compare a.k a.n a.s b.k b.n b.s w
set_option maxRecDepth 1000000 in
set_option maxHeartbeats 4000000 in
theorem range_ (S : Sch) (rows : List (List V)) (kl kh : V) (lo : Nat) (A : Option Addr) (n c : Nat) (A' : Option Addr) (n' c' : Nat) (w : World)
    (hR : Rs w lo A' n' c' rows) (hOk : Ok S.cols S.key rows) (hn : S.cols.length ≤ 100) (hrows : rows.length ≤ 1000) :
    Calls Try.prog 23 #[.agg (tabA S A n c A' n' c'), .agg #[.int .i64 kl.k, .int .i64 kl.n, .string kl.s], .agg #[.int .i64 kh.k, .int .i64 kh.n, .string kh.s]] w
      (OwnR (rows.filter (rangeB S.key kl kh)) (rows.filter (rangeB S.key kl kh)).length w) := by
  obtain ⟨i0, hi, hz0, hz1, hz2⟩ := info_parts (P := Try.prog) (e := 33) (z := .slice none 0 0) (size := 1) (bytes := 24) (by kernel_rfl)
  have HRN := Lib.hid hR.len
  have hn' : n' ≤ 1000 := by rw [← HRN.out]; exact hrows
  have HSm := Lib.hid (hOk.small hn)
  have HK := Lib.hid (hOk.keyed (Nat.le_trans hn (by decide)))
  have Hkey := Lib.hid (fun r v lo' Ar m cr w' (hr : Vs w' lo' Ar m cr r) hv hm => key_ S A n c A' n' c' r lo' Ar m cr v w' hr hv hm)
  obtain ⟨F, hF⟩ : ∃ F, rangeB S.key kl kh = F := ⟨_, rfl⟩
  have HF := Lib.hid hF
  rw [hF]
  clear hF hOk
  obtain ⟨nm, cols, key, only⟩ := S
  simp only [tabA] at Hkey hn HK HF ⊢
  go_enter Try.func23, Try.ntmps23
  go_upto_region 1 with fail
  obtain ⟨W, hW_, hbW, B1, BL, BH⟩ : ∃ W_, W_ = (((w.alloc (.cells #[.string nm, .slice A n c, .int .i64 key, .bool only, .slice A' n' c'] 32)).alloc (.cells #[.int .i64 kl.k, .int .i64 kl.n, .string kl.s] 39)).alloc (.cells #[.int .i64 kh.k, .int .i64 kh.n, .string kh.s] 39)) ∧ Below w.heap.size w W_ ∧ Blk W_ (w.heap.size) 32 #[.string nm, .slice A n c, .int .i64 key, .bool only, .slice A' n' c'] ∧ Blk W_ (w.heap.size + 1) 39 #[.int .i64 kl.k, .int .i64 kl.n, .string kl.s] ∧ Blk W_ (w.heap.size + 1 + 1) 39 #[.int .i64 kh.k, .int .i64 kh.n, .string kh.s] :=
    ⟨_, rfl, ((((Below.refl _ _).alloc (Nat.le_refl _) _).alloc (by simp; try omega) _).alloc (by simp; try omega) _), (((blk_new_at w (w.heap.size) _ _ (by simp)).alloc _).alloc _), ((blk_new_at (w.alloc (.cells #[.string nm, .slice A n c, .int .i64 key, .bool only, .slice A' n' c'] 32)) (w.heap.size + 1) _ _ (by simp)).alloc _), (blk_new_at ((w.alloc (.cells #[.string nm, .slice A n c, .int .i64 key, .bool only, .slice A' n' c'] 32)).alloc (.cells #[.int .i64 kl.k, .int .i64 kl.n, .string kl.s] 39)) (w.heap.size + 1 + 1) _ _ (by simp))⟩
  rw [← hW_]
  clear hW_
  have q1 := five B1 (Below.refl _ _)
  have q1' := fun o => five B1 ((Below.refl _ _).alloc (Nat.le_refl _) o)
  go_wp2_with fail
  clear q1 q1'
  obtain ⟨W2, hW_, hb2, B3⟩ : ∃ W_, W_ = (W.alloc (.cells #[.string nm, .slice A n c, .int .i64 key, .bool only, .slice A' n' c'] 75)) ∧ Below W.heap.size W W_ ∧ Blk W_ (W.heap.size) 75 #[.string nm, .slice A n c, .int .i64 key, .bool only, .slice A' n' c'] :=
    ⟨_, rfl, ((Below.refl _ _).alloc (Nat.le_refl _) _), (blk_new_at W (W.heap.size) _ _ (by simp))⟩
  rw [← hW_]
  clear hW_
  have hbW2 := Below.trans hbW (Below.mono hb2 hbW.size)
  have BL := BL.ext hb2
  have BH := BH.ext hb2
  clear hb2 B1
  have hsz2 := hbW2.size
  go_loopw [8, 17] (fun out i wr => ∃ (k m : Nat) (hs : List Value), k ≤ n' ∧ m ≤ k ∧ i = .int .i64 k ∧ wr.ownsRow W2.heap.size 33 1 out m hs ∧ Hs w 0 hs ((rows.take k).filter F) ∧ Below W2.heap.size W2 wr) (fun _ i _ => n' - (intOf i).toNat)
  case atStart => exact ⟨0, 0, [], Nat.zero_le _, Nat.le_refl _, rfl, World.ownsRow_nil _ _ _ _, Hs.nil _ _, Below.refl _ _⟩
  case round =>
    obtain ⟨k, m, hs, hk, hmk, rfl, hown, hH, hbw⟩ := hrel
    obtain ⟨A2, c2, rfl⟩ := own_slice hown
    have HO := Lib.hid hown
    clear hown
    have hw1 := Below.trans hbW2 (Below.mono hbw hbW2.size)
    have hml : m = ((rows.take k).filter F).length := by
      have h1 := HO.out.1
      have h2 := hH.1
      omega
    have HML := Lib.hid hml
    clear hml
    rcases Nat.lt_or_ge k n' with hlt | hge
    case inr =>
      have hd : decide ((k : Int) < (n' : Int)) = false := by simp; omega
      have e : rows.take k = rows := List.take_of_length_le (by rw [HRN.out]; exact hge)
      have hm := HML.out
      rw [e] at hH hm
      have HM := Lib.hid hm
      clear hm
      have hml : m ≤ 1000 := by omega
      go_wp2_with fail
      refine (own_ _ 0 A2 m c2 _ ⟨hs, (Row.of_own HO.out).base (Nat.zero_le _), hH.ext hw1, HM.out.symm⟩ (by omega) (fun r hr => HSm.out r (List.mem_filter.1 hr).1)).mono ?_
      rintro e w3 ⟨A3, c3, rfl, hR3, hF3, hb3⟩
      go_wp2
      go_ret
      exact ⟨A3, c3, by rw [← HM.out]; rfl, by rw [← HM.out]; exact hR3.base hw1.size, hF3, Below.trans hw1 (Below.mono hb3 hw1.size)⟩
    have hd : decide ((k : Int) < (n' : Int)) = true := by simp; omega
    have hkn : (k : Int) < (n' : Int) := by omega
    obtain ⟨r, hx⟩ : ∃ r, rows[k]? = some r := ⟨_, List.getElem?_eq_getElem (by rw [HRN.out]; exact hlt)⟩
    obtain ⟨hrl, v, hv⟩ := HK.out k r hx
    obtain ⟨b, off, rfl, _, _, hb⟩ := hR.some_ (by omega)
    obtain ⟨Ar, cr, q0, hvs⟩ := hR.at_ hx
    have q := (hw1.cell (p := ⟨b, off + k, none⟩) hb).trans q0
    have hFr : F r = (decide (0 ≤ cmpV v kl) && (decide (kh.k = 0) || decide (cmpV v kh ≤ 0))) := by
      rw [← HF.out]; unfold rangeB; rw [keyOf_at hv]
    have HN := Lib.hid (filter_snoc F rows k r hx)
    have HFr := Lib.hid hFr
    have HV := Lib.hid hv
    clear hFr hx hv HML
    have q3 := five (B3.ext hbw) (Below.refl _ _)
    go_wp2_with fail
    clear q q0 q3
    refine (Hkey.out r v lo Ar r.length cr _ (hvs.ext hw1) HV.out hrl).mono ?_
    rintro e w3 ⟨rfl, hb3⟩
    have hbw3 := Below.trans hbw (Below.mono hb3 hbw.size)
    have hw3 := Below.trans hbW2 (Below.mono hbw3 hbW2.size)
    have HO3 := Lib.hid (own_ext HO.out hb3)
    clear hb3 HO hw1 hbw
    obtain ⟨v0, v1, v2⟩ := v
    simp only
    have ql := fun o => (BL.ext (hbw3.alloc (by exact hbw3.size) o)).three (Below.refl _ _)
    go_wp2_with fail
    clear ql
    obtain ⟨W4, hW_, hb4, BK⟩ : ∃ W_, W_ = (w3.alloc (.cells #[.int .i64 v0, .int .i64 v1, .string v2] 39)) ∧ Below w3.heap.size w3 W_ ∧ Blk W_ (w3.heap.size) 39 #[.int .i64 v0, .int .i64 v1, .string v2] :=
      ⟨_, rfl, ((Below.refl _ _).alloc (Nat.le_refl _) _), (blk_new_at w3 (w3.heap.size) _ _ (by simp))⟩
    rw [← hW_]
    clear hW_
    have hbw4 := Below.trans hbw3 (Below.mono hb4 hbw3.size)
    have HO4 := Lib.hid (own_ext HO3.out hb4)
    clear HO3 hb4 hbw3 hw3
    refine (compare_ ⟨v0, v1, v2⟩ kl _).mono ?_
    rintro e w5 ⟨rfl, hb5⟩
    have hbw5 := Below.trans hbw4 (Below.mono hb5 hbw4.size)
    have HO5 := Lib.hid (own_ext HO4.out hb5)
    have BK5 := BK.ext hb5
    clear HO4 hb5 hbw4 BK
    obtain ⟨p1, hp1⟩ : ∃ p, decide (0 ≤ cmpV ⟨v0, v1, v2⟩ kl) = p := ⟨_, rfl⟩
    obtain ⟨p2, hp2⟩ : ∃ p, decide (kh.k = 0) = p := ⟨_, rfl⟩
    obtain ⟨p3, hp3⟩ : ∃ p, decide (cmpV ⟨v0, v1, v2⟩ kh ≤ 0) = p := ⟨_, rfl⟩
    have hp2' : (kh.k == 0) = p2 := hp2
    have hFr := HFr.out
    rw [hp1, hp2, hp3] at hFr
    have hqh := (BH.ext hbw5).three (Below.refl _ _)
    have hqk := BK5.three (Below.refl _ _)
    clear hp2
    have no : F r = false → ∃ (k_1 m_1 : Nat) (hs_1 : List Value), k_1 ≤ n' ∧ m_1 ≤ k_1 ∧ Value.int .i64 ((k : Int) + 1) = .int .i64 k_1 ∧ w5.ownsRow W2.heap.size 33 1 (.slice A2 m c2) m_1 hs_1 ∧ Hs w 0 hs_1 ((rows.take k_1).filter F) ∧ Below W2.heap.size W2 w5 := fun hf => by
      refine ⟨k + 1, m, hs, by omega, by omega, by go_num, HO5.out, ?_, hbw5⟩
      rw [HN.out, if_neg (by rw [hf]; decide)]
      exact hH
    have NO := Lib.hid no
    clear no
    cases p1 with
    | false =>
      rw [Bool.false_and] at hFr
      go_wp2
      go_roundw
      case rel => exact NO.out hFr
      case measure => simp [intOf]; omega
    | true =>
      rw [Bool.true_and] at hFr
      cases p2 with
      | true =>
        rw [Bool.true_or] at hFr
        go_wp2_with (at_builtin; refine wpList_append_own _ rfl (.tmp 39) (.tmp 41) 30 rfl W2.heap.size 33 i0 _ 1 24 Try.underlying30 hi hz0 hz1 hz2 rfl (by decide) _ _ _ rfl (HO5.out.alloc _) ⟨w5.heap.size, 0, none⟩ 1 1 [.slice Ar r.length cr] rfl rfl ?c1 ?c2 ?c3 ?c4 ?c5 ?_)
        case c1 => exact (Row.of_blk (Blk.new w5 _ _) (Nat.zero_le _) 1 1 (Nat.le_refl _)).src
        case c2 => intro u hu; rw [List.mem_singleton] at hu; rw [hu]; rfl
        case c3 => unfold maxLen; omega
        case c4 => omega
        case c5 => have := hbw5.size; simp; omega
        intro v' w7 hown7 hgrow7 _
        have hb7 : Below W2.heap.size W2 w7 := (hbw5.alloc hbw5.size _).grown hgrow7 (by have := hbw5.size; simp; omega) (fun b hb => (HO5.out.lt b hb).1)
        have HO7 := Lib.hid hown7
        have hH7 : Hs w 0 (hs ++ [.slice Ar r.length cr]) ((rows.take (k + 1)).filter F) := by
          rw [HN.out, if_pos hFr]
          exact hH.append (Hs.one ⟨Ar, cr, rfl, hvs.base (Nat.zero_le _)⟩)
        go_wp2
        go_roundw
        case rel => exact ⟨k + 1, m + 1, _, by omega, by omega, by go_num, HO7.out, hH7, hb7⟩
        case measure => simp [intOf]; omega
      | false =>
        rw [Bool.false_or] at hFr
        go_wp2_with fail
        refine (compare_ ⟨v0, v1, v2⟩ kh _).mono ?_
        rintro e w6 ⟨rfl, hb6⟩
        have hbw6 := Below.trans hbw5 (Below.mono hb6 hbw5.size)
        have HO6 := Lib.hid (own_ext HO5.out hb6)
        clear hqh hqk HO5
        cases p3 with
        | false =>
          go_wp2
          go_roundw
          case rel =>
            refine ⟨k + 1, m, hs, by omega, by omega, by go_num, HO6.out, ?_, hbw6⟩
            rw [HN.out, if_neg (by rw [hFr]; decide)]
            exact hH
          case measure => simp [intOf]; omega
        | true =>
          go_wp2_with (at_builtin; refine wpList_append_own _ rfl (.tmp 39) (.tmp 41) 30 rfl W2.heap.size 33 i0 _ 1 24 Try.underlying30 hi hz0 hz1 hz2 rfl (by decide) _ _ _ rfl (HO6.out.alloc _) ⟨w6.heap.size, 0, none⟩ 1 1 [.slice Ar r.length cr] rfl rfl ?c1 ?c2 ?c3 ?c4 ?c5 ?_)
          case c1 => exact (Row.of_blk (Blk.new w6 _ _) (Nat.zero_le _) 1 1 (Nat.le_refl _)).src
          case c2 => intro u hu; rw [List.mem_singleton] at hu; rw [hu]; rfl
          case c3 => unfold maxLen; omega
          case c4 => omega
          case c5 => have := hbw6.size; simp; omega
          intro v' w7 hown7 hgrow7 _
          have hb7 : Below W2.heap.size W2 w7 := (hbw6.alloc hbw6.size _).grown hgrow7 (by have := hbw6.size; simp; omega) (fun b hb => (HO6.out.lt b hb).1)
          have HO7 := Lib.hid hown7
          have hH7 : Hs w 0 (hs ++ [.slice Ar r.length cr]) ((rows.take (k + 1)).filter F) := by
            rw [HN.out, if_pos hFr]
            exact hH.append (Hs.one ⟨Ar, cr, rfl, hvs.base (Nat.zero_le _)⟩)
          go_wp2
          go_roundw
          case rel => exact ⟨k + 1, m + 1, _, by omega, by omega, by go_num, HO7.out, hH7, hb7⟩
          case measure => simp [intOf]; omega
end Go.Proofs.Ytalfacbkofgdjaa.tb
