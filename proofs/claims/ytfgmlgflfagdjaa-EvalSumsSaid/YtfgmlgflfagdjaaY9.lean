/- The document's parser: compare; all rules. Printed by geny.py. -/
import Derived.Test.YtfgmlgflfagdjaaY8
namespace Go.Proofs.Ytfgmlgflfagdjaa.ps
open Go.ChangeShapes Go.WideShapes Go.ChangeAt Go.RowKit Go.Proofs.Ytfgmlgflfagdjaa.lib Go.Proofs.Ytfgmlgflfagdjaa.val Go.Proofs.Ytfgmlgflfagdjaa.lx Go.Proofs.Ytfgmlgflfagdjaa.ev
set_option linter.unusedVariables false

theorem find_at {α : Type} {P : α → Bool} : ∀ {l : List α} {m : Nat} {x : α}, l[m]? = some x → P x = true → (∀ y ∈ l.take m, P y = false) → l.find? P = some x
  | [], m, x, h, _, _ => by cases h
  | a :: l, 0, x, h, hx, _ => by
    injection h with h
    subst h
    rw [List.find?_cons, hx]
  | a :: l, m + 1, x, h, hx, hn => by
    have ha : P a = false := hn a (by simp)
    rw [List.find?_cons, ha]
    exact find_at (l := l) (m := m) h hx (fun y hy => hn y (by rw [List.take_succ_cons]; exact List.mem_cons_of_mem _ hy))
theorem cmps_op : ∀ (m : Nat) (s : List UInt8) (op : Int), cmps[m]? = some (s, op) → op = 8 + (m : Int)
  | 0, _, _, h => by injection h with h; injection h with _ h; rw [← h]; rfl
  | 1, _, _, h => by injection h with h; injection h with _ h; rw [← h]; rfl
  | 2, _, _, h => by injection h with h; injection h with _ h; rw [← h]; rfl
  | 3, _, _, h => by injection h with h; injection h with _ h; rw [← h]; rfl
  | 4, _, _, h => by injection h with h; injection h with _ h; rw [← h]; rfl
  | 5, _, _, h => by injection h with h; injection h with _ h; rw [← h]; rfl
  | m + 6, _, _, h => by cases h
theorem cmps_cell : ∀ (m : Nat) (s : List UInt8) (op : Int), cmps[m]? = some (s, op) → (#[.string ⟨#[61]⟩, .string ⟨#[60, 62]⟩, .string ⟨#[60]⟩, .string ⟨#[60, 61]⟩, .string ⟨#[62]⟩, .string ⟨#[62, 61]⟩] : Array Value)[m]? = some (.string ⟨s.toArray⟩)
  | 0, _, _, h => by injection h with h; injection h with h _; rw [← h]; rfl
  | 1, _, _, h => by injection h with h; injection h with h _; rw [← h]; rfl
  | 2, _, _, h => by injection h with h; injection h with h _; rw [← h]; rfl
  | 3, _, _, h => by injection h with h; injection h with h _; rw [← h]; rfl
  | 4, _, _, h => by injection h with h; injection h with h _; rw [← h]; rfl
  | 5, _, _, h => by injection h with h; injection h with h _; rw [← h]; rfl
  | m + 6, _, _, h => by cases h
set_option maxRecDepth 1000000 in
set_option maxHeartbeats 4000000 in
theorem pcompare_ (W : List Wd) (f : Nat) (hs : RuleC 87 W 4 f) : RuleC 83 W 3 (f + 1) := by
  intro w0 w g Aw cw p h hn
  have HS := Lib.hid hs
  clear hs
  obtain ⟨Ae, ce, hp⟩ := h
  have hW := hp.wok
  have HO := Lib.hid (on_pr hW f 4)
  have HKA := Lib.hid (fun (q : Ps) (s : List UInt8) (h : okIs W s q = true) => (on_step hW (okIs_k h).2.1).lt)
  have HR := Lib.hid (show pr W (f + 1) 3 p = if okIs W [105, 115] (pr W f 4 p).2 = true then nodeP (nd2 5 (pr W f 4 p).1 0) (mustP W [110, 117, 108, 108] (stepP (pr W f 4 p).2)) else cmpP W (pr W f 4) (pr W f 4 p).1 (pr W f 4 p).2 by conv => lhs; unfold pr)
  obtain ⟨R, hR⟩ : ∃ R, pr W (f + 1) 3 p = R := ⟨_, rfl⟩
  rw [hR]
  have HR := HR.out
  rw [hR] at HR
  have hc := HS.out w0 w g Aw cw p ⟨_, _, hp⟩ (by omega)
  have ho := HO.out p hp.lt
  obtain ⟨⟨a0, p1⟩, hp1⟩ : ∃ X, pr W f 4 p = X := ⟨_, rfl⟩
  rw [hp1] at hc HR ho
  simp only at hc HR ho
  have HC := Lib.hid hc
  have hol := ho.le
  have hlt := hp.lt
  have hp1l := ho.lt
  obtain ⟨ok, hok⟩ : ∃ b, okIs W [105, 115] p1 = b := ⟨_, rfl⟩
  rw [hok] at HR
  have HOK := Lib.hid hok
  have HRR := Lib.hid HR
  clear hc hp1 HR hR ho hp hok
  go_enter Try.func83, Try.ntmps83
  go_wp2_with fail
  refine (HC.out).mono ?_
  rintro e w2 ⟨rfl, A2, c2, h2⟩
  have HI := Lib.hid (pis_ [105, 115] h2)
  have HI := HI.out
  rw [HOK.out] at HI
  have HI := Lib.hid HI
  clear h2
  go_wp2_with fail
  refine (HI.out).mono ?_
  rintro e w3 ⟨rfl, h3⟩
  clear HI
  cases ok with
  | true =>
    have h3 : PrB w0 w3 g W Aw cw (stepP p1) A2 c2 := h3
    have hr := HRR.out
    rw [if_pos rfl] at hr
    have hal : Below w3.heap.size w3 (w3.alloc (.cells #[.string ⟨#[110, 117, 108, 108]⟩] 9)) := (Below.refl _ _).alloc (Nat.le_refl _) _
    have HM := Lib.hid (pmust_ [110, 117, 108, 108] (some ⟨w3.heap.size, 0, none⟩) 1 (h3.ext hal) (Row.of_blk (Blk.new w3 _ _) (Nat.zero_le _) 1 1 (Nat.le_refl _)))
    have HR3 := Lib.hid hr
    clear h3 hal hr
    go_wp2_with fail
    refine (HM.out).mono ?_
    rintro e w4 ⟨rfl, h4⟩
    have HN := Lib.hid (pnode_ (nd2 5 a0 0) h4)
    have HN := HN.out
    rw [← HR3.out] at HN
    have HN := Lib.hid HN
    clear h4
    go_wp2_with fail
    refine (HN.out).mono ?_
    rintro e w5 ⟨rfl, h5⟩
    have H5 := Lib.hid h5
    clear h5
    go_wp2
    go_ret
    exact ⟨rfl, H5.out⟩
  | false =>
    have h3 : PrB w0 w3 g W Aw cw p1 A2 c2 := h3
    have hr := HRR.out
    rw [if_neg (by simp)] at hr
    have HR3 := Lib.hid (hr.trans (show cmpP W (pr W f 4) a0 p1 = match cmps.find? (fun x => okIs W x.1 p1) with
      | some x => nodeP (nd2 x.2 a0 (pr W f 4 (stepP p1)).1) (pr W f 4 (stepP p1)).2
      | none => (a0, p1) from rfl))
    clear hr
    go_upto_region 6 with fail
    obtain ⟨W5, hW_, hb5, BO⟩ : ∃ W_, W_ = (w3.alloc (.cells #[.string ⟨#[61]⟩, .string ⟨#[60, 62]⟩, .string ⟨#[60]⟩, .string ⟨#[60, 61]⟩, .string ⟨#[62]⟩, .string ⟨#[62, 61]⟩] 9)) ∧ Below w3.heap.size w3 W_ ∧ Blk W_ (w3.heap.size) 9 #[.string ⟨#[61]⟩, .string ⟨#[60, 62]⟩, .string ⟨#[60]⟩, .string ⟨#[60, 61]⟩, .string ⟨#[62]⟩, .string ⟨#[62, 61]⟩] :=
      ⟨_, rfl, ((Below.refl _ _).alloc (Nat.le_refl _) _), (blk_new_at w3 (w3.heap.size) _ _ (by simp))⟩
    rw [← hW_]
    clear hW_
    have h5 := h3.ext hb5
    have hgb := h3.blk.lt
    obtain ⟨gb, hgb2⟩ : ∃ gb, w3.heap.size = gb := ⟨_, rfl⟩
    rw [hgb2] at BO hgb ⊢
    clear hgb2 hb5 h3
    go_wp2_with fail
    go_loopw [5] (fun i wr => ∃ m : Nat, i = .int .i64 m ∧ m ≤ 6 ∧ PrB w0 wr g W Aw cw p1 A2 c2 ∧ Blk wr gb 9 #[.string ⟨#[61]⟩, .string ⟨#[60, 62]⟩, .string ⟨#[60]⟩, .string ⟨#[60, 61]⟩, .string ⟨#[62]⟩, .string ⟨#[62, 61]⟩] ∧ Hid (∀ x ∈ cmps.take m, okIs W x.1 p1 = false)) (fun i _ => 6 - (intOf i).toNat)
    case atStart => exact ⟨0, rfl, Nat.zero_le _, h5, BO, Lib.hid (by simp)⟩
    case round =>
      clear h5 BO
      obtain ⟨m, rfl, hm, hq, BO, HNO⟩ := hrel
      rcases Nat.lt_or_ge m 6 with hlt6 | hge
      case inr =>
        have hd : decide ((m : Int) < 6) = false := by simp; omega
        have hr : R = (a0, p1) := by
          rw [HR3.out]
          have : cmps.find? (fun x => okIs W x.1 p1) = none := by
            rw [List.find?_eq_none]
            intro x hx
            have := HNO.out x (by rw [List.take_of_length_le (show cmps.length ≤ m from hge)]; exact hx)
            simp [this]
          rw [this]
        subst hr
        have HQ := Lib.hid hq
        clear hq BO hge
        go_wp2
        go_ret
        exact ⟨rfl, _, _, HQ.out⟩
      have hd : decide ((m : Int) < 6) = true := by simp; omega
      have hm6 : (m : Int) < 6 := by omega
      obtain ⟨⟨s, op⟩, hsx⟩ : ∃ x, cmps[m]? = some x := ⟨_, List.getElem?_eq_getElem (show m < cmps.length from hlt6)⟩
      have hcell : wr.cell? ⟨gb, m, none⟩ = some (.string ⟨s.toArray⟩) := (BO.cell m).trans (cmps_cell m s op hsx)
      obtain rfl := cmps_op m s op hsx
      have HSX := Lib.hid hsx
      have HI := Lib.hid (pis2_ s hq)
      obtain ⟨ok, hok⟩ : ∃ b, okIs W s p1 = b := ⟨_, rfl⟩
      have HOK2 := Lib.hid hok
      have HI := HI.out
      rw [hok] at HI
      have HI := Lib.hid HI
      have hbl := BO.lt
      have HBO := Lib.hid BO
      clear hok hq hsx BO
      go_wp2_with fail
      refine (HI.out).mono ?_
      rintro e w4 ⟨rfl, h4, hfr⟩
      clear hcell
      cases ok with
      | false =>
        have H4 := Lib.hid (show PrB w0 w4 g W Aw cw p1 A2 c2 from h4)
        have BO4 := Lib.hid (show Blk w4 gb 9 #[.string ⟨#[61]⟩, .string ⟨#[60, 62]⟩, .string ⟨#[60]⟩, .string ⟨#[60, 61]⟩, .string ⟨#[62]⟩, .string ⟨#[62, 61]⟩] from (hfr gb hbl (by omega)).trans HBO.out)
        clear h4 hfr
        go_wp2
        go_roundw
        case rel => exact ⟨m + 1, by go_num, by omega, H4.out, BO4.out, Lib.hid (fun x hx => by
          rw [List.take_add_one, HSX.out, Option.toList_some] at hx
          rcases List.mem_append.1 hx with hx | hx
          · exact HNO.out x hx
          · rw [List.mem_singleton.1 hx]; exact HOK2.out)⟩
        case measure => simp [intOf]; omega
      | true =>
        have h4 : PrB w0 w4 g W Aw cw (stepP p1) A2 c2 := h4
        have hsl := HKA.out p1 s HOK2.out
        have hc := HS.out w0 w4 g Aw cw (stepP p1) ⟨_, _, h4⟩ (by show (W.length - (p1.at_ + 1)) * 9 + (9 - 4) ≤ f; omega)
        have hr := HR3.out
        rw [find_at HSX.out HOK2.out HNO.out] at hr
        simp only at hr
        obtain ⟨⟨b, q2⟩, hq2⟩ : ∃ X, pr W f 4 (stepP p1) = X := ⟨_, rfl⟩
        rw [hq2] at hc hr
        simp only at hc hr
        have HC2 := Lib.hid hc
        have HL2 := Lib.hid hr
        clear hc hq2 hr h4 hsl hfr
        go_wp2_with fail
        refine (HC2.out).mono ?_
        rintro e w6 ⟨rfl, A4, c4, h6⟩
        have HN := Lib.hid (pnode_ (nd2 (8 + (m : Int)) a0 b) h6)
        have HN := HN.out
        rw [← HL2.out] at HN
        have HN := Lib.hid HN
        clear h6
        go_wp2_with fail
        refine (HN.out).mono ?_
        rintro e w7 ⟨rfl, h7⟩
        have H7 := Lib.hid h7
        clear h7
        go_wp2
        go_ret
        exact ⟨rfl, H7.out⟩
/-- all the rules, whatever is left to go -/
theorem rules_ (W : List Wd) : ∀ f : Nat, RuleC 46 W 0 f ∧ RuleC 63 W 1 f ∧ RuleC 74 W 2 f ∧ RuleC 83 W 3 f ∧ RuleC 87 W 4 f ∧ RuleC 90 W 5 f ∧ RuleC 91 W 6 f ∧ RuleC 92 W 7 f
  | 0 => ⟨fun _ _ _ _ _ _ _ hn => absurd hn (by omega), fun _ _ _ _ _ _ _ hn => absurd hn (by omega), fun _ _ _ _ _ _ _ hn => absurd hn (by omega), fun _ _ _ _ _ _ _ hn => absurd hn (by omega), fun _ _ _ _ _ _ _ hn => absurd hn (by omega), fun _ _ _ _ _ _ _ hn => absurd hn (by omega), fun _ _ _ _ _ _ _ hn => absurd hn (by omega), fun _ _ _ _ _ _ _ hn => absurd hn (by omega)⟩
  | f + 1 => by
    obtain ⟨h0, h1, h2, h3, h4, h5, h6, h7⟩ := rules_ W f
    exact ⟨por_ W f h1, pand_ W f h2, pnot_ W f h2 h3, pcompare_ W f h4, psum_ W f h5, pmul_ W f h6, pneg_ W f h6 h7, pone_ W f h0⟩
end Go.Proofs.Ytfgmlgflfagdjaa.ps
