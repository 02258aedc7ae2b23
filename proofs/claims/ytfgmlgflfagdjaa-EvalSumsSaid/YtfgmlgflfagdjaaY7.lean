/- The document's parser: or, and, mul, not, neg. Printed by geny.py. -/
import Derived.Test.YtfgmlgflfagdjaaY6
namespace Go.Proofs.Ytfgmlgflfagdjaa.ps
open Go.ChangeShapes Go.WideShapes Go.ChangeAt Go.RowKit Go.Proofs.Ytfgmlgflfagdjaa.lib Go.Proofs.Ytfgmlgflfagdjaa.val Go.Proofs.Ytfgmlgflfagdjaa.lx Go.Proofs.Ytfgmlgflfagdjaa.ev
set_option linter.unusedVariables false

/-- a rule's contract: with so much to go -/
def RuleC (fn : Nat) (W : List Wd) (k f : Nat) : Prop := ∀ (w0 w : World) (g : Nat) (Aw : Option Addr) (cw : Nat) (p : Ps), PrA w0 w g W Aw cw p → (W.length - p.at_) * 9 + (9 - k) ≤ f →
  Calls Try.prog fn #[.pointer (some ⟨g, 0, none⟩)] w fun e w' => e = .returned (.int .i64 (pr W f k p).1) ∧ PrA w0 w' g W Aw cw (pr W f k p).2
theorem loop_miss {W : List Wd} {sub : Sub} {ops : List (List UInt8 × Int)} {n : Nat} {a : Int} {p : Ps} (h : ops.find? (fun x => okIs W x.1 p) = none) : loopP W sub ops (n + 1) a p = (a, p) := by
  unfold loopP
  rw [h]
theorem loop_hit {W : List Wd} {sub : Sub} {ops : List (List UInt8 × Int)} {n : Nat} {a : Int} {p : Ps} {s : List UInt8} (op : Int) (hk : okIs W s p = true) (h : ops.find? (fun x => okIs W x.1 p) = some (s, op)) :
    loopP W sub ops (n + 1) a p = loopP W sub ops n (nodeP (nd2 op a (sub (stepP p)).1) (sub (stepP p)).2).1 (nodeP (nd2 op a (sub (stepP p)).1) (sub (stepP p)).2).2 := by
  conv => lhs; unfold loopP
  rw [h]
set_option maxRecDepth 1000000 in
set_option maxHeartbeats 4000000 in
theorem por_ (W : List Wd) (f : Nat) (hs : RuleC 63 W 1 f) : RuleC 46 W 0 (f + 1) := by
  intro w0 w g Aw cw p h hn
  have HS := Lib.hid hs
  clear hs
  obtain ⟨Ae, ce, hp⟩ := h
  have hW := hp.wok
  have HO := Lib.hid (on_pr hW f 1)
  have HR := Lib.hid (show pr W (f + 1) 0 p = loopP W (pr W f 1) [([111, 114], 6)] W.length (pr W f 1 p).1 (pr W f 1 p).2 by conv => lhs; unfold pr)
  obtain ⟨R, hR⟩ : ∃ R, pr W (f + 1) 0 p = R := ⟨_, rfl⟩
  rw [hR]
  have HR := HR.out
  rw [hR] at HR
  have hc := HS.out w0 w g Aw cw p ⟨_, _, hp⟩ (by omega)
  have ho := HO.out p hp.lt
  obtain ⟨⟨a0, p1⟩, hp1⟩ : ∃ X, pr W f 1 p = X := ⟨_, rfl⟩
  rw [hp1] at hc HR ho
  simp only at hc HR ho
  have HC := Lib.hid hc
  have HRR := Lib.hid HR
  have hol := ho.le
  have hlt := hp.lt
  have hwl := hp.wl
  clear hc hp1 HR hR ho hp
  go_enter Try.func46, Try.ntmps46
  go_wp2_with fail
  refine (HC.out).mono ?_
  rintro e w2 ⟨rfl, h2⟩
  go_wp2_with fail
  go_loopw [3] (fun a wr => ∃ (n : Nat) (x : Int) (q : Ps), a = .int .i64 x ∧ Hid (R = loopP W (pr W f 1) [([111, 114], 6)] n x q) ∧ p.at_ ≤ q.at_ ∧ W.length ≤ q.at_ + n ∧ PrA w0 wr g W Aw cw q) (fun _ wr => W.length - (intOf ((wr.cell? ⟨g, 1, none⟩).getD (.int .i64 0))).toNat)
  case atStart => exact ⟨W.length, a0, p1, rfl, HRR, hol, Nat.le_add_left _ _, h2⟩
  case round =>
    clear h2
    obtain ⟨n, x, q, rfl, HL, hle, hn2, Aq, cq, hq⟩ := hrel
    have hql := hq.lt
    have hm1 := hq.blk.cell 1
    have hgr := hq.blk.lt
    obtain ⟨n, rfl⟩ : ∃ m, n = m + 1 := ⟨n - 1, by omega⟩
    have HI := Lib.hid (pis_ [111, 114] hq)
    have HK := Lib.hid (fun (h : okIs W [111, 114] q = true) => (on_step hW (okIs_k h).2.1).lt)
    obtain ⟨ok, hok⟩ : ∃ b, okIs W [111, 114] q = b := ⟨_, rfl⟩
    have HOK := Lib.hid hok
    have HI := HI.out
    rw [hok] at HI
    have HI := Lib.hid HI
    clear hok hq
    go_wp2_with fail
    refine (HI.out).mono ?_
    rintro e w3 ⟨rfl, h3⟩
    cases ok with
    | false =>
      have hr : R = (x, q) := by rw [HL.out, loop_miss (by simp [HOK.out])]
      subst hr
      have H3 := Lib.hid (show PrB w0 w3 g W Aw cw q Aq cq from h3)
      clear h3 hm1
      go_wp2
      go_ret
      exact ⟨rfl, _, _, H3.out⟩
    | true =>
      have hsl := HK.out HOK.out
      have h3 : PrB w0 w3 g W Aw cw (stepP q) Aq cq := h3
      have hc := HS.out w0 w3 g Aw cw (stepP q) ⟨_, _, h3⟩ (by show (W.length - (q.at_ + 1)) * 9 + (9 - 1) ≤ f; omega)
      have ho := HO.out (stepP q) hsl
      have hr := HL.out
      rw [loop_hit 6 HOK.out (by simp [HOK.out])] at hr
      obtain ⟨⟨b, q2⟩, hq2⟩ : ∃ X, pr W f 1 (stepP q) = X := ⟨_, rfl⟩
      rw [hq2] at hc ho hr
      simp only at hc ho hr
      have HC2 := Lib.hid hc
      have HL2 := Lib.hid hr
      have ho2 : q.at_ + 1 ≤ q2.at_ := ho.le
      have hq2l := ho.lt
      clear hc hq2 hr h3 ho hsl
      go_wp2_with fail
      refine (HC2.out).mono ?_
      rintro e w4 ⟨rfl, A4, c4, h4⟩
      have hon := on_node hq2l (nd2 6 x b)
      have HN := Lib.hid (pnode_ (nd2 6 x b) h4)
      obtain ⟨⟨x3, q3⟩, hq3⟩ : ∃ X, nodeP (nd2 6 x b) q2 = X := ⟨_, rfl⟩
      have HN := HN.out
      have hr := HL2.out
      rw [hq3] at HN hon hr
      simp only at HN hon hr
      have HN := Lib.hid HN
      have HL3 := Lib.hid hr
      have ho3 := hon.le
      have ho4 := hon.lt
      clear hq3 hr hon h4
      go_wp2_with fail
      refine (HN.out).mono ?_
      rintro e w5 ⟨rfl, A5, c5, h5⟩
      have hm2 := h5.blk.cell 1
      have H5 := Lib.hid h5
      have HM1 := Lib.hid hm1
      have HM2 := Lib.hid hm2
      clear h5 hm1 hm2
      go_wp2
      go_roundw
      case rel => exact ⟨n, x3, q3, rfl, HL3, by omega, by omega, _, _, H5.out⟩
      case measure =>
        rw [HM1.out, HM2.out]
        simp [intOf]
        omega
set_option maxRecDepth 1000000 in
set_option maxHeartbeats 4000000 in
theorem pand_ (W : List Wd) (f : Nat) (hs : RuleC 74 W 2 f) : RuleC 63 W 1 (f + 1) := by
  intro w0 w g Aw cw p h hn
  have HS := Lib.hid hs
  clear hs
  obtain ⟨Ae, ce, hp⟩ := h
  have hW := hp.wok
  have HO := Lib.hid (on_pr hW f 2)
  have HR := Lib.hid (show pr W (f + 1) 1 p = loopP W (pr W f 2) [([97, 110, 100], 7)] W.length (pr W f 2 p).1 (pr W f 2 p).2 by conv => lhs; unfold pr)
  obtain ⟨R, hR⟩ : ∃ R, pr W (f + 1) 1 p = R := ⟨_, rfl⟩
  rw [hR]
  have HR := HR.out
  rw [hR] at HR
  have hc := HS.out w0 w g Aw cw p ⟨_, _, hp⟩ (by omega)
  have ho := HO.out p hp.lt
  obtain ⟨⟨a0, p1⟩, hp1⟩ : ∃ X, pr W f 2 p = X := ⟨_, rfl⟩
  rw [hp1] at hc HR ho
  simp only at hc HR ho
  have HC := Lib.hid hc
  have HRR := Lib.hid HR
  have hol := ho.le
  have hlt := hp.lt
  have hwl := hp.wl
  clear hc hp1 HR hR ho hp
  go_enter Try.func63, Try.ntmps63
  go_wp2_with fail
  refine (HC.out).mono ?_
  rintro e w2 ⟨rfl, h2⟩
  go_wp2_with fail
  go_loopw [3] (fun a wr => ∃ (n : Nat) (x : Int) (q : Ps), a = .int .i64 x ∧ Hid (R = loopP W (pr W f 2) [([97, 110, 100], 7)] n x q) ∧ p.at_ ≤ q.at_ ∧ W.length ≤ q.at_ + n ∧ PrA w0 wr g W Aw cw q) (fun _ wr => W.length - (intOf ((wr.cell? ⟨g, 1, none⟩).getD (.int .i64 0))).toNat)
  case atStart => exact ⟨W.length, a0, p1, rfl, HRR, hol, Nat.le_add_left _ _, h2⟩
  case round =>
    clear h2
    obtain ⟨n, x, q, rfl, HL, hle, hn2, Aq, cq, hq⟩ := hrel
    have hql := hq.lt
    have hm1 := hq.blk.cell 1
    have hgr := hq.blk.lt
    obtain ⟨n, rfl⟩ : ∃ m, n = m + 1 := ⟨n - 1, by omega⟩
    have HI := Lib.hid (pis_ [97, 110, 100] hq)
    have HK := Lib.hid (fun (h : okIs W [97, 110, 100] q = true) => (on_step hW (okIs_k h).2.1).lt)
    obtain ⟨ok, hok⟩ : ∃ b, okIs W [97, 110, 100] q = b := ⟨_, rfl⟩
    have HOK := Lib.hid hok
    have HI := HI.out
    rw [hok] at HI
    have HI := Lib.hid HI
    clear hok hq
    go_wp2_with fail
    refine (HI.out).mono ?_
    rintro e w3 ⟨rfl, h3⟩
    cases ok with
    | false =>
      have hr : R = (x, q) := by rw [HL.out, loop_miss (by simp [HOK.out])]
      subst hr
      have H3 := Lib.hid (show PrB w0 w3 g W Aw cw q Aq cq from h3)
      clear h3 hm1
      go_wp2
      go_ret
      exact ⟨rfl, _, _, H3.out⟩
    | true =>
      have hsl := HK.out HOK.out
      have h3 : PrB w0 w3 g W Aw cw (stepP q) Aq cq := h3
      have hc := HS.out w0 w3 g Aw cw (stepP q) ⟨_, _, h3⟩ (by show (W.length - (q.at_ + 1)) * 9 + (9 - 2) ≤ f; omega)
      have ho := HO.out (stepP q) hsl
      have hr := HL.out
      rw [loop_hit 7 HOK.out (by simp [HOK.out])] at hr
      obtain ⟨⟨b, q2⟩, hq2⟩ : ∃ X, pr W f 2 (stepP q) = X := ⟨_, rfl⟩
      rw [hq2] at hc ho hr
      simp only at hc ho hr
      have HC2 := Lib.hid hc
      have HL2 := Lib.hid hr
      have ho2 : q.at_ + 1 ≤ q2.at_ := ho.le
      have hq2l := ho.lt
      clear hc hq2 hr h3 ho hsl
      go_wp2_with fail
      refine (HC2.out).mono ?_
      rintro e w4 ⟨rfl, A4, c4, h4⟩
      have hon := on_node hq2l (nd2 7 x b)
      have HN := Lib.hid (pnode_ (nd2 7 x b) h4)
      obtain ⟨⟨x3, q3⟩, hq3⟩ : ∃ X, nodeP (nd2 7 x b) q2 = X := ⟨_, rfl⟩
      have HN := HN.out
      have hr := HL2.out
      rw [hq3] at HN hon hr
      simp only at HN hon hr
      have HN := Lib.hid HN
      have HL3 := Lib.hid hr
      have ho3 := hon.le
      have ho4 := hon.lt
      clear hq3 hr hon h4
      go_wp2_with fail
      refine (HN.out).mono ?_
      rintro e w5 ⟨rfl, A5, c5, h5⟩
      have hm2 := h5.blk.cell 1
      have H5 := Lib.hid h5
      have HM1 := Lib.hid hm1
      have HM2 := Lib.hid hm2
      clear h5 hm1 hm2
      go_wp2
      go_roundw
      case rel => exact ⟨n, x3, q3, rfl, HL3, by omega, by omega, _, _, H5.out⟩
      case measure =>
        rw [HM1.out, HM2.out]
        simp [intOf]
        omega
set_option maxRecDepth 1000000 in
set_option maxHeartbeats 4000000 in
theorem pmul_ (W : List Wd) (f : Nat) (hs : RuleC 91 W 6 f) : RuleC 90 W 5 (f + 1) := by
  intro w0 w g Aw cw p h hn
  have HS := Lib.hid hs
  clear hs
  obtain ⟨Ae, ce, hp⟩ := h
  have hW := hp.wok
  have HO := Lib.hid (on_pr hW f 6)
  have HR := Lib.hid (show pr W (f + 1) 5 p = loopP W (pr W f 6) [([42], 16)] W.length (pr W f 6 p).1 (pr W f 6 p).2 by conv => lhs; unfold pr)
  obtain ⟨R, hR⟩ : ∃ R, pr W (f + 1) 5 p = R := ⟨_, rfl⟩
  rw [hR]
  have HR := HR.out
  rw [hR] at HR
  have hc := HS.out w0 w g Aw cw p ⟨_, _, hp⟩ (by omega)
  have ho := HO.out p hp.lt
  obtain ⟨⟨a0, p1⟩, hp1⟩ : ∃ X, pr W f 6 p = X := ⟨_, rfl⟩
  rw [hp1] at hc HR ho
  simp only at hc HR ho
  have HC := Lib.hid hc
  have HRR := Lib.hid HR
  have hol := ho.le
  have hlt := hp.lt
  have hwl := hp.wl
  clear hc hp1 HR hR ho hp
  go_enter Try.func90, Try.ntmps90
  go_wp2_with fail
  refine (HC.out).mono ?_
  rintro e w2 ⟨rfl, h2⟩
  go_wp2_with fail
  go_loopw [3] (fun a wr => ∃ (n : Nat) (x : Int) (q : Ps), a = .int .i64 x ∧ Hid (R = loopP W (pr W f 6) [([42], 16)] n x q) ∧ p.at_ ≤ q.at_ ∧ W.length ≤ q.at_ + n ∧ PrA w0 wr g W Aw cw q) (fun _ wr => W.length - (intOf ((wr.cell? ⟨g, 1, none⟩).getD (.int .i64 0))).toNat)
  case atStart => exact ⟨W.length, a0, p1, rfl, HRR, hol, Nat.le_add_left _ _, h2⟩
  case round =>
    clear h2
    obtain ⟨n, x, q, rfl, HL, hle, hn2, Aq, cq, hq⟩ := hrel
    have hql := hq.lt
    have hm1 := hq.blk.cell 1
    have hgr := hq.blk.lt
    obtain ⟨n, rfl⟩ : ∃ m, n = m + 1 := ⟨n - 1, by omega⟩
    have HI := Lib.hid (pis_ [42] hq)
    have HK := Lib.hid (fun (h : okIs W [42] q = true) => (on_step hW (okIs_k h).2.1).lt)
    obtain ⟨ok, hok⟩ : ∃ b, okIs W [42] q = b := ⟨_, rfl⟩
    have HOK := Lib.hid hok
    have HI := HI.out
    rw [hok] at HI
    have HI := Lib.hid HI
    clear hok hq
    go_wp2_with fail
    refine (HI.out).mono ?_
    rintro e w3 ⟨rfl, h3⟩
    cases ok with
    | false =>
      have hr : R = (x, q) := by rw [HL.out, loop_miss (by simp [HOK.out])]
      subst hr
      have H3 := Lib.hid (show PrB w0 w3 g W Aw cw q Aq cq from h3)
      clear h3 hm1
      go_wp2
      go_ret
      exact ⟨rfl, _, _, H3.out⟩
    | true =>
      have hsl := HK.out HOK.out
      have h3 : PrB w0 w3 g W Aw cw (stepP q) Aq cq := h3
      have hc := HS.out w0 w3 g Aw cw (stepP q) ⟨_, _, h3⟩ (by show (W.length - (q.at_ + 1)) * 9 + (9 - 6) ≤ f; omega)
      have ho := HO.out (stepP q) hsl
      have hr := HL.out
      rw [loop_hit 16 HOK.out (by simp [HOK.out])] at hr
      obtain ⟨⟨b, q2⟩, hq2⟩ : ∃ X, pr W f 6 (stepP q) = X := ⟨_, rfl⟩
      rw [hq2] at hc ho hr
      simp only at hc ho hr
      have HC2 := Lib.hid hc
      have HL2 := Lib.hid hr
      have ho2 : q.at_ + 1 ≤ q2.at_ := ho.le
      have hq2l := ho.lt
      clear hc hq2 hr h3 ho hsl
      go_wp2_with fail
      refine (HC2.out).mono ?_
      rintro e w4 ⟨rfl, A4, c4, h4⟩
      have hon := on_node hq2l (nd2 16 x b)
      have HN := Lib.hid (pnode_ (nd2 16 x b) h4)
      obtain ⟨⟨x3, q3⟩, hq3⟩ : ∃ X, nodeP (nd2 16 x b) q2 = X := ⟨_, rfl⟩
      have HN := HN.out
      have hr := HL2.out
      rw [hq3] at HN hon hr
      simp only at HN hon hr
      have HN := Lib.hid HN
      have HL3 := Lib.hid hr
      have ho3 := hon.le
      have ho4 := hon.lt
      clear hq3 hr hon h4
      go_wp2_with fail
      refine (HN.out).mono ?_
      rintro e w5 ⟨rfl, A5, c5, h5⟩
      have hm2 := h5.blk.cell 1
      have H5 := Lib.hid h5
      have HM1 := Lib.hid hm1
      have HM2 := Lib.hid hm2
      clear h5 hm1 hm2
      go_wp2
      go_roundw
      case rel => exact ⟨n, x3, q3, rfl, HL3, by omega, by omega, _, _, H5.out⟩
      case measure =>
        rw [HM1.out, HM2.out]
        simp [intOf]
        omega
set_option maxRecDepth 1000000 in
set_option maxHeartbeats 4000000 in
theorem pnot_ (W : List Wd) (f : Nat) (hs : RuleC 74 W 2 f) (ht : RuleC 83 W 3 f) : RuleC 74 W 2 (f + 1) := by
  intro w0 w g Aw cw p h hn
  have HS := Lib.hid hs
  have HT := Lib.hid ht
  clear hs ht
  obtain ⟨Ae, ce, hp⟩ := h
  have hW := hp.wok
  have HO := Lib.hid (on_pr hW f 2)
  have HR := Lib.hid (show pr W (f + 1) 2 p = if okIs W [110, 111, 116] p = true then nodeP (nd2 3 (pr W f 2 (stepP p)).1 0) (pr W f 2 (stepP p)).2 else pr W f 3 p by conv => lhs; unfold pr)
  obtain ⟨R, hR⟩ : ∃ R, pr W (f + 1) 2 p = R := ⟨_, rfl⟩
  rw [hR]
  have HR := HR.out
  rw [hR] at HR
  have HI := Lib.hid (pis_ [110, 111, 116] hp)
  have HK := Lib.hid (fun (h : okIs W [110, 111, 116] p = true) => (on_step hW (okIs_k h).2.1).lt)
  obtain ⟨ok, hok⟩ : ∃ b, okIs W [110, 111, 116] p = b := ⟨_, rfl⟩
  have HOK := Lib.hid hok
  have HI := HI.out
  rw [hok] at HI HR
  have HI := Lib.hid HI
  have HRR := Lib.hid HR
  have hlt := hp.lt
  clear hok hp HR hR
  go_enter Try.func74, Try.ntmps74
  go_wp2_with fail
  refine (HI.out).mono ?_
  rintro e w3 ⟨rfl, h3⟩
  cases ok with
  | false =>
    have hr : R = pr W f 3 p := by rw [HRR.out, if_neg (by simp)]
    have HC := Lib.hid (HT.out w0 w3 g Aw cw p ⟨_, _, h3⟩ (by omega))
    have HC := HC.out
    rw [← hr] at HC
    have HC := Lib.hid HC
    clear h3 hr
    go_wp2_with fail
    refine (HC.out).mono ?_
    rintro e w4 ⟨rfl, h4⟩
    have H4 := Lib.hid h4
    clear h4
    go_wp2
    go_ret
    exact ⟨rfl, H4.out⟩
  | true =>
    have hsl := HK.out HOK.out
    have h3 : PrB w0 w3 g W Aw cw (stepP p) Ae ce := h3
    have hc := HS.out w0 w3 g Aw cw (stepP p) ⟨_, _, h3⟩ (by show (W.length - (p.at_ + 1)) * 9 + (9 - 2) ≤ f; omega)
    have hr := HRR.out
    rw [if_pos rfl] at hr
    obtain ⟨⟨b, q2⟩, hq2⟩ : ∃ X, pr W f 2 (stepP p) = X := ⟨_, rfl⟩
    rw [hq2] at hc hr
    simp only at hc hr
    have HC2 := Lib.hid hc
    have HL2 := Lib.hid hr
    clear hc hq2 hr h3 hsl
    go_wp2_with fail
    refine (HC2.out).mono ?_
    rintro e w4 ⟨rfl, A4, c4, h4⟩
    have HN := Lib.hid (pnode_ (nd2 3 b 0) h4)
    have HN := HN.out
    rw [← HL2.out] at HN
    have HN := Lib.hid HN
    clear h4
    go_wp2_with fail
    refine (HN.out).mono ?_
    rintro e w5 ⟨rfl, h5⟩
    have H5 := Lib.hid h5
    clear h5
    go_wp2
    go_ret
    exact ⟨rfl, H5.out⟩
set_option maxRecDepth 1000000 in
set_option maxHeartbeats 4000000 in
theorem pneg_ (W : List Wd) (f : Nat) (hs : RuleC 91 W 6 f) (ht : RuleC 92 W 7 f) : RuleC 91 W 6 (f + 1) := by
  intro w0 w g Aw cw p h hn
  have HS := Lib.hid hs
  have HT := Lib.hid ht
  clear hs ht
  obtain ⟨Ae, ce, hp⟩ := h
  have hW := hp.wok
  have HO := Lib.hid (on_pr hW f 6)
  have HR := Lib.hid (show pr W (f + 1) 6 p = if okIs W [45] p = true then nodeP (nd2 4 (pr W f 6 (stepP p)).1 0) (pr W f 6 (stepP p)).2 else pr W f 7 p by conv => lhs; unfold pr)
  obtain ⟨R, hR⟩ : ∃ R, pr W (f + 1) 6 p = R := ⟨_, rfl⟩
  rw [hR]
  have HR := HR.out
  rw [hR] at HR
  have HI := Lib.hid (pis_ [45] hp)
  have HK := Lib.hid (fun (h : okIs W [45] p = true) => (on_step hW (okIs_k h).2.1).lt)
  obtain ⟨ok, hok⟩ : ∃ b, okIs W [45] p = b := ⟨_, rfl⟩
  have HOK := Lib.hid hok
  have HI := HI.out
  rw [hok] at HI HR
  have HI := Lib.hid HI
  have HRR := Lib.hid HR
  have hlt := hp.lt
  clear hok hp HR hR
  go_enter Try.func91, Try.ntmps91
  go_wp2_with fail
  refine (HI.out).mono ?_
  rintro e w3 ⟨rfl, h3⟩
  cases ok with
  | false =>
    have hr : R = pr W f 7 p := by rw [HRR.out, if_neg (by simp)]
    have HC := Lib.hid (HT.out w0 w3 g Aw cw p ⟨_, _, h3⟩ (by omega))
    have HC := HC.out
    rw [← hr] at HC
    have HC := Lib.hid HC
    clear h3 hr
    go_wp2_with fail
    refine (HC.out).mono ?_
    rintro e w4 ⟨rfl, h4⟩
    have H4 := Lib.hid h4
    clear h4
    go_wp2
    go_ret
    exact ⟨rfl, H4.out⟩
  | true =>
    have hsl := HK.out HOK.out
    have h3 : PrB w0 w3 g W Aw cw (stepP p) Ae ce := h3
    have hc := HS.out w0 w3 g Aw cw (stepP p) ⟨_, _, h3⟩ (by show (W.length - (p.at_ + 1)) * 9 + (9 - 6) ≤ f; omega)
    have hr := HRR.out
    rw [if_pos rfl] at hr
    obtain ⟨⟨b, q2⟩, hq2⟩ : ∃ X, pr W f 6 (stepP p) = X := ⟨_, rfl⟩
    rw [hq2] at hc hr
    simp only at hc hr
    have HC2 := Lib.hid hc
    have HL2 := Lib.hid hr
    clear hc hq2 hr h3 hsl
    go_wp2_with fail
    refine (HC2.out).mono ?_
    rintro e w4 ⟨rfl, A4, c4, h4⟩
    have HN := Lib.hid (pnode_ (nd2 4 b 0) h4)
    have HN := HN.out
    rw [← HL2.out] at HN
    have HN := Lib.hid HN
    clear h4
    go_wp2_with fail
    refine (HN.out).mono ?_
    rintro e w5 ⟨rfl, h5⟩
    have H5 := Lib.hid h5
    clear h5
    go_wp2
    go_ret
    exact ⟨rfl, H5.out⟩
end Go.Proofs.Ytfgmlgflfagdjaa.ps
