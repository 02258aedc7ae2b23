/- The program's parser: pairs. Printed by gen12.py. -/
import Derived.Test.YtfnceamkephpjaaGreatP11
import Derived.Maps.OwnSet
namespace Go.Proofs.YtfnceamkephpjaaGreat.pg
open Go.ChangeShapes Go.WideShapes Go.ChangeAt Go.RowKit Go.Proofs.YtfnceamkephpjaaGreat.lib Go.Proofs.YtfnceamkephpjaaGreat.lx
set_option linter.unusedVariables false

/-- a rule's contract: with so much to go -/
def RuleB (fn : Nat) (W : List Wd) (k f : Nat) : Prop := ∀ (w : World) (g h b : Nat) (B : Bs), Br w g h W b B → (W.length - B.p.at_) * 9 + (9 - k) ≤ f →
  Calls Tryz.prog fn #[.pointer (some ⟨h, 0, none⟩)] w fun e w' => e = .returned (.int .i64 (pr W f k B).1) ∧ Br w' g h W b (pr W f k B).2 ∧ Fr g h w w'
def opsM (ops : Ops) : List (List UInt8 × Value) := ops.map fun x => (x.1, .int .i64 x.2)
theorem ops_look (l : List UInt8) : ∀ ops : Ops, mlook (opsM ops) l (.int .i64 0) = match ops.find? (fun x => x.1 == l) with
    | some y => (.int .i64 y.2, true)
    | none => (.int .i64 0, false)
  | [] => rfl
  | y :: r => by
    have ih := ops_look l r
    unfold mlook opsM at ih ⊢
    by_cases h : y.1 = l
    · simp [h]
    · simp only [List.map_cons]
      rw [List.find?_cons_of_neg (by simpa using h), List.find?_cons_of_neg (by simpa using h)]
      exact ih
theorem zeroI (w : World) : (zeroValue 3).run Tryz.prog w = .ok (.int .i64 0) w := by kernel_rfl
theorem loop_miss {W : List Wd} {sub : Sub} {ops : Ops} {n : Nat} {a : Int} {B : Bs} (h : opAt W ops B.p = none) : loopP W sub ops (n + 1) a B = (a, B) := by
  unfold loopP
  rw [h]
theorem loop_hit {W : List Wd} {sub : Sub} {ops : Ops} {n : Nat} {a op : Int} {B : Bs} (h : opAt W ops B.p = some op) : loopP W sub ops (n + 1) a B = loopP W sub ops n (pairP sub op a B).1 (pairP sub op a B).2 := by
  conv => lhs; unfold loopP
  rw [h]
/-- how many words are left -/
def lenOf : Option Value → Nat
  | some (.slice _ n _) => n
  | _ => 0
theorem Br.left {w : World} {g h : Nat} {W : List Wd} {b : Nat} {B : Bs} (x : Br w g h W b B) : B.p.at_ + lenOf (w.cell? ⟨g, 0, none⟩) = W.length := by
  obtain ⟨a, n, c, y⟩ := x.pr
  have e := y.blk.cell 0
  rw [show w.cell? ⟨g, 0, none⟩ = some (.slice (some ⟨b, a, none⟩) n c) from e]
  exact y.hn
set_option maxRecDepth 100000 in
set_option maxHeartbeats 4000000 in
theorem pairs_ (fs : Nat) (W : List Wd) (k f : Nat) (ops : Ops) (hs : RuleB fs W k f) (hent : ∀ args w, (callFunc fs args).run Tryz.prog w = .ok (.enter fs args) w) {w : World} {g h b m : Nat} {B : Bs} (x : Br w g h W b B) (hM : MapAt w m (opsM ops)) (hmg : m ≠ g) (hmh : m ≠ h) (hf : (W.length - B.p.at_) * 9 + (9 - k) ≤ f) :
    Calls Tryz.prog 57 #[.pointer (some ⟨h, 0, none⟩), .func (.func fs) #[.pointer (some ⟨h, 0, none⟩)] #[], .map (some m)] w fun e w' => e = .returned (.int .i64 (pairsP W (pr W f k) ops B).1) ∧ Br w' g h W b (pairsP W (pr W f k) ops B).2 ∧ Fr g h w w' := by
  have HS := Lib.hid hs
  have hW := x.pr.wok
  have hlt := x.pr.lt
  have hwl := x.pr.wl
  have HO := Lib.hid (on_pr hW f k)
  obtain ⟨R, hR⟩ : ∃ R, pairsP W (pr W f k) ops B = R := ⟨_, rfl⟩
  have HR := (show pairsP W (pr W f k) ops B = match pr W f k B with | (a, q) => loopP W (pr W f k) ops W.length a q from rfl).symm.trans hR
  rw [hR]
  have hc := HS.out w g h b B x hf
  have ho := HO.out B hlt
  obtain ⟨⟨a0, B0⟩, hq⟩ : ∃ X, pr W f k B = X := ⟨_, rfl⟩
  rw [hq] at hc HR ho
  simp only at hc HR ho
  have HC := Lib.hid hc
  have HRR := Lib.hid HR
  have hol := ho.le
  have HM := Lib.hid hM
  have HWK := Lib.hid hW
  clear hc hq HR hR ho x hM hs hW
  go_enter Tryz.func57, Tryz.ntmps57
  go_wp2_with fail
  refine (HC.out).mono ?_
  rintro e w2 ⟨rfl, h2, hf2⟩
  have HM2 := Lib.hid (mapfr HM.out hf2 hmg hmh)
  have H2 := Lib.hid h2
  have HF2 := Lib.hid hf2
  clear h2 hf2
  go_wp2_with fail
  go_loopw [7] (fun a wr => ∃ (n : Nat) (x : Int) (Bk : Bs), a = .int .i64 x ∧ Hid (R = loopP W (pr W f k) ops n x Bk) ∧ B.p.at_ ≤ Bk.p.at_ ∧ W.length ≤ Bk.p.at_ + n ∧ Br wr g h W b Bk ∧ MapAt wr m (opsM ops) ∧ Fr g h w wr) (fun _ wr => lenOf (wr.cell? ⟨g, 0, none⟩))
  case atStart => exact ⟨W.length, a0, B0, rfl, Lib.hid HRR.out.symm, hol, Nat.le_add_left _ _, H2.out, HM2.out, HF2.out⟩
  case round =>
    obtain ⟨n, x0, B1, rfl, HL, hle, hn2, hB, hMk, hfr⟩ := hrel
    have hlt1 := hB.pr.lt
    have hleft := Lib.hid hB.left
    have c0 := hB.cell
    have c1 := hB.ecell
    obtain ⟨n, rfl⟩ : ∃ m, n = m + 1 := ⟨n - 1, by omega⟩
    have HB := Lib.hid hB
    have HMK := Lib.hid hMk
    have HF := Lib.hid hfr
    have HWD := Lib.hid (pword_ hB.pr)
    have HCU := Lib.hid (show cur W B1.p = if B1.p.err = 0 then wAt W B1.p else endW from rfl)
    obtain ⟨x, hx⟩ : ∃ x, cur W B1.p = x := ⟨_, rfl⟩
    have HOP := Lib.hid (show opAt W ops B1.p = if x.k = 1 ∨ x.k = 4 then (ops.find? (fun y => y.1 == x.s)).map (·.2) else none by rw [← hx]; rfl)
    have HX := Lib.hid hx
    clear hB hMk hfr hx
    by_cases he : B1.p.err = 0
    case neg =>
      have hd : (B1.p.err == 0) = false := by simpa using he
      have HOP := Lib.hid (show opAt W ops B1.p = none by
        have : x = endW := by rw [← HX.out, HCU.out, if_neg he]
        rw [HOP.out, this]; rfl)
      clear he
      obtain rfl : R = (x0, B1) := by rw [HL.out]; exact loop_miss HOP.out
      go_wp2
      go_ret
      exact ⟨rfl, HB.out, HF.out⟩
    have hd : (B1.p.err == 0) = true := by simpa using he
    have fe2 := wfield2
    have fe0 := wfield0
    clear he
    go_wp2_with fail
    refine (HWD.out).mono ?_
    rintro e w3 ⟨rfl, hb3⟩
    rw [HX.out]
    unfold wordV
    have HB3 := Lib.hid (HB.out.ext hb3)
    have HMK3 := Lib.hid (HMK.out.ext hb3)
    have HF3 := Lib.hid (HF.out.tr (Fr.of_below hb3))
    have HWD3 := Lib.hid (pword_ HB3.out.pr)
    clear c0 c1 hb3
    have c0 := HB3.out.cell
    have HLK := Lib.hid (ops_look x.s ops)
    obtain ⟨fo, hfo⟩ : ∃ fo, ops.find? (fun y => y.1 == x.s) = fo := ⟨_, rfl⟩
    replace HLK := HLK.out
    replace HOP := HOP.out
    rw [hfo] at HLK HOP
    replace HLK := Lib.hid HLK
    replace HOP := Lib.hid HOP
    clear hfo
    cases fo with
    | none =>
      replace HOP := Lib.hid (show opAt W ops B1.p = none by rw [HOP.out]; split <;> rfl)
      go_wp2_with (at_lookup; refine wpList_look_lit rfl _ _ 105 true rfl 9 3 Tryz.underlying105 Tryz.underlying9 (.int .i64 0) zeroI m (opsM ops) rfl HMK3.out x.s _ rfl rfl ?_; rw [HLK.out])
      refine (HWD3.out).mono ?_
      rintro e w4 ⟨rfl, hb4⟩
      rw [HX.out]
      unfold wordV
      have HB := Lib.hid (HB3.out.ext hb4)
      have HF := Lib.hid (HF3.out.tr (Fr.of_below hb4))
      clear c0 hb4
      obtain rfl : R = (x0, B1) := by rw [HL.out]; exact loop_miss HOP.out
      go_wp2
      go_ret
      exact ⟨rfl, HB.out, HF.out⟩
    | some y =>
      obtain ⟨ys, op⟩ := y
      go_wp2_with (at_lookup; refine wpList_look_lit rfl _ _ 105 true rfl 9 3 Tryz.underlying105 Tryz.underlying9 (.int .i64 0) zeroI m (opsM ops) rfl HMK3.out x.s _ rfl rfl ?_; rw [HLK.out])
      refine (HWD3.out).mono ?_
      rintro e w4 ⟨rfl, hb4⟩
      rw [HX.out]
      unfold wordV
      have HB := Lib.hid (HB3.out.ext hb4)
      have HMK4 := Lib.hid (HMK3.out.ext hb4)
      have HF := Lib.hid (HF3.out.tr (Fr.of_below hb4))
      clear c0 hb4
      have c0 := HB.out.cell
      by_cases hk : x.k = 1 ∨ x.k = 4
      case neg =>
        have k1 : (x.k != 1) = true := by simp; omega
        have k4 : (x.k != 4) = true := by simp; omega
        replace HOP := Lib.hid (show opAt W ops B1.p = none by rw [HOP.out, if_neg hk])
        clear hk
        obtain rfl : R = (x0, B1) := by rw [HL.out]; exact loop_miss HOP.out
        go_wp2
        go_ret
        exact ⟨rfl, HB.out, HF.out⟩
      have hcs : ((x.k != 1) = false) ∨ ((x.k != 1) = true ∧ (x.k != 4) = false) := by
        rcases hk with h | h
        · exact .inl (by simp [h])
        · exact .inr (by simp [h])
      replace HOP := Lib.hid (show opAt W ops B1.p = some op by rw [HOP.out, if_pos hk]; rfl)
      have hx0 : (cur W B1.p).k ≠ 0 := by rw [HX.out]; omega
      have hnx : nextP W B1.p = stepP B1.p := by unfold nextP; rw [if_neg hx0]
      have HNX := Lib.hid (pnext_ HB.out.pr)
      replace HNX := HNX.out
      rw [hnx] at HNX
      replace HNX := Lib.hid HNX
      have hsl := stepP_lt HWK.out hx0
      have hlp := HL.out
      rw [loop_hit HOP.out] at hlp
      have hpp := (show pairP (pr W f k) op x0 B1 = match pr W f k (stepB B1) with | (c, q) => putP (nd2 op x0 c) q from rfl)
      have hons := HO.out (stepB B1) hsl
      have hcn := fun w' (y : Br w' g h W b (stepB B1)) => HS.out w' g h b (stepB B1) y (by show (W.length - (B1.p.at_ + 1)) * 9 + (9 - k) ≤ f; omega)
      obtain ⟨⟨c, q⟩, hq⟩ : ∃ X, pr W f k (stepB B1) = X := ⟨_, rfl⟩
      rw [hq] at hpp hons hcn
      simp only at hpp hons hcn
      rw [hpp] at hlp
      have hpt := on_put hons.lt (nd2 op x0 c)
      have hol1 : B1.p.at_ + 1 ≤ q.p.at_ := hons.le
      have HPT := Lib.hid (fun w' (y : Br w' g h W b q) => put_ (nd2 op x0 c) y)
      obtain ⟨⟨x5, B5⟩, hq5⟩ : ∃ X, putP (nd2 op x0 c) q = X := ⟨_, rfl⟩
      replace HPT := HPT.out
      rw [hq5] at hlp hpt HPT
      simp only at hlp hpt HPT
      have hle5 := hpt.le
      have hlt5 := hpt.lt
      have HL5 := Lib.hid hlp
      replace HPT := Lib.hid HPT
      have HCN := Lib.hid hcn
      clear hlp hq5 hpt hq hpp hons hcn hsl hnx hx0 hk
      rcases hcs with k1 | ⟨k1, k4⟩
      all_goals
        go_wp2_with fail
        refine (HNX.out).mono ?_
        rintro e w5 ⟨rfl, h5, hg5⟩
        have HB5 := Lib.hid (HB.out.parser h5 hg5)
        have HMK5 := Lib.hid (mapfr HMK4.out (Fr.of_g (h := h) hg5) hmg hmh)
        have HF5 := Lib.hid (HF.out.tr (Fr.of_g hg5))
        clear h5 hg5 c0
        go_wp2_with fail
        refine (HCN.out w5 HB5.out).mono ?_
        rintro e w6 ⟨rfl, h6, hf6⟩
        have HMK6 := Lib.hid (mapfr HMK5.out hf6 hmg hmh)
        have HF6 := Lib.hid (HF5.out.tr hf6)
        have HP6 := Lib.hid (HPT.out w6 h6)
        clear h6 hf6
        go_wp2_with fail
        refine (HP6.out).mono ?_
        rintro e w7 ⟨rfl, h7, hf7⟩
        have HMK7 := Lib.hid (mapfr HMK6.out hf7 hmg hmh)
        have HF7 := Lib.hid (HF6.out.tr hf7)
        have H7 := Lib.hid h7
        have HLF := Lib.hid h7.left
        clear h7 hf7
        go_wp2
        go_roundw
        case rel => exact ⟨n, x5, B5, rfl, HL5, by omega, by omega, H7.out, HMK7.out, HF7.out⟩
        case measure =>
          have e1 := HLF.out
          have e2 := hleft.out
          omega
end Go.Proofs.YtfnceamkephpjaaGreat.pg
