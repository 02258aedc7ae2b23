/- The program's parser: compare. Printed by gen14.py. -/
import Derived.Test.YtfnceamkephpjaaGreatP13
namespace Go.Proofs.YtfnceamkephpjaaGreat.pg
open Go.ChangeShapes Go.WideShapes Go.ChangeAt Go.RowKit Go.Proofs.YtfnceamkephpjaaGreat.lib Go.Proofs.YtfnceamkephpjaaGreat.lx
set_option linter.unusedVariables false

set_option maxRecDepth 100000 in
set_option maxHeartbeats 4000000 in
theorem bcompare_ (W : List Wd) (f : Nat) (hs : RuleB 82 W 4 f) : RuleB 75 W 3 (f + 1) := by
  intro w g h b B x hn
  have HS := Lib.hid hs
  have hlt := x.pr.lt
  have hW := Lib.hid x.pr.wok
  obtain ⟨R, hR⟩ : ∃ R, pr W (f + 1) 3 B = R := ⟨_, rfl⟩
  have hr := (show R = match pr W f 4 B with
    | (a, q) => if okIs W [105, 115] q.p = true then putP (nd2 5 a 0) ⟨mustP W [110, 117, 108, 108] (stepP q.p), q.e⟩
      else match opS W cmps q.p with
      | some op => pairP (pr W f 4) op a q
      | none => (a, q) by
    rw [← hR]
    conv => lhs; unfold pr cmpP
    rfl)
  rw [hR]
  have hc := hs w g h b B x (by omega)
  have ho := on_pr hW.out f 4 B hlt
  obtain ⟨⟨a, q⟩, hq⟩ : ∃ X, pr W f 4 B = X := ⟨_, rfl⟩
  rw [hq] at hr hc ho
  simp only at hr hc ho
  have hle := ho.le
  have hlt2 := ho.lt
  have HR := Lib.hid hr
  have HC := Lib.hid hc
  clear hs x hR hq hr hc ho
  go_enter Tryz.func75, Tryz.ntmps75
  go_wp2_with fail
  refine (HC.out).mono ?_
  rintro e w2 ⟨rfl, h2, hf2⟩
  have c0 := h2.cell
  have X2 := Lib.hid h2
  have HF2 := Lib.hid hf2
  have HI := Lib.hid (pis_ [105, 115] h2.pr)
  replace HI := HI.out
  unfold isP at HI
  obtain ⟨ok, hok⟩ : ∃ ok, okIs W [105, 115] q.p = ok := ⟨_, rfl⟩
  have HK := Lib.hid (fun (e : ok = true) => (okIs_k (W := W) (s := [105, 115]) (p := q.p) (by rw [hok, e])))
  replace HR := HR.out
  rw [hok] at HI HR
  replace HI := Lib.hid HI
  replace HR := Lib.hid HR
  clear h2 hf2 hok
  go_wp2_with fail
  refine (HI.out).mono ?_
  rintro e w3 ⟨rfl, h3, hg3⟩
  have X3 := Lib.hid (X2.out.parser h3 hg3)
  have HF3 := Lib.hid (HF2.out.tr (Fr.of_g hg3))
  clear h3 hg3 c0
  have c0 := X3.out.cell
  cases ok with
  | true =>
    have hr := HR.out
    rw [if_pos rfl] at hr
    have HPT := Lib.hid (fun w' (y : Br w' g h W b ⟨mustP W [110, 117, 108, 108] (stepP q.p), q.e⟩) => put_ (nd2 5 a 0) y)
    replace HPT := HPT.out
    rw [← hr] at HPT
    replace HPT := Lib.hid HPT
    clear hr
    have hk0 := HK.out (by first | rfl | trivial)
    have X4 := Lib.hid (show Br w3 g h W b ⟨stepP q.p, q.e⟩ from X3.out)
    have hgl := X4.out.pr.gl
    clear hk0
    go_wp2_with fail
    obtain ⟨W5, hW_, hb5, BS⟩ : ∃ W_, W_ = (w3.alloc (.cells #[.string ⟨#[110, 117, 108, 108]⟩] 9)) ∧ Below w3.heap.size w3 W_ ∧ Blk W_ (w3.heap.size) 9 #[.string ⟨#[110, 117, 108, 108]⟩] :=
      ⟨_, rfl, ((Below.refl _ _).alloc (Nat.le_refl _) _), (blk_new_at w3 (w3.heap.size) _ _ (by simp))⟩
    rw [← hW_]
    clear hW_
    have X5 := Lib.hid (X4.out.ext hb5)
    have HF5 := Lib.hid (HF3.out.tr (Fr.of_below hb5))
    have HM := Lib.hid (pmust_ [[110, 117, 108, 108]] (some ⟨w3.heap.size, 0, none⟩) 1 X5.out.pr (Row.of_blk BS (Nat.zero_le _) 1 1 (Nat.le_refl _)) (by intro b' off e; injection e with e; injection e with e _; rw [← e]; simp; omega) (by decide))
    clear hb5 BS c0
    refine (HM.out).mono ?_
    rintro e w6 ⟨rfl, h6, hg6⟩
    have X6 := Lib.hid (show Br w6 g h W b ⟨mustP W [110, 117, 108, 108] (stepP q.p), q.e⟩ from X5.out.parser h6 hg6)
    have HF6 := Lib.hid (HF5.out.tr (Fr.of_g hg6))
    have HP6 := Lib.hid (HPT.out w6 X6.out)
    clear h6 hg6
    go_wp2_with fail
    refine (HP6.out).mono ?_
    rintro e w7 ⟨rfl, h7, hf7⟩
    have H7 := Lib.hid h7
    have HF7 := Lib.hid (HF6.out.tr hf7)
    clear h7 hf7
    go_wp2
    go_ret
    exact ⟨rfl, H7.out, HF7.out⟩
  | false =>
    replace X3 := Lib.hid (show Br w3 g h W b q from X3.out)
    have hr := HR.out
    rw [if_neg (by simp)] at hr
    replace HR := Lib.hid hr
    have hgl := X3.out.pr.gl
    have hhl := X3.out.hl
    have hmm := @run_makeMap Tryz.prog
    clear hr
    go_wp2_with (first | ((with_reducible show wpList _ _ _ (Oper.mk _ (Op.insert _ _ _ _) _ _ _ _ :: _) _ _); refine wpList_put_lit rfl _ _ _ 105 (.inl rfl) 9 3 Tryz.underlying105 Tryz.underlying9 w3.heap.size [] rfl (MapAt.new _) [61] (.int .i64 8) rfl rfl (by rfl) ?_; intro v1 hM1 hg1) | ((with_reducible show wpList _ _ _ (Oper.mk _ (Op.insert _ _ _ _) _ _ _ _ :: _) _ _); refine wpList_put_lit rfl _ _ _ 105 (.inl rfl) 9 3 Tryz.underlying105 Tryz.underlying9 w3.heap.size [([61], Value.int .i64 8)] rfl hM1 [60, 62] (.int .i64 9) rfl rfl (by rfl) ?_; intro v2 hM2 hg2) | ((with_reducible show wpList _ _ _ (Oper.mk _ (Op.insert _ _ _ _) _ _ _ _ :: _) _ _); refine wpList_put_lit rfl _ _ _ 105 (.inl rfl) 9 3 Tryz.underlying105 Tryz.underlying9 w3.heap.size [([61], Value.int .i64 8), ([60, 62], Value.int .i64 9)] rfl hM2 [60] (.int .i64 10) rfl rfl (by rfl) ?_; intro v3 hM3 hg3) | ((with_reducible show wpList _ _ _ (Oper.mk _ (Op.insert _ _ _ _) _ _ _ _ :: _) _ _); refine wpList_put_lit rfl _ _ _ 105 (.inl rfl) 9 3 Tryz.underlying105 Tryz.underlying9 w3.heap.size [([61], Value.int .i64 8), ([60, 62], Value.int .i64 9), ([60], Value.int .i64 10)] rfl hM3 [60, 61] (.int .i64 11) rfl rfl (by rfl) ?_; intro v4 hM4 hg4) | ((with_reducible show wpList _ _ _ (Oper.mk _ (Op.insert _ _ _ _) _ _ _ _ :: _) _ _); refine wpList_put_lit rfl _ _ _ 105 (.inl rfl) 9 3 Tryz.underlying105 Tryz.underlying9 w3.heap.size [([61], Value.int .i64 8), ([60, 62], Value.int .i64 9), ([60], Value.int .i64 10), ([60, 61], Value.int .i64 11)] rfl hM4 [62] (.int .i64 12) rfl rfl (by rfl) ?_; intro v5 hM5 hg5) | ((with_reducible show wpList _ _ _ (Oper.mk _ (Op.insert _ _ _ _) _ _ _ _ :: _) _ _); refine wpList_put_lit rfl _ _ _ 105 (.inl rfl) 9 3 Tryz.underlying105 Tryz.underlying9 w3.heap.size [([61], Value.int .i64 8), ([60, 62], Value.int .i64 9), ([60], Value.int .i64 10), ([60, 61], Value.int .i64 11), ([62], Value.int .i64 12)] rfl hM5 [62, 61] (.int .i64 13) rfl rfl (by rfl) ?_; intro v6 hM6 hg6; have hbw : Below w3.heap.size w3 v6 := ((((((((Below.refl w3.heap.size w3).alloc (Nat.le_refl _) (.map #[] 0)).grown hg1 (by have := MapAt.new w3; have := this.lt; omega) (by intro k hk; injection hk with hk; omega)).grown hg2 (by have := hM1; have := this.lt; omega) (by intro k hk; injection hk with hk; omega)).grown hg3 (by have := hM2; have := this.lt; omega) (by intro k hk; injection hk with hk; omega)).grown hg4 (by have := hM3; have := this.lt; omega) (by intro k hk; injection hk with hk; omega)).grown hg5 (by have := hM4; have := this.lt; omega) (by intro k hk; injection hk with hk; omega)).grown hg6 (by have := hM5; have := this.lt; omega) (by intro k hk; injection hk with hk; omega)); have hM : MapAt v6 w3.heap.size (opsM cmps) := hM6; clear hM1 hM2 hM3 hM4 hM5 hM6 hg1 hg2 hg3 hg4 hg5 hg6 c0; have c0 := (X3.out.ext hbw).cell))
    have X6 := Lib.hid (X3.out.ext hbw)
    have HF6 := Lib.hid (HF3.out.tr (Fr.of_below hbw))
    have HWD := Lib.hid (pword_ X6.out.pr)
    have hmg : w3.heap.size ≠ g := by omega
    have hmh : w3.heap.size ≠ h := by omega
    obtain ⟨m, hm⟩ : ∃ m, w3.heap.size = m := ⟨_, rfl⟩
    rw [hm] at hM hmg hmh ⊢
    have HM6 := Lib.hid hM
    obtain ⟨x, hx⟩ : ∃ x, cur W q.p = x := ⟨_, rfl⟩
    have HOP := Lib.hid (show opS W cmps q.p = if x.k = 4 then (cmps.find? (fun y => y.1 == x.s)).map (·.2) else none by rw [← hx]; rfl)
    have HX := Lib.hid hx
    clear hM hbw hmm hm hx
    refine (HWD.out).mono ?_
    rintro e w7 ⟨rfl, hb7⟩
    rw [HX.out]
    unfold wordV
    go_upto_region 7 with fail
    obtain ⟨W8, hW_, hb8, BX⟩ : ∃ W_, W_ = (w7.alloc (.cells #[.int .i64 x.k, .int .i64 x.n, .string ⟨x.s.toArray⟩] 57)) ∧ Below w7.heap.size w7 W_ ∧ Blk W_ (w7.heap.size) 57 #[.int .i64 x.k, .int .i64 x.n, .string ⟨x.s.toArray⟩] :=
      ⟨_, rfl, ((Below.refl _ _).alloc (Nat.le_refl _) _), (blk_new_at w7 (w7.heap.size) _ _ (by simp))⟩
    rw [← hW_]
    clear hW_
    have HB := Lib.hid ((X6.out.ext hb7).ext hb8)
    have HF := Lib.hid ((HF6.out.tr (Fr.of_below hb7)).tr (Fr.of_below hb8))
    have HM8 := Lib.hid ((HM6.out.ext hb7).ext hb8)
    have qx := BX.three (Below.refl _ _)
    clear c0
    have c0 := HB.out.cell
    have HLK := Lib.hid (ops_look x.s cmps)
    obtain ⟨fo, hfo⟩ : ∃ fo, cmps.find? (fun y => y.1 == x.s) = fo := ⟨_, rfl⟩
    replace HLK := HLK.out
    replace HOP := HOP.out
    rw [hfo] at HLK HOP
    replace HLK := Lib.hid HLK
    replace HOP := Lib.hid HOP
    have HBX := Lib.hid BX
    clear hfo hb7 hb8 BX X3 X6 HF6
    cases fo with
    | none =>
      replace HOP := Lib.hid (show opS W cmps q.p = none by rw [HOP.out]; split <;> rfl)
      obtain rfl : (a, q) = R := by rw [HR.out, HOP.out]
      go_wp2_with (at_lookup; refine wpList_look_lit rfl _ _ 105 true rfl 9 3 Tryz.underlying105 Tryz.underlying9 (.int .i64 0) zeroI m (opsM cmps) rfl HM8.out x.s _ rfl rfl ?_; rw [HLK.out])
      go_ret
      exact ⟨rfl, HB.out, HF.out⟩
    | some y =>
      obtain ⟨ys, op⟩ := y
      by_cases hk : x.k = 4
      case neg =>
        have k4 : (x.k != 4) = true := by simpa using hk
        replace HOP := Lib.hid (show opS W cmps q.p = none by rw [HOP.out, if_neg hk])
        obtain rfl : (a, q) = R := by rw [HR.out, HOP.out]
        clear hk
        go_wp2_with (at_lookup; refine wpList_look_lit rfl _ _ 105 true rfl 9 3 Tryz.underlying105 Tryz.underlying9 (.int .i64 0) zeroI m (opsM cmps) rfl HM8.out x.s _ rfl rfl ?_; rw [HLK.out])
        go_ret
        exact ⟨rfl, HB.out, HF.out⟩
      have k4 : (x.k != 4) = false := by simpa using hk
      replace HOP := Lib.hid (show opS W cmps q.p = some op by rw [HOP.out, if_pos hk]; rfl)
      have hx0 : (cur W q.p).k ≠ 0 := by rw [HX.out]; omega
      have hnx : nextP W q.p = stepP q.p := by unfold nextP; rw [if_neg hx0]
      have HNX := Lib.hid (pnext_ HB.out.pr)
      replace HNX := HNX.out
      rw [hnx] at HNX
      replace HNX := Lib.hid HNX
      have hsl := stepP_lt hW.out hx0
      have hlp := HR.out
      rw [HOP.out] at hlp
      simp only at hlp
      have hpp := (show pairP (pr W f 4) op a q = match pr W f 4 (stepB q) with | (c, q2) => putP (nd2 op a c) q2 from rfl)
      have hcn := fun w' (y : Br w' g h W b (stepB q)) => HS.out w' g h b (stepB q) y (by show (W.length - (q.p.at_ + 1)) * 9 + (9 - 4) ≤ f; have : q.p.at_ + 1 < W.length := hsl; omega)
      obtain ⟨⟨c, q2⟩, hq⟩ : ∃ X, pr W f 4 (stepB q) = X := ⟨_, rfl⟩
      rw [hq] at hpp hcn
      simp only at hpp hcn
      rw [hpp] at hlp
      have HPT := Lib.hid (fun w' (y : Br w' g h W b q2) => put_ (nd2 op a c) y)
      replace HPT := HPT.out
      rw [← hlp] at HPT
      replace HPT := Lib.hid HPT
      have HCN := Lib.hid hcn
      clear hlp hq hpp hcn hsl hnx hx0 hk
      go_wp2_with (at_lookup; refine wpList_look_lit rfl _ _ 105 true rfl 9 3 Tryz.underlying105 Tryz.underlying9 (.int .i64 0) zeroI m (opsM cmps) rfl HM8.out x.s _ rfl rfl ?_; rw [HLK.out])
      refine (HNX.out).mono ?_
      rintro e w9 ⟨rfl, h9, hg9⟩
      have HB9 := Lib.hid (HB.out.parser h9 hg9)
      have HF9 := Lib.hid (HF.out.tr (Fr.of_g hg9))
      clear h9 hg9 c0 qx
      go_wp2_with fail
      refine (HCN.out w9 HB9.out).mono ?_
      rintro e w10 ⟨rfl, h10, hf10⟩
      have HF10 := Lib.hid (HF9.out.tr hf10)
      have HP10 := Lib.hid (HPT.out w10 h10)
      clear h10 hf10
      go_wp2_with fail
      refine (HP10.out).mono ?_
      rintro e w11 ⟨rfl, h11, hf11⟩
      have HF11 := Lib.hid (HF10.out.tr hf11)
      have H11 := Lib.hid h11
      clear h11 hf11
      go_wp2
      go_ret
      exact ⟨rfl, H11.out, HF11.out⟩
end Go.Proofs.YtfnceamkephpjaaGreat.pg
