/- The walk of EvalKinds. -/
import Derived.Test.YtfgmlgflfagdjaaV2
import Derived.Test.YtfgmlgflfagdjaaV5
import Derived.Test.YtfgmlgflfagdjaaMV4
import Derived.Test.YtfgmlgflfagdjaaLongWalk
namespace Go.Proofs.Ytfgmlgflfagdjaa.ps
open Go.ChangeShapes Go.WideShapes Go.ChangeAt Go.RowKit Go.Proofs.Ytfgmlgflfagdjaa.lib Go.Proofs.Ytfgmlgflfagdjaa.val Go.Proofs.Ytfgmlgflfagdjaa.lx Go.Proofs.Ytfgmlgflfagdjaa.ev
set_option linter.unusedVariables false

theorem fewr (v : V) (b : Bool) (w : World) (h : Raw v) (hb : decide (v.s.size ≤ 80) = b) :
    Calls Try.prog 14 #[.agg #[.int .i64 v.k, .int .i64 v.n, .string v.s]] w fun e w' => e = .returned (.bool b) ∧ Below w.heap.size w w' := by
  subst hb; exact few v.k v.n v.s w h.2.2
theorem rcheckr (v : V) (w : World) (h : GoodV v) :
    Calls Try.prog 25 #[.agg #[.int .i64 v.k, .int .i64 v.n, .string v.s]] w fun e w' => e = .returned (.int .i64 0) ∧ Below w.heap.size w w' := by
  have := rcheck_ v.k v.n v.s w (good_s h)
  rw [h.chk_] at this
  exact this
theorem nds_own {w : World} {base n c : Nat} {A : Option Addr} {es : List Nd} (h : w.ownsRow base 36 7 (.slice A n c) n (flatK encNd es)) (hl : n = es.length) : Nds w w.heap.size A es := by
  intro hn
  exact Nds.of_own (n := n) h (by omega) hn
/-- an expression over the law's columns -/
theorem kindC (es : List Nd) (k er : Int) (A : Option Addr) (N c B b : Nat) (w0 w : World) (hp : KindV colF colG es = (k, er)) (hN : es.length = N) (hB : B ≤ w0.heap.size) (hw : Below B w0 w) (hr : Nds w0 B A es) (hcl : Cls w b colsL) (hn : ∀ n ∈ es, NdOK n) :
    Calls Try.prog 20 #[.slice A N c, .slice (some ⟨b, 0, none⟩) 4 4] w fun e w' => e = .returned (two (k, er)) ∧ Below w.heap.size w w' := by
  rw [← hp]
  have hr' : Nds w w.heap.size A es := fun h => by
    obtain ⟨g, off, e, hlt, hc⟩ := (hr.below hw) h
    exact ⟨g, off, e, Nat.lt_of_lt_of_le hlt (Nat.le_trans hB hw.size), hc⟩
  exact Kind es A N c w.heap.size _ colF colG w hN (Nat.le_refl _) hr' (fun n h => colOK w b n hcl (Nat.le_trans (hn n h).s (by omega))) (fun n h => Nat.le_trans (hn n h).vs (by decide))
theorem valueC (es : List Nd) (r : Value) (vs : List V) (A Ar : Option Addr) (N c cr B b : Nat) (w0 w : World) (hp : EvR colF colG (rowF vs) es = r) (hN : es.length = N) (hB : B ≤ w0.heap.size) (hw : Below B w0 w) (hr : Nds w0 B A es) (hcl : Cls w b colsL)
    (hvl : vs.length = 4) (hrv : ∀ (i : Nat) v, vs[i]? = some v → RowV i v) (hv : Vals w w.heap.size Ar vs) (hn : ∀ n ∈ es, NdOK n) :
    Calls Try.prog 23 #[.slice A N c, .slice (some ⟨b, 0, none⟩) 4 4, .slice Ar 4 cr] w fun e w' => e = .returned r ∧ Below w.heap.size w w' := by
  have hr' : Nds w w.heap.size A es := fun h => by
    obtain ⟨g, off, e, hlt, hc⟩ := (hr.below hw) h
    exact ⟨g, off, e, Nat.lt_of_lt_of_le hlt (Nat.le_trans hB hw.size), hc⟩
  exact ValueR es r A N c w.heap.size _ _ colF colG (rowF vs) w hp hN (Nat.le_refl _) hr' (fun n h => colOK w b n hcl (Nat.le_trans (hn n h).s (by omega))) (fun n h => rowOK n hvl hrv hv) (fun n h => ⟨Nat.le_trans (hn n h).vs (by decide), (hn n h).vn⟩)
set_option maxRecDepth 1000000 in
set_option maxHeartbeats 8000000 in
theorem kinds_walk (A0 : Option Addr) (n0 c0 : Nat) (zs : List Int) (A : Option Addr) (n c : Nat) (l : List V) (null : Int) (w : World)
    (hz : Ints w A0 zs) (hzn : zs.length = n0) (hzm : n0 ≤ maxLen) (hzb : ∀ z ∈ zs, -9223372036854775808 ≤ z ∧ z ≤ 9223372036854775807)
    (hl : l.length = n) (hm : n ≤ maxLen) (hraw : ∀ x ∈ l, Raw x) (hv : Vals w w.heap.size A l) (hnull : ok64 null) :
    Calls Try.prog 4 #[.slice A0 n0 c0, .slice A n c, .int .i64 null] w fun e w' => e = .returned (.bool true) ∧ Below w.heap.size w w' := by
  have HZ := Lib.hid (fun (W : World) (h : Below w.heap.size w W) => text18_ A0 n0 c0 zs W (hz.ext h) hzn hzm hzb)
  clear hz hzn hzm hzb
  have HL := Lib.hid hl
  have HRAW := Lib.hid hraw
  have HV := Lib.hid hv
  clear hl hraw hv
  unfold maxLen at hm
  by_cases hn6 : n ≤ 6
  case neg =>
    have hd : decide ((6 : Int) < (n : Int)) = true := by simp; omega
    have hd2 : decide (6 < n) = true := by simp; omega
    clear hn6
    go_enter Try.func4, Try.ntmps4
    go_wp2_with fail
    refine (known _).mono ?_
    rintro e w1 ⟨rfl, hb1⟩
    go_wp2
    go_ret
    exact ⟨rfl, hb1⟩
  have hd : decide ((6 : Int) < (n : Int)) = false := by simp; omega
  have hd2 : decide (6 < n) = false := by simp; omega
  go_enter Try.func4, Try.ntmps4
  go_wp2_with fail
  refine (known _).mono ?_
  rintro e w1 ⟨rfl, hb1⟩
  go_wp2_with fail
  go_loopw [7] (fun i wr => ∃ k : Nat, k ≤ n ∧ i = .int .i64 k ∧ Below w1.heap.size w1 wr) (fun i _ => n - (intOf i).toNat)
  case atStart => exact ⟨0, by omega, rfl, Below.refl _ _⟩
  case round =>
    obtain ⟨k, hkn, rfl, hb⟩ := hrel
    rcases Nat.lt_or_ge k n with hlt | hge
    · have hd : decide ((k : Int) < (n : Int)) = true := by simp; omega
      have hd3 : decide (k < n) = true := by simp; omega
      have hk2 : (k : Int) < (n : Int) := by omega
      obtain ⟨b, off, rfl, hlb, hcell⟩ := HV.out (by rw [HL.out]; omega)
      obtain ⟨y, hy⟩ := get_some HL.out hlt
      have HY := Lib.hid (HRAW.out y (List.mem_of_getElem? hy))
      have hbb : Below w.heap.size w wr := ev.bch0 hb1 hb
      have q0 := (hbb.cell (p := ⟨b, off + k * 3, none⟩) (by exact hlb)).trans (hcell k y hy).1
      have q1 := (hbb.cell (p := ⟨b, off + k * 3 + 1, none⟩) (by exact hlb)).trans (hcell k y hy).2.1
      have q2 := (hbb.cell (p := ⟨b, off + k * 3 + 2, none⟩) (by exact hlb)).trans (hcell k y hy).2.2
      obtain ⟨f, hf⟩ : ∃ f, decide (y.s.size ≤ 80) = f := ⟨_, rfl⟩
      have HF := Lib.hid hf
      clear hy hcell hf
      go_wp2_with fail
      refine (fewr y f _ HY.out HF.out).mono ?_
      rintro e w5 ⟨rfl, hb5⟩
      clear q0 q1 q2
      cases f with
      | false =>
        go_wp2
        go_ret
        exact ⟨rfl, ev.bch0 hbb hb5⟩
      | true =>
        go_wp2
        go_roundw
        case rel => exact ⟨k + 1, by omega, by go_num, ev.bch0 hb hb5⟩
        case measure => simp [intOf]; omega
    · have hd : decide ((k : Int) < (n : Int)) = false := by simp; omega
      have hd3 : decide (k < n) = false := by simp; omega
      have hbb : Below w.heap.size w wr := ev.bch0 hb1 hb
      go_wp2_with fail
      refine (HZ.out _ hbb).mono ?_
      rintro e w2 ⟨s, hs, rfl, hb2⟩
      obtain ⟨⟨x, es⟩, hR⟩ : ∃ R, exprL s.data.toList = R := ⟨_, rfl⟩
      have HX := Lib.hid (rexpr_ s s.data.toList ⟨rfl⟩ (by rw [Array.length_toList]; show s.size ≤ 100000; omega) w2)
      have HOK := Lib.hid (expr_ok s.data.toList)
      have HX := HX.out
      have HOK := HOK.out
      rw [hR] at HX HOK
      have HX := Lib.hid HX
      have HOK := Lib.hid HOK
      clear hR hs
      go_wp2_with fail
      refine (HX.out).mono ?_
      rintro e w3 ⟨A3, m, c3, rfl, rfl, hown, hb3⟩
      simp only at hown ⊢
      have hb3' : Below w.heap.size w w3 := ev.bch0 (ev.bch0 hbb hb2) hb3
      by_cases hx0 : x = 0
      case neg =>
        have hxd : (x != 0) = true := by simpa using hx0
        clear hx0
        go_wp2
        go_ret
        exact ⟨rfl, hb3'⟩
      subst hx0
      have HN := Lib.hid (nds_own hown rfl)
      clear hown
      obtain ⟨⟨k1, er⟩, hk⟩ : ∃ p, KindV colF colG es = p := ⟨_, rfl⟩
      have HK := Lib.hid hk
      clear hk
      go_wp2_with fail
      refine (cols_ _).mono ?_
      rintro e w4 ⟨g, rfl, hcl, hlo, hb4⟩
      go_wp2_with fail
      refine (kindC es k1 er A3 es.length c3 w3.heap.size g w3 w4 HK.out rfl (Nat.le_refl _) hb4 HN.out hcl HOK.out.2).mono ?_
      rintro e w5 ⟨rfl, hb5⟩
      unfold two
      have hb5' : Below w3.heap.size w3 w5 := ev.bch0 hb4 hb5
      clear hcl hb4 hb5 hlo
      go_wp2_with fail
      refine (cols_ _).mono ?_
      rintro e w6 ⟨g2, rfl, hcl, hlo, hb6⟩
      go_wp2_with fail
      have hb6' : Below w3.heap.size w3 w6 := ev.bch0 hb5' hb6
      have HV6 := HV.out.below (ev.bch0 hb3' hb6')
      refine (row_ l A n c null w6 HL.out (by omega) HRAW.out (fun h => by
        obtain ⟨b, off, e, hlt, hc⟩ := HV6 h
        exact ⟨b, off, e, Nat.lt_of_lt_of_le hlt (ev.bch0 hb3' hb6').size, hc⟩) hnull).mono ?_
      rintro e w7 ⟨Ar, cr, vs, rfl, hvl, hvv, hrv, hb7⟩
      obtain ⟨r, hr⟩ : ∃ r, EvR colF colG (rowF vs) es = r := ⟨_, rfl⟩
      have HR := Lib.hid hr
      have HVL := Lib.hid hvl
      have HRV := Lib.hid hrv
      clear hvl hrv hr HV6
      go_wp2_with fail
      have hb7' : Below w3.heap.size w3 w7 := ev.bch0 hb6' hb7
      refine (valueC es r vs A3 Ar es.length c3 cr w3.heap.size g2 w3 w7 HR.out rfl (Nat.le_refl _) hb7' HN.out (hcl.ext hb7) HVL.out HRV.out hvv HOK.out.2).mono ?_
      rintro e w8 ⟨rfl, hb8⟩
      have hb8' : Below w.heap.size w w8 := ev.bch0 hb3' (ev.bch0 hb7' hb8)
      clear hvv hcl
      have e1 := fun W => eqlS 0 0 ⟨#[]⟩ 0 0 ⟨#[]⟩ true (by decide) W
      by_cases he : er = 0
      case neg =>
        have hed : (er != 0) = true := by simpa using he
        have hee : (er == er) = true := by simp
        obtain rfl := (kinds_bad (Rv := rowF vs) HK.out he).symm.trans HR.out
        clear he
        go_wp2
        go_ret
        exact ⟨rfl, hb8'.alloc hb8'.size _⟩
      subst he
      rcases kinds_law (Rv := rowF vs) HK.out (fun m hm => ⟨fun h => row_of HVL.out HRV.out h, (HOK.out.2 m hm).vn, (HOK.out.2 m hm).vs⟩) with h | ⟨v, hof, h⟩
      · obtain rfl := h.symm.trans HR.out
        clear h
        go_wp2
        go_ret
        exact ⟨rfl, hb8'.alloc hb8'.size _⟩
      · obtain rfl := h.symm.trans HR.out
        clear h
        have HG := Lib.hid hof.1
        have hvk := hof.2
        clear hof
        obtain ⟨vk, vn, vt⟩ := v
        simp only at hvk ⊢
        have HC := Lib.hid (fun W => rcheckr ⟨vk, vn, vt⟩ W HG.out)
        rcases Classical.em (vk = 0) with h0 | h0
        · have h1 : (vk == 0) = true := by simpa using h0
          clear h0 hvk
          go_wp2_with fail
          refine (HC.out _).mono ?_
          rintro e w9 ⟨rfl, hb9⟩
          go_wp2
          go_ret
          exact ⟨rfl, ev.bch0 (hb8'.alloc hb8'.size _) hb9⟩
        · have h1 : (vk == 0) = false := by simpa using h0
          obtain rfl : vk = k1 := by omega
          have h2 : (vk == vk) = true := by simp
          clear h0 hvk
          go_wp2_with fail
          refine (HC.out _).mono ?_
          rintro e w9 ⟨rfl, hb9⟩
          go_wp2
          go_ret
          exact ⟨rfl, ev.bch0 (hb8'.alloc hb8'.size _) hb9⟩
end Go.Proofs.Ytfgmlgflfagdjaa.ps
