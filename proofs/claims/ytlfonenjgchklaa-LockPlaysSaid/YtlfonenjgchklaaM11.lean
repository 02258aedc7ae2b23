/- Contract: Victim. -/
import Derived.Test.YtlfonenjgchklaaM10
namespace Go.Proofs.Ytlfonenjgchklaa.lk
open Go.ChangeShapes Go.WideShapes Go.ChangeAt Go.RowKit Go.Proofs.Ytlfonenjgchklaa.lib
set_option linter.unusedVariables false

/-- who is to go -/
structure VicS (F : Int → List Int) (s v : Int) (is : Bool) : Prop where
  yes : is = true → Rch F s s ∧ (v = s ∨ Rch F s v ∧ Rch F v s) ∧ s ≤ v ∧ ∀ k, Rch F s k → Rch F k s → k ≤ v
  no : is = false → ¬ Rch F s s ∧ v = 0
theorem VicS.one {F : Int → List Int} {s v v' : Int} {is is' : Bool} (h : VicS F s v is) (h' : VicS F s v' is') : v = v' ∧ is = is' := by
  cases is <;> cases is'
  · exact ⟨by rw [(h.no rfl).2, (h'.no rfl).2], rfl⟩
  · exact absurd (h'.yes rfl).1 (h.no rfl).1
  · exact absurd (h.yes rfl).1 (h'.no rfl).1
  · have a := h.yes rfl
    have b := h'.yes rfl
    have h1 : v ≤ v' := by
      rcases a.2.1 with e | ⟨e1, e2⟩
      · rw [e]; exact b.2.2.1
      · exact b.2.2.2 v e1 e2
    have h2 : v' ≤ v := by
      rcases b.2.1 with e | ⟨e1, e2⟩
      · rw [e]; exact a.2.2.1
      · exact a.2.2.2 v' e1 e2
    exact ⟨by omega, rfl⟩
theorem edges_mem {ws hs : List Hd} {x y : Int} (h : y ∈ edges ws hs x) : y ∈ hs.map Hd.s := by
  unfold edges at h
  rw [List.mem_flatMap] at h
  obtain ⟨o, _, h⟩ := h
  rw [List.mem_map] at h ⊢
  obtain ⟨p, hp, e⟩ := h
  exact ⟨p, (List.mem_filter.1 hp).1, e⟩
theorem rch_bd {F : Int → List Int} {U : List Int} {s k : Int} (hF : ∀ x, ∀ y ∈ F x, y ∈ U ∧ bd y) (h : Rch F s k) : bd k := by
  cases h with
  | one h => exact (hF _ _ h).2
  | more _ h => exact (hF _ _ h).2
def VicP (F : Int → List Int) (s : Int) (w : World) (e : Ending) (w' : World) : Prop := ∃ v is, e = .returned (.tuple #[.int .i64 v, .bool is]) ∧ VicS F s v is ∧ Below w.heap.size w w'
theorem RgR.ext {w w' : World} {g base0 : Nat} {F : Int → List Int} (h : RgR w g base0 F) (hb : Below w.heap.size w w') : RgR w' g base0 F := by
  obtain ⟨b, base, m, z, h1, h2, h3, h4, h5, h6, h7⟩ := h
  exact ⟨b, base, m, z, h1.ext hb, h2, h3, h4, Nat.le_trans h5 hb.size, h6, h7.ext hb⟩
theorem left_new {left : Lit → Bool} {k x : Int} (h : (left (.int .i64 k) && !(Lit.int .i64 k).sameKey (.int .i64 x)) = false) : left (.int .i64 k) = false ∨ k = x := by
  cases hl : left (.int .i64 k) with
  | false => exact .inl rfl
  | true =>
    rw [hl] at h
    simp at h
    have := WideAt.sameKey_eq h
    injection this with _ h2
    exact .inr h2
/-- a bool that the walk's simp does not split -/
structure Bx where
  b : Bool
set_option maxHeartbeats 4000000 in
set_option maxRecDepth 100000 in
theorem Victim_ (L : Lk) (s : Int) (v : Value) (w : World) (hL : LkR w v L) (h1 : L.hs.length ≤ 1000) (h2 : L.ws.length ≤ 1000) (hbd : ∀ o ∈ L.hs, bd o.s) (hbd' : ∀ o ∈ L.ws, bd o.s) (hs : bd s) :
    Calls Try.prog 14 #[v, .int .i64 s] w (VicP (edges L.ws L.hs) s w) := by
  have hrg := fun W V hv => rings_ L V W hv h1 h2 hbd hbd'
  have hF : ∀ x, ∀ y ∈ edges L.ws L.hs x, y ∈ L.hs.map Hd.s ∧ bd y := fun x y hy => ⟨edges_mem hy, by
    obtain ⟨o, ho, e⟩ := List.mem_map.1 (edges_mem hy)
    rw [← e]; exact hbd o ho⟩
  have hUl : (L.hs.map Hd.s).length ≤ 1000 := by simpa using h1
  obtain ⟨A, n, c, A', n', c', rfl, e1, r1, e2, r2⟩ := hL
  have hL : ∀ W, Below w.heap.size w W → LkR W (.agg #[.slice A n c, .slice A' n' c']) L := fun W hb => ⟨A, n, c, A', n', c', rfl, e1, r1.ext hb, e2, r2.ext hb⟩
  clear h1 h2 hbd hbd' e1 r1 e2 r2
  generalize edges L.ws L.hs = F at *
  generalize L.hs.map Hd.s = U at *
  have HRG := Lib.hid hrg
  have HL := Lib.hid hL
  have HF := Lib.hid hF
  clear hrg hL hF
  go_enter Try.func14, Try.ntmps14
  go_wp2_with fail
  obtain ⟨W, hW_, hbW, B1⟩ : ∃ W_, W_ = (w.alloc (.cells #[.slice A n c, .slice A' n' c'] 26)) ∧ Below w.heap.size w W_ ∧ Blk W_ (w.heap.size) 26 #[.slice A n c, .slice A' n' c'] :=
    ⟨_, rfl, ((Below.refl _ _).alloc (Nat.le_refl _) _), (blk_new_at w (w.heap.size) _ _ (by simp))⟩
  rw [← hW_]
  clear hW_
  have q1 := B1.cell 0
  have q1' := B1.cell 1
  go_wp2_with fail
  refine (HRG.out _ _ (HL.out _ hbW)).mono ?_
  rintro e w1 ⟨g, rfl, hR, hb1⟩
  have hbw1 := Below.trans hbW (Below.mono hb1 hbW.size)
  have hg0 : w.heap.size ≤ g := by
    obtain ⟨b, base, m, z, h1, h2, h3, h4, h5, h6, h7⟩ := hR
    have := hbW.size
    omega
  clear q1 q1' B1 hb1
  go_wp2_with fail
  refine (over_ g W.heap.size F s U _ hR hs hUl HF.out).mono ?_
  rintro e w2 ⟨b2, seen, rfl, hb2, hst, hseen, hR2, hg2, -⟩
  have hgl : g < w1.heap.size := by
    obtain ⟨b, base, m, z, h1, _⟩ := hR
    exact h1.lt
  have hbw2 : Below w.heap.size w w2 := hbw1.grown hg2 hbw1.size (fun k hk => by injection hk with hk; omega)
  have hlook := hst.look hs
  obtain ⟨p, hp⟩ : ∃ p, seen.contains s = p := ⟨_, rfl⟩
  rw [hp] at hlook
  have HP := Lib.hid hp
  have HS := Lib.hid hseen
  clear hp hR hg2 hseen
  cases p with
  | false =>
    go_wp2
    go_ret2
    refine ⟨0, false, rfl, ⟨fun h => (by cases h), fun _ => ⟨fun hr => ?_, rfl⟩⟩, hbw2⟩
    have h1 := (HS.out s).2 hr
    have h2 := HP.out
    simp at h2
    exact h2 h1
  | true =>
    have hss : Rch F s s := (HS.out s).1 (by have := HP.out; simpa using this)
    obtain ⟨D, hD1, hD2, hD3⟩ := hst
    have HD3 := Lib.hid hD3
    clear hD3
    go_wp2_with (at_range; refine wpList_range_own _ rfl _ 62 rfl 3 4 lawI Try.underlying62 _ b2 seen.length D rfl hD1 ?_; intro w3 hrg3 hg3 hs3)
    go_frame
    obtain ⟨b, base, m, z2, hB2, hb0, hbg, hgb, hbs, hm, hGr2⟩ := hR2
    have hBe3 : Below w2.heap.size w2 w3 := ⟨hg3.os, hg3.tape, hg3.output, hg3.size, fun k hk => hg3.block k hk (by simp)⟩
    have hb2l : b2 < w2.heap.size := hD1.lt
    have hB3 := hB2.ext hBe3
    have HG2 := Lib.hid hGr2
    have hgn3 : w2.grownBy w3 (some g) := hg3.but _
    clear hGr2 hB2 hD1 hs3 hlook
    go_loopw [8] (fun mo wr => ∃ (mv : Int) (left : Lit → Bool) (cnt : Nat), mo = .int .i64 mv ∧ wr.ranges Try.prog 3 (plainElem Try.prog 4) b2 w2.heap.size seen.length D left cnt ∧ (mv = s ∨ Rch F s mv ∧ Rch F mv s) ∧ s ≤ mv ∧ bd mv ∧
      (∀ k, bd k → k ∈ seen → left (.int .i64 k) = false → Rch F k s → k ≤ mv) ∧ w2.grownBy wr (some g) ∧ ∃ z, Blk wr g 79 #[.map (some b), .int .i64 z]) (fun _ wr => wr.rangeLeft b2 w2.heap.size)
    case atStart =>
      refine ⟨s, _, _, rfl, hrg3, .inl rfl, Int.le_refl _, hs, fun k hk hks hl _ => ?_, hgn3, z2, hB3⟩
      rw [(HD3.out k hk).1] at hl
      simp at hl
      exact absurd hks hl
    case round =>
      obtain ⟨mv, left, cnt, rfl, hrg, hmv, hsm, hmb, hall, hgn, z, hz⟩ := hrel
      clear hrg3 hgn3 hB3
      go_wp2_with (at_next; refine wpList_next_ranges _ rfl _ rfl 3 lawI _ (Value.int .i64) (fun c : Bx => Value.bool c.b) (fun key kl hkey => by obtain ⟨x, rfl, _⟩ := Maps.keyOf_int_inv Try.underlying3 hkey; exact ⟨x, rfl⟩) (fun v y hv => by obtain ⟨c, rfl, _⟩ := plain_bool_inv hv; exact ⟨⟨c⟩, rfl⟩) b2 w2.heap.size seen.length D left cnt rfl hrg ?_ ?_)
      · intro hc hl
        go_wp2
        go_ret2
        refine ⟨mv, true, rfl, ⟨fun _ => ⟨hss, hmv, hsm, fun k hk1 hk2 => ?_⟩, fun h => (by cases h)⟩, hbw2.grown hgn hbw2.size (fun k hk => by injection hk with hk; omega)⟩
        have hks : k ∈ seen := (HS.out k).2 hk1
        exact hall k (rch_bd HF.out hk1) hks (hl _) hk2
      · intro x c kl ya yb w4 cnt' hkey hlk hv hat hrg4 hlt hgr4 hsz hen
        obtain ⟨x', ex, rfl, hwx⟩ := Maps.keyOf_int_inv Try.underlying3 hkey
        cases ex
        have hxb : bd x := bd64 hwx
        have hxs : x ∈ seen := by
          have h1 := Maps.has_true_of_atKey hat
          rw [(HD3.out x hxb).1] at h1
          simpa using h1
        have hgn4 : w2.grownBy w4 (some g) := hgn.andThen hgr4 (fun j hj => by injection hj with hj; exact .inl (by omega))
        have hz4 := hz.grown hgr4 (by simp; omega)
        by_cases hgt : mv < x
        · have hdg : decide (mv < x) = true := by simpa using hgt
          have hRR : RgR w4 g W.heap.size F := ⟨b, base, m, _, hz4, hb0, hbg, hgb, Nat.le_trans hbs hgn4.size, hm, HG2.out.kept hgn4 (by omega) hgb⟩
          go_wp2_with fail
          refine (over_ g W.heap.size F x U _ hRR hxb hUl HF.out).mono ?_
          rintro e w5 ⟨b3, seen3, rfl, hb3, hst3, hseen3, hR5, hg5, hz5⟩
          have hlook := hst3.look hs
          obtain ⟨p, hp⟩ : ∃ p, seen3.contains s = p := ⟨_, rfl⟩
          rw [hp] at hlook
          have HP3 := Lib.hid hp
          have HS3 := Lib.hid hseen3
          have hz5 := hz5 _ _ hz4
          clear hp hseen3 hst3 hen hz hz4 hRR hR5
          have hgn5 : w2.grownBy w5 (some g) := World.grownBy.trans hgn4 hg5
          have hrg5 := hrg4.kept hg5 (by simp; omega) (by simp; omega)
          have hxr : Rch F s x := (HS.out x).1 hxs
          cases p with
          | true =>
            have hxs2 : Rch F x s := (HS3.out s).1 (by have := HP3.out; simpa using this)
            go_wp2
            refine ⟨⟨x, _, cnt', rfl, hrg5, .inr ⟨hxr, hxs2⟩, by omega, hxb, fun k hk hks hl hr => ?_, hgn5, hz5⟩, by rw [hrg5.left_eq, hrg.left_eq]; exact hlt⟩
            rcases left_new hl with h1 | h1
            · have := hall k hk hks h1 hr; omega
            · omega
          | false =>
            have hxs2 : ¬ Rch F x s := fun hr => by
              have h1 := (HS3.out s).2 hr
              have h2 := HP3.out
              simp at h2
              exact h2 h1
            go_wp2
            refine ⟨⟨mv, _, cnt', rfl, hrg5, hmv, hsm, hmb, fun k hk hks hl hr => ?_, hgn5, hz5⟩, by rw [hrg5.left_eq, hrg.left_eq]; exact hlt⟩
            rcases left_new hl with h1 | h1
            · exact hall k hk hks h1 hr
            · rw [h1] at hr; exact absurd hr hxs2
        · have hdg : decide (mv < x) = false := by simpa using hgt
          go_wp2
          refine ⟨⟨mv, _, cnt', rfl, hrg4, hmv, hsm, hmb, fun k hk hks hl hr => ?_, hgn4, z, hz4⟩, by rw [hrg4.left_eq, hrg.left_eq]; exact hlt⟩
          rcases left_new hl with h1 | h1
          · exact hall k hk hks h1 hr
          · omega
end Go.Proofs.Ytlfonenjgchklaa.lk
