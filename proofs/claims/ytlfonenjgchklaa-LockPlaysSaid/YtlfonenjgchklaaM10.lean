/- Contract: over. -/
import Derived.Test.YtlfonenjgchklaaM9
import Derived.Lib.AppendZeros
namespace Go.Proofs.Ytlfonenjgchklaa.lk
open Go.ChangeShapes Go.WideShapes Go.ChangeAt Go.RowKit Go.Proofs.Ytlfonenjgchklaa.lib
set_option linter.unusedVariables false

def OverP (F : Int → List Int) (s : Int) (g base0 : Nat) (w : World) (e : Ending) (w' : World) : Prop :=
  ∃ b seen, e = .returned (.map (some b)) ∧ w.heap.size ≤ b ∧ St w' b seen ∧ (∀ z, z ∈ seen ↔ Rch F s z) ∧ RgR w' g base0 F ∧ w.grownBy w' (some g) ∧
    ∀ b z, Blk w g 79 #[.map (some b), .int .i64 z] → ∃ z', Blk w' g 79 #[.map (some b), .int .i64 z']
structure OvR (w : World) (g b base m : Nat) (F : Int → List Int) (s : Int) (U : List Int) (M gq off cap : Nat) (l seen : List Int) (wr : World) : Prop where
  qu : Qu wr w.heap.size gq off cap l
  st : St wr w.heap.size seen
  bf : Bfs F s U l seen M
  lb : ∀ x ∈ l, bd x
  rg : ∃ z, Blk wr g 79 #[.map (some b), .int .i64 z]
  gr : Gr wr b base m F
  gn : w.grownBy wr (some g)
  ll : l.length ≤ U.length + 1
def OverR (w : World) (g b base m : Nat) (F : Int → List Int) (s : Int) (U : List Int) (lv : Value) (wr : World) (M : Nat) : Prop :=
  ∃ gq off cap l seen, lv = .slice (some ⟨gq, off, none⟩) l.length cap ∧ OvR w g b base m F s U M gq off cap l seen wr
theorem len_le {F : Int → List Int} {s : Int} {U l seen : List Int} {M : Nat} (h : Bfs F s U l seen M) (hM : M ≤ U.length + 1) : l.length ≤ U.length + 1 := by
  have := h.size; omega
/-- a step that turns one new block, or the rings -/
theorem OvR.step {w : World} {g b base m : Nat} {F : Int → List Int} {s : Int} {U : List Int} {M gq off cap : Nat} {l seen : List Int} {wr w' : World} (h : OvR w g b base m F s U M gq off cap l seen wr) (hb : Below wr.heap.size wr w') : OvR w g b base m F s U M gq off cap l seen w' :=
  ⟨h.qu.ext hb, h.st.ext hb, h.bf, h.lb, let ⟨z, hz⟩ := h.rg; ⟨z, hz.ext hb⟩, h.gr.ext hb, World.grownBy.trans h.gn ⟨hb.os, hb.tape, hb.output, hb.size, fun k hk _ => hb.block k hk⟩, h.ll⟩
theorem look_shuns {w : World} {b base n : Nat} {D : DataW Unit} {key : Value} {kl : Lit} {v : Value} (hown : w.ownsGroups Try.prog 3 base 3 .i64 b n D) (hkey : keyOf Try.prog 3 key = some kl)
    (hrun : (Instr.lookup 72 (.map (some b)) key false).run Try.prog w = .ok v w) (No : Nat → Prop) (hs : w.Shuns b No) : ∀ g, v.ownBlock = some g → ¬ No g := by
  obtain ⟨es, clock, hb, F, _⟩ := hown
  rcases Maps.fit_look false lawI Try.underlying72 (zeroInts w) hb F hkey with ⟨hrun', _, _⟩ | ⟨e0, y, hm0, _, hrun', _, _, _⟩
  · rw [hrun] at hrun'
    obtain rfl : v = .slice none 0 0 := by simpa using hrun'
    intro g hg'
    cases hg'
  · rw [hrun] at hrun'
    obtain rfl : v = e0.val := by simpa using hrun'
    exact fun g hg' => hs es clock hb e0 hm0 g hg'
/-- no row of the map lies behind the heap's end -/
theorem Gr.shuns {w w' : World} {b base n g : Nat} {F : Int → List Int} (h : Gr w b base n F) (hg : w.grownBy w' (some g)) (hb : b ≠ g) (hbl : b < w.heap.size) : w'.Shuns b (fun j => w.heap.size ≤ j) := by
  obtain ⟨D, h1, _⟩ := h
  have h0 : w.Shuns b (fun _ => False) := fun _ _ _ _ _ _ _ hf => hf
  exact (h0.reno h1 (fun g hg => .inr hg)).kept hg hbl (fun e => hb (by injection e))
set_option maxHeartbeats 4000000 in
set_option maxRecDepth 100000 in
theorem over_ (g base0 : Nat) (F : Int → List Int) (s : Int) (U : List Int) (w : World) (hR : RgR w g base0 F) (hs : bd s) (hU : U.length ≤ 1000) (hF : ∀ x, ∀ y ∈ F x, y ∈ U ∧ bd y) :
    Calls Try.prog 29 #[.pointer (some ⟨g, 0, none⟩), .int .i64 s] w (OverP F s g base0 w) := by
  obtain ⟨b, base, m, z0, hB, hb0, hbg, hgb, hbs, hm, hGr⟩ := hR
  have hmm := fun W => run_makeMap (P := Try.prog) 62 W
  have hgl := hB.lt
  go_enter Try.func29, Try.ntmps29
  go_wp2_with fail
  have hA : Below w.heap.size w ((w.alloc (.map #[] 0)).alloc (.cells #[.int .i64 s] 3)) := ((Below.refl _ _).alloc (Nat.le_refl _) _).alloc (by simp) _
  have h0 : OvR w g b base m F s U (U.length + 1) (w.heap.size + 1) 0 1 [s] [] ((w.alloc (.map #[] 0)).alloc (.cells #[.int .i64 s] 3)) :=
    ⟨Qu.one (blk_new_at _ _ _ _ (by simp)) _ (by omega), (St.made w).ext ((Below.refl _ _).alloc (Nat.le_refl _) _), Bfs.start F s U, fun x hx => by simp at hx; subst hx; exact hs, ⟨z0, hB.ext hA⟩, hGr.ext hA,
      ⟨hA.os, hA.tape, hA.output, hA.size, fun k hk _ => hA.block k hk⟩, by simp⟩
  generalize (w.alloc (.map #[] 0)).alloc (.cells #[.int .i64 s] 3) = W at *
  have hGr0 := Lib.hid hGr
  have HB := Lib.hid hB
  clear hmm hA hB hGr
  go_loopw [6] (fun l wr => ∃ M, M ≤ U.length + 1 ∧ OverR w g b base m F s U l wr M) (fun l wr => lst (fun M => M ≤ U.length + 1 ∧ OverR w g b base m F s U l wr M))
  case atStart => exact ⟨_, Nat.le_refl _, _, _, _, _, _, rfl, h0⟩
  case round =>
    obtain ⟨⟨hMU, hM⟩, hmin⟩ := lst_spec hrel
    clear hrel h0 hmin
    obtain ⟨M, hMe⟩ : ∃ M, (lst fun M => M ≤ U.length + 1 ∧ OverR w g b base m F s U u6 wr M) = M := ⟨_, rfl⟩
    rw [hMe] at hMU hM
    obtain ⟨gq, off, cap, l, seen, rfl, hV⟩ := hM
    have HME := Lib.hid hMe
    clear hMe
    have hgw : g < base := hgb
    cases l with
    | nil =>
      go_wp2
      go_ret
      obtain ⟨z, hz⟩ := hV.rg
      exact ⟨w.heap.size, seen, rfl, Nat.le_refl _, hV.st, hV.bf.done, ⟨b, base, m, z, hz, hb0, hbg, hgb, Nat.le_trans hbs hV.gn.size, hm, hV.gr⟩, hV.gn, fun b' z' h' => ⟨z, by
        have e : some (Value.map (some b)) = some (Value.map (some b')) := (HB.out.cell 0).symm.trans (h'.cell 0)
        injection e with e
        injection e with e
        injection e with e
        rw [← e]; exact hz⟩⟩
    | cons x r =>
      have hxb : bd x := hV.lb x (by simp)
      have hd : decide (0 < (((x :: r).length : Nat) : Int)) = true := by simp; try omega
      obtain ⟨z, hz⟩ := hV.rg
      obtain ⟨n, hn⟩ : ∃ n, (x :: r).length = n := ⟨_, rfl⟩
      have hn1 : 1 ≤ n := by rw [← hn]; simp
      have hn2 : n ≤ 1001 := by have := hV.ll; omega
      rw [hn] at hd ⊢
      have HN := Lib.hid hn
      clear hn
      go_wp2_with fail
      refine (add_ g (some b) z _ hz).mono ?_
      rintro e w1 ⟨s1, rfl, hR1, hg1⟩
      have hqg : 0 < cap → some gq ≠ some g := fun _ e => by injection e with e; have := hV.qu.base; omega
      have hV1 : OvR w g b base m F s U M gq off cap (x :: r) seen w1 := ⟨hV.qu.kept hg1 hqg, hV.st.kept hg1 (fun e => by injection e with e; omega), hV.bf, hV.lb, ⟨s1, hR1⟩, hV.gr.kept hg1 (by omega) hgb, World.grownBy.trans hV.gn hg1, hV.ll⟩
      clear hz hg1 hqg hV
      have hq0 : w1.cell? ⟨gq, off, none⟩ = some (.int .i64 x) := hV1.qu.holds 0 x rfl
      have hql := hV1.qu.lt
      go_wp2_with fail
      have D := fun w' (h : Below w1.heap.size w1.drew w') => (show w'.cell? ⟨g, 0, none⟩ = some (.map (some b)) ∧ w'.cell? ⟨gq, off, none⟩ = some (.int .i64 x) from ⟨(hR1.ext (Below.trans (Below.refl _ _).drew h)).cell 0, (h.cell (p := ⟨gq, off, none⟩) hql).trans hq0⟩)
      refine wp_region_one [(0, true), (1, true), (2, true), (3, true), (4, true), (5, true), (6, true), (9, true), (7, false), (8, true)] (by kernel_rfl) (by kernel_rfl) (by kernel_rfl) (by decide) ?_
      repeat ((with_reducible show wpPerm _ _ _ _ ((_, true) :: _) _ _); (first | (refine wpPerm_on (v := ?_) rfl rfl (wanted_free rfl) (fun w' hS => ?_) ?_; rotate_left; (focus (go_simp; (try with_reducible rfl); done)); try simp only [List.setIfInBounds_toArray, List.set_cons_zero, List.set_cons_succ]) | (refine wpPerm_on (v := ?_) rfl rfl (wanted_yes rfl rfl rfl) (fun w' hS => ?_) ?_; rotate_left; (focus (go_simp; (try with_reducible rfl); done)); try simp only [List.setIfInBounds_toArray, List.set_cons_zero, List.set_cons_succ]) | (refine wpPerm_off rfl rfl (wanted_no rfl rfl rfl) ?_; try simp only [List.setIfInBounds_toArray, List.set_cons_zero, List.set_cons_succ]) | (refine wpPerm_off rfl rfl (wanted_undef rfl rfl rfl) ?_; try simp only [List.setIfInBounds_toArray, List.set_cons_zero, List.set_cons_succ])))
      clear D
      refine wpPerm_do rfl (wanted_free rfl) (fun K hK => ?_)
      obtain ⟨D, hD1, hD2, hD3⟩ := hV1.gr.ext (w' := w1.drew) (Below.refl _ _).drew
      obtain ⟨v, zs, hrun, hat, hoi, hzl, -⟩ := hD1.at lawI Try.underlying72 (zeroInts _) (by unfold maxLen; omega) (Maps.keyOf_int_mk Try.underlying3 (bd_wf hxb))
      have HZF := Lib.hid (show zs = F x by rw [← hD3 x hxb, hat, intsOf_row hoi])
      obtain ⟨Av, cv, rfl⟩ := own_slice hoi.1
      have hrow : ∀ j y, zs[j]? = some y → ∃ gv, Av = some ⟨gv, 0, none⟩ ∧ gv < w.heap.size ∧ gv ≠ g ∧ w.cell? ⟨gv, j, none⟩ = some (.int .i64 y) := fun j y hy => by
        have hj := (List.getElem?_eq_some_iff.1 hy).1
        have hg2 : w.grownBy w1.drew (some g) := ⟨hV1.gn.os, hV1.gn.tape, hV1.gn.output, hV1.gn.size, hV1.gn.block⟩
        have hsh := look_shuns hD1 (Maps.keyOf_int_mk Try.underlying3 (bd_wf hxb)) hrun _ (hGr0.out.shuns hg2 (by omega) (by omega))
        obtain ⟨gv, cv', e, hgv, hgv2⟩ := hoi.1.form (by omega)
        injection e with e1 e2 e3
        subst e1
        have hlt : gv < w.heap.size := by have := hsh gv rfl; omega
        have hne : gv ≠ g := by omega
        refine ⟨gv, rfl, hlt, hne, ?_⟩
        rw [← World.cell?_of_block (a := ⟨gv, j, none⟩) (hg2.block gv hlt (fun e => hne (by injection e))), hoi.1.cellAt j (by omega), List.getElem?_map, hy]
        rfl
      have HROW := Lib.hid hrow
      clear hrow
      refine wp_lookup_run _ _ _ rfl _ _ rfl rfl _ hrun ?_
      refine hK.out _ _ (Below.refl _ _) ?_
      clear hK K hrun hat hD1 hD2 hD3 D
      go_simp
      repeat ((with_reducible show wpPerm _ _ _ _ ((_, true) :: _) _ _); (first | (refine wpPerm_on (v := ?_) rfl rfl (wanted_free rfl) (fun w' hS => ?_) ?_; rotate_left; (focus (go_simp; (try with_reducible rfl); done)); try simp only [List.setIfInBounds_toArray, List.set_cons_zero, List.set_cons_succ]) | (refine wpPerm_on (v := ?_) rfl rfl (wanted_yes rfl rfl rfl) (fun w' hS => ?_) ?_; rotate_left; (focus (go_simp; (try with_reducible rfl); done)); try simp only [List.setIfInBounds_toArray, List.set_cons_zero, List.set_cons_succ]) | (refine wpPerm_off rfl rfl (wanted_no rfl rfl rfl) ?_; try simp only [List.setIfInBounds_toArray, List.set_cons_zero, List.set_cons_succ]) | (refine wpPerm_off rfl rfl (wanted_undef rfl rfl rfl) ?_; try simp only [List.setIfInBounds_toArray, List.set_cons_zero, List.set_cons_succ])))
      refine wpPerm_done ?_
      go_wp2_with fail
      have hV2 : OvR w g b base m F s U M gq off cap (x :: r) seen w1.drew := hV1.step (Below.refl _ _).drew
      clear hV1 hR1 hq0 hql
      generalize w1.drew = w2 at *
      obtain ⟨nz, hnz⟩ : ∃ nz, zs.length = nz := ⟨_, rfl⟩
      rw [hnz] at hzl ⊢
      clear hoi
      have HZ := Lib.hid hnz
      clear hnz
      go_loopw [6, 30] (fun lv iv wq => ∃ (i gq off cap : Nat) (l seen : List Int), iv = .int .i64 i ∧ i ≤ nz ∧ lv = .slice (some ⟨gq, off, none⟩) l.length cap ∧ (∃ r', l = x :: r') ∧ OvR w g b base m F s U M gq off cap l seen wq ∧ Hid (∀ j y, j < i → zs[j]? = some y → y ∈ seen)) (fun _ iv _ => nz - (intOf iv).toNat)
      case atStart => exact ⟨0, gq, off, cap, x :: r, seen, rfl, Nat.zero_le _, by rw [HN.out], ⟨r, rfl⟩, hV2, Lib.hid (fun j y h => absurd h (by omega))⟩
      case round =>
        obtain ⟨i, gq, off, cap, l, seen, rfl, hi, rfl, ⟨r', hl⟩, hV, HD⟩ := hrel
        clear hV2 hd
        obtain ⟨nl, hnl⟩ : ∃ nl, l.length = nl := ⟨_, rfl⟩
        have hnl1 : 1 ≤ nl := by rw [← hnl, hl]; simp
        have hnl2 : nl ≤ 1001 := by have := hV.ll; omega
        rcases Nat.lt_or_ge i nz with hlt | hge
        · have hdi : decide ((i : Int) < (nz : Int)) = true := by simp; omega
          obtain ⟨k, hk⟩ : ∃ k, zs[i]? = some k := ⟨_, List.getElem?_eq_getElem (by rw [HZ.out]; exact hlt)⟩
          have hkF : k ∈ F x := by rw [← HZF.out]; exact List.mem_of_getElem? hk
          obtain ⟨hkU, hkb⟩ := hF x k hkF
          obtain ⟨gv, rfl, hgv, hgvg, hck0⟩ := HROW.out i k hk
          have hck : wr.cell? ⟨gv, i, none⟩ = some (.int .i64 k) := by
            rw [World.cell?_of_block (a := ⟨gv, i, none⟩) (hV.gn.block gv hgv (fun e => hgvg (by injection e)))]
            exact hck0
          clear hck0
          have HK := Lib.hid hk
          clear hk
          have hlook := hV.st.look hkb
          obtain ⟨p, hp⟩ : ∃ p, seen.contains k = p := ⟨_, rfl⟩
          rw [hp] at hlook
          have HP := Lib.hid hp
          clear hp
          rw [hnl]
          cases p with
          | true =>
            go_wp2
            go_roundw
            case rel =>
              refine ⟨i + 1, gq, off, cap, l, seen, by go_num, by omega, by rw [hnl], ⟨r', hl⟩, hV, Lib.hid (fun j y hj hy => ?_)⟩
              by_cases hji : j = i
              · subst hji
                rw [HK.out] at hy
                injection hy with hy
                rw [← hy]
                simpa using HP.out
              · exact HD.out j y (by omega) hy
            case measure => simp [intOf]; omega
          | false =>
            have hkn : k ∉ seen := by have := HP.out; simpa using this
            have hsl : seen.length ≤ 1000000 := by have := hV.bf.room; omega
            obtain ⟨w3, hput, hst3, hg3⟩ := hV.st.put hkb hsl hkn
            have hqm : 0 < cap → some gq ≠ some w.heap.size := fun hc e => hV.qu.ne_map hV.st.map hc (by injection e)
            have hq3 := hV.qu.kept hg3 hqm
            have hqa := hq3.ext (w' := w3.alloc (.cells #[.int .i64 k] 3)) ((Below.refl _ _).alloc (Nat.le_refl _) _)
            obtain ⟨g', off', cap', w4, hrun4, hq4, hg4⟩ := hqa.push (Blk.new w3 _ #[.int .i64 k]) 66 (by omega) (by have h1 := hV.gn.size; have h2 := hg3.size; simp; omega)
            rw [hnl] at hrun4
            go_wp2_with (at_builtin; refine Lib.wpList_append_run _ rfl _ _ _ _ rfl _ _ rfl rfl _ _ hrun4 ?_)
            have hwl : w.heap.size ≤ wr.heap.size := hV.gn.size
            have hgA : w3.grownBy (w3.alloc (.cells #[.int .i64 k] 3)) none := World.grownBy_alloc w3 _ none
            have hg3A : w.grownBy (w3.alloc (.cells #[.int .i64 k] 3)) (some g) := (hV.gn.andThen hg3 (fun j hj => by injection hj with hj; exact .inl (by omega))).andThen hgA (fun j hj => by cases hj)
            have hgN : w.grownBy w4 (some g) := by
              rcases hg4 with h4 | ⟨_, h4⟩
              · exact hg3A.andThen h4 (fun j hj => by cases hj)
              · exact hg3A.andThen h4 (fun j hj => by injection hj with hj; exact .inl (by have := hV.qu.base; omega))
            have hstA := hst3.ext (w' := w3.alloc (.cells #[.int .i64 k] 3)) ((Below.refl _ _).alloc (Nat.le_refl _) _)
            have hst4 : St w4 w.heap.size (seen ++ [k]) := by
              rcases hg4 with h4 | ⟨hc, h4⟩
              · exact hstA.kept h4 (by simp)
              · exact hstA.kept h4 (fun e => hqm hc e.symm)
            have hrg4 : ∃ z, Blk w4 g 79 #[.map (some b), .int .i64 z] := by
              obtain ⟨z, hz⟩ := hV.rg
              have h3 := (hz.grown hg3 (by simp; omega)).alloc (.cells #[.int .i64 k] 3)
              rcases hg4 with h4 | ⟨_, h4⟩
              · exact ⟨z, h3.grown h4 (by simp)⟩
              · exact ⟨z, h3.grown h4 (by have := hV.qu.base; simp; omega)⟩
            have hbf4 := hV.bf.add (x := x) (k := k) (by rw [hl]; simp) hkF hkU hkn
            have hll : (l ++ [k]).length ≤ U.length + 1 := len_le hbf4 hMU
            have hOv : OvR w g b base m F s U M g' off' cap' (l ++ [k]) (seen ++ [k]) w4 := ⟨hq4, hst4, hbf4, fun y hy => by
              rcases List.mem_append.1 hy with hy | hy
              · exact hV.lb y hy
              · simp at hy; subst hy; exact hkb, hrg4, hGr0.out.kept hgN (by omega) hgb, hgN, hll⟩
            go_roundw
            case rel =>
              refine ⟨i + 1, g', off', cap', l ++ [k], seen ++ [k], by go_num, by omega, by rw [List.length_append, hnl]; rfl, ⟨r' ++ [k], by rw [hl]; rfl⟩, hOv, Lib.hid (fun j y hj hy => ?_)⟩
              by_cases hji : j = i
              · subst hji
                rw [HK.out] at hy
                injection hy with hy
                rw [← hy]
                simp
              · exact List.mem_append_left _ (HD.out j y (by omega) hy)
            case measure => simp [intOf]; omega
        · have hdi : decide ((i : Int) < (nz : Int)) = false := by simp; omega
          rw [hnl]
          have hdone : ∀ y ∈ F x, y ∈ seen := fun y hy => by
            rw [← HZF.out] at hy
            obtain ⟨j, hj, e⟩ := List.getElem_of_mem hy
            exact HD.out j y (by have := HZ.out; omega) (by rw [List.getElem?_eq_getElem hj, e])
          subst hl
          obtain ⟨hbp, hM1⟩ := hV.bf.pop hdone
          have hql := hV.qu.le
          have hnr : r'.length = nl - 1 := by rw [← hnl]; simp
          have hlb : ∀ y ∈ r', bd y := fun y hy => hV.lb y (List.mem_cons_of_mem _ hy)
          have hll : r'.length ≤ U.length + 1 := by have := hV.ll; simp at this; omega
          have HNL := Lib.hid hnl
          have HNR := Lib.hid hnr
          have HQL := Lib.hid hql
          clear hnl hnr hql
          by_cases hc1 : cap = 1
          · subst hc1
            have hr0 : r' = [] := by
              have := HQL.out
              simp at this
              exact this
            have hqu : Qu wr w.heap.size gq off 0 r' := by
              subst hr0
              exact ⟨hV.qu.base, hV.qu.lt, Nat.le_refl _, fun j hj => absurd hj (by omega), fun i z hz => by cases hz⟩
            have hOv : OvR w g b base m F s U (M - 1) gq off 0 r' seen wr := ⟨hqu, hV.st, hbp, hlb, hV.rg, hV.gr, hV.gn, hll⟩
            have HR0 := Lib.hid hr0
            clear hr0
            go_wp2
            have hnew : OverR w g b base m F s U (.slice (some ⟨gq, off, none⟩) (nl - 1) 0) wr (M - 1) := ⟨gq, off, 0, r', seen, by rw [HNR.out], hOv⟩
            refine ⟨⟨M - 1, by omega, hnew⟩, ?_⟩
            have hle := (lst_spec (p := fun M => M ≤ U.length + 1 ∧ OverR w g b base m F s U (.slice (some ⟨gq, off, none⟩) (nl - 1) 0) wr M) ⟨M - 1, by omega, hnew⟩).2 (M - 1) ⟨by omega, hnew⟩
            have hme := HME.out
            rw [HN.out] at hme
            rw [hme]
            exact Nat.lt_of_le_of_lt hle (by omega)
          · have hOv : OvR w g b base m F s U (M - 1) gq (off + 1) (cap - 1) r' seen wr := ⟨hV.qu.pop, hV.st, hbp, hlb, hV.rg, hV.gr, hV.gn, hll⟩
            go_wp2
            have hnew : OverR w g b base m F s U (.slice (some ⟨gq, off + 1, none⟩) (nl - 1) (cap - 1)) wr (M - 1) := ⟨gq, off + 1, cap - 1, r', seen, by rw [HNR.out], hOv⟩
            refine ⟨⟨M - 1, by omega, hnew⟩, ?_⟩
            have hle := (lst_spec (p := fun M => M ≤ U.length + 1 ∧ OverR w g b base m F s U (.slice (some ⟨gq, off + 1, none⟩) (nl - 1) (cap - 1)) wr M) ⟨M - 1, by omega, hnew⟩).2 (M - 1) ⟨by omega, hnew⟩
            have hme := HME.out
            rw [HN.out] at hme
            rw [hme]
            exact Nat.lt_of_le_of_lt hle (by omega)
end Go.Proofs.Ytlfonenjgchklaa.lk
