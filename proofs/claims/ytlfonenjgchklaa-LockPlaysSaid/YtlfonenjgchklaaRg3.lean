/- Contract: the document's Victim. -/
import Derived.Test.YtlfonenjgchklaaRg2
import Derived.Test.YtlfonenjgchklaaM11
namespace Go.Proofs.Ytlfonenjgchklaa.lk
open Go.ChangeShapes Go.WideShapes Go.ChangeAt Go.RowKit Go.Proofs.Ytlfonenjgchklaa.lib
set_option linter.unusedVariables false

theorem Is.at_ {w : World} {A : Option Addr} {l : List Int} (h : Is w A l) {i : Nat} {z : Int} (hi : l[i]? = some z) : ∃ b, A = some ⟨b, 0, none⟩ ∧ b < w.heap.size ∧ w.cell? ⟨b, i, none⟩ = some (.int .i64 z) := by
  rcases h with ⟨_, rfl⟩ | ⟨b, e, hlt, hc⟩
  · cases hi
  · exact ⟨b, e, hlt, hc i z hi⟩
set_option maxHeartbeats 4000000 in
set_option maxRecDepth 1000000 in
theorem rVictim_ (L : Lk) (s : Int) (v : Value) (w : World) (hL : LkR w v L) (h1 : L.hs.length ≤ 1000) (h2 : L.ws.length ≤ 1000) :
    Calls Try.prog 20 #[v, .int .i64 s] w (VicP (edges L.ws L.hs) s w) := by
  have hfrom := fun z W V hv => from_ L z V W hv h1 h2
  obtain ⟨A, n, c, A', n', c', rfl, e1, r1, e2, r2⟩ := hL
  have hL : ∀ W, Below w.heap.size w W → LkR W (.agg #[.slice A n c, .slice A' n' c']) L := fun W hb => ⟨A, n, c, A', n', c', rfl, e1, r1.ext hb, e2, r2.ext hb⟩
  obtain ⟨N, hN⟩ : ∃ N, L.hs.length = N := ⟨_, rfl⟩
  rw [hN] at h1
  have HN := Lib.hid hN
  have HFR := Lib.hid hfrom
  have HL := Lib.hid hL
  clear h2 e1 r1 e2 r2 hN hfrom hL
  go_enter Try.func20, Try.ntmps20
  go_wp2_with fail
  obtain ⟨W, hW_, hbW, B1⟩ : ∃ W_, W_ = (w.alloc (.cells #[.slice A n c, .slice A' n' c'] 40)) ∧ Below w.heap.size w W_ ∧ Blk W_ (w.heap.size) 40 #[.slice A n c, .slice A' n' c'] :=
    ⟨_, rfl, ((Below.refl _ _).alloc (Nat.le_refl _) _), (blk_new_at w (w.heap.size) _ _ (by simp))⟩
  rw [← hW_]
  clear hW_
  have q1 := B1.cell 0
  have q1' := B1.cell 1
  go_wp2_with fail
  refine (HFR.out s _ _ (HL.out _ hbW)).mono ?_
  rintro e w1 ⟨AS, cS, seen, rfl, his, hseen, hsl, hb1⟩
  rw [HN.out] at hsl
  have hbw1 := Below.trans hbW (Below.mono hb1 hbW.size)
  have B1 := B1.ext hb1
  clear q1 q1' hb1
  go_wp2_with fail
  refine (in_ seen AS seen.length cS s _ rfl (by omega) his).mono ?_
  rintro e w2 ⟨rfl, rfl⟩
  have HS := Lib.hid hseen
  clear hseen
  obtain ⟨m, hm⟩ : ∃ m, seen.length = m := ⟨_, rfl⟩
  rw [hm] at hsl
  cases hc : seen.contains s with
  | false =>
    go_wp2
    go_ret2
    refine ⟨0, false, rfl, ⟨fun h => (by cases h), fun _ => ⟨fun hr => ?_, rfl⟩⟩, hbw1⟩
    have h1 := (HS.out s).2 hr
    simp at hc
    exact hc h1
  | true =>
    have hss : Rch (edges L.ws L.hs) s s := (HS.out s).1 (by simpa using hc)
    rw [hm]
    have HM := Lib.hid hm
    clear hm
    go_wp2_with fail
    rename World => wz
    go_loopw [7, 8] (fun mo io wr => ∃ (mv : Int) (i : Nat), mo = .int .i64 mv ∧ io = .int .i64 i ∧ i ≤ m ∧ Below wz.heap.size wz wr ∧ (mv = s ∨ Rch (edges L.ws L.hs) s mv ∧ Rch (edges L.ws L.hs) mv s) ∧ s ≤ mv ∧ ∀ j z, j < i → seen[j]? = some z → Rch (edges L.ws L.hs) z s → z ≤ mv) (fun _ io _ => m - (intOf io).toNat)
    case atStart => exact ⟨s, 0, rfl, rfl, Nat.zero_le _, Below.refl _ _, .inl rfl, Int.le_refl _, fun j z h => absurd h (by omega)⟩
    case round =>
      obtain ⟨mv, i, rfl, rfl, hi, hbr, hmv, hsm, hall⟩ := hrel
      have B2 := B1.ext hbr
      have hbwr := Below.trans hbw1 (Below.mono hbr hbw1.size)
      have HALL := Lib.hid hall
      clear hall
      rcases Nat.lt_or_ge i m with hlt | hge
      · have hd : decide ((i : Int) < (m : Int)) = true := by simp; omega
        have hin : (i : Int) < (m : Int) := by omega
        obtain ⟨z, hz⟩ : ∃ z, seen[i]? = some z := ⟨_, List.getElem?_eq_getElem (by rw [HM.out]; exact hlt)⟩
        obtain ⟨b, hA, hbl, hcz⟩ := his.at_ hz
        subst hA
        have HZ := Lib.hid hz
        clear hz
        have q2 := hbr.cell (p := ⟨b, i, none⟩) hbl
        rw [hcz] at q2
        go_wp2_with fail
        have D := fun w' (h : Below wr.heap.size wr.drew w') => (show (w'.cell? ⟨w.heap.size, 0, none⟩ = some (.slice A n c) ∧ w'.cell? ⟨w.heap.size, 1, none⟩ = some (.slice A' n' c')) ∧ w'.cell? ⟨b, i, none⟩ = some (.int .i64 z) from
          have e := Below.trans hbr.drew (Below.mono h hbr.size)
          ⟨⟨(B1.ext e).cell 0, (B1.ext e).cell 1⟩, (e.cell (p := ⟨b, i, none⟩) hbl).trans hcz⟩)
        refine wp_region_one [(0, true), (1, true), (2, true), (3, true), (4, true), (5, true), (6, true), (7, true), (8, true), (9, true), (10, true), (11, true), (13, true), (12, false), (14, false), (15, true)] (by kernel_rfl) (by kernel_rfl) (by kernel_rfl) (by decide) ?_
        by_cases hgt : mv < z
        · have hdg : decide (mv < z) = true := by simpa using hgt
          repeat ((with_reducible show wpPerm _ _ _ _ ((_, true) :: _) _ _); (first | (refine wpPerm_on (v := ?_) rfl rfl (wanted_free rfl) (fun w' hS => ?_) ?_; rotate_left; (focus (go_simp; (try with_reducible rfl); done)); try simp only [List.setIfInBounds_toArray, List.set_cons_zero, List.set_cons_succ]) | (refine wpPerm_on (v := ?_) rfl rfl (wanted_yes rfl rfl rfl) (fun w' hS => ?_) ?_; rotate_left; (focus (go_simp; (try with_reducible rfl); done)); try simp only [List.setIfInBounds_toArray, List.set_cons_zero, List.set_cons_succ]) | (refine wpPerm_off rfl rfl (wanted_no rfl rfl rfl) ?_; try simp only [List.setIfInBounds_toArray, List.set_cons_zero, List.set_cons_succ]) | (refine wpPerm_off rfl rfl (wanted_undef rfl rfl rfl) ?_; try simp only [List.setIfInBounds_toArray, List.set_cons_zero, List.set_cons_succ])))
          clear D
          refine wpPerm_do rfl (wanted_yes rfl rfl rfl) (fun K hK => ?_); go_simp
          refine (HFR.out z _ _ (HL.out _ hbwr.drew)).mono ?_
          rintro e w3 ⟨AT, cT, seen3, rfl, his3, hseen3, hsl3, hb3⟩
          refine hK.out _ _ hb3 ?_
          rw [HN.out] at hsl3
          have hb3' := Below.trans hbr.drew (Below.mono hb3 hbr.size)
          have HS3 := Lib.hid hseen3
          clear hK K q2 hseen3
          refine wpPerm_do rfl (wanted_yes rfl rfl rfl) (fun K hK => ?_); go_simp
          refine (in_ seen3 AT seen3.length cT s _ rfl (by omega) his3).mono ?_
          rintro e w4 ⟨rfl, rfl⟩
          refine hK.out _ _ hb3 ?_
          clear hK K
          have hzr : Rch (edges L.ws L.hs) s z := (HS.out z).1 (List.mem_of_getElem? HZ.out)
          have q3 := hb3'.cell (p := ⟨b, i, none⟩) hbl
          rw [hcz] at q3
          cases hc3 : seen3.contains s with
          | true =>
            have hzs : Rch (edges L.ws L.hs) z s := (HS3.out s).1 (by simpa using hc3)
            clear hb3
            repeat ((with_reducible show wpPerm _ _ _ _ ((_, true) :: _) _ _); (first | (refine wpPerm_on (v := ?_) rfl rfl (wanted_free rfl) (fun w' hS => ?_) ?_; rotate_left; (focus (go_simp; (try with_reducible rfl); done)); try simp only [List.setIfInBounds_toArray, List.set_cons_zero, List.set_cons_succ]) | (refine wpPerm_on (v := ?_) rfl rfl (wanted_yes rfl rfl rfl) (fun w' hS => ?_) ?_; rotate_left; (focus (go_simp; (try with_reducible rfl); done)); try simp only [List.setIfInBounds_toArray, List.set_cons_zero, List.set_cons_succ]) | (refine wpPerm_off rfl rfl (wanted_no rfl rfl rfl) ?_; try simp only [List.setIfInBounds_toArray, List.set_cons_zero, List.set_cons_succ]) | (refine wpPerm_off rfl rfl (wanted_undef rfl rfl rfl) ?_; try simp only [List.setIfInBounds_toArray, List.set_cons_zero, List.set_cons_succ])))
            refine wpPerm_done ?_
            go_wp2
            go_roundw
            case rel =>
              refine ⟨z, i + 1, rfl, by go_num, by omega, hb3', .inr ⟨hzr, hzs⟩, by omega, fun j y hj hy hr => ?_⟩
              by_cases hji : j = i
              · subst hji
                rw [HZ.out] at hy
                injection hy with hy
                omega
              · have := HALL.out j y (by omega) hy hr
                omega
            case measure => simp [intOf]; omega
          | false =>
            have hzs : ¬ Rch (edges L.ws L.hs) z s := fun hr => by
              have h1 := (HS3.out s).2 hr
              simp at hc3
              exact hc3 h1
            clear hb3
            repeat ((with_reducible show wpPerm _ _ _ _ ((_, true) :: _) _ _); (first | (refine wpPerm_on (v := ?_) rfl rfl (wanted_free rfl) (fun w' hS => ?_) ?_; rotate_left; (focus (go_simp; (try with_reducible rfl); done)); try simp only [List.setIfInBounds_toArray, List.set_cons_zero, List.set_cons_succ]) | (refine wpPerm_on (v := ?_) rfl rfl (wanted_yes rfl rfl rfl) (fun w' hS => ?_) ?_; rotate_left; (focus (go_simp; (try with_reducible rfl); done)); try simp only [List.setIfInBounds_toArray, List.set_cons_zero, List.set_cons_succ]) | (refine wpPerm_off rfl rfl (wanted_no rfl rfl rfl) ?_; try simp only [List.setIfInBounds_toArray, List.set_cons_zero, List.set_cons_succ]) | (refine wpPerm_off rfl rfl (wanted_undef rfl rfl rfl) ?_; try simp only [List.setIfInBounds_toArray, List.set_cons_zero, List.set_cons_succ])))
            refine wpPerm_done ?_
            go_wp2
            go_roundw
            case rel =>
              refine ⟨mv, i + 1, rfl, by go_num, by omega, hb3', hmv, hsm, fun j y hj hy hr => ?_⟩
              by_cases hji : j = i
              · subst hji
                rw [HZ.out] at hy
                injection hy with hy
                subst hy
                exact absurd hr hzs
              · exact HALL.out j y (by omega) hy hr
            case measure => simp [intOf]; omega
        · have hdg : decide (mv < z) = false := by simpa using hgt
          repeat ((with_reducible show wpPerm _ _ _ _ ((_, true) :: _) _ _); (first | (refine wpPerm_on (v := ?_) rfl rfl (wanted_free rfl) (fun w' hS => ?_) ?_; rotate_left; (focus (go_simp; (try with_reducible rfl); done)); try simp only [List.setIfInBounds_toArray, List.set_cons_zero, List.set_cons_succ]) | (refine wpPerm_on (v := ?_) rfl rfl (wanted_yes rfl rfl rfl) (fun w' hS => ?_) ?_; rotate_left; (focus (go_simp; (try with_reducible rfl); done)); try simp only [List.setIfInBounds_toArray, List.set_cons_zero, List.set_cons_succ]) | (refine wpPerm_off rfl rfl (wanted_no rfl rfl rfl) ?_; try simp only [List.setIfInBounds_toArray, List.set_cons_zero, List.set_cons_succ]) | (refine wpPerm_off rfl rfl (wanted_undef rfl rfl rfl) ?_; try simp only [List.setIfInBounds_toArray, List.set_cons_zero, List.set_cons_succ])))
          clear D
          refine wpPerm_no rfl (wanted_no rfl rfl rfl) (Below.refl _ _) ?_
          go_simp
          refine wpPerm_no rfl (wanted_no rfl rfl rfl) (Below.refl _ _) ?_
          go_simp
          repeat ((with_reducible show wpPerm _ _ _ _ ((_, true) :: _) _ _); (first | (refine wpPerm_on (v := ?_) rfl rfl (wanted_free rfl) (fun w' hS => ?_) ?_; rotate_left; (focus (go_simp; (try with_reducible rfl); done)); try simp only [List.setIfInBounds_toArray, List.set_cons_zero, List.set_cons_succ]) | (refine wpPerm_on (v := ?_) rfl rfl (wanted_yes rfl rfl rfl) (fun w' hS => ?_) ?_; rotate_left; (focus (go_simp; (try with_reducible rfl); done)); try simp only [List.setIfInBounds_toArray, List.set_cons_zero, List.set_cons_succ]) | (refine wpPerm_off rfl rfl (wanted_no rfl rfl rfl) ?_; try simp only [List.setIfInBounds_toArray, List.set_cons_zero, List.set_cons_succ]) | (refine wpPerm_off rfl rfl (wanted_undef rfl rfl rfl) ?_; try simp only [List.setIfInBounds_toArray, List.set_cons_zero, List.set_cons_succ])))
          refine wpPerm_done ?_
          have hbd := hbr.drew
          go_wp2
          go_roundw
          case rel =>
            refine ⟨mv, i + 1, rfl, by go_num, by omega, hbd, hmv, hsm, fun j y hj hy hr => ?_⟩
            by_cases hji : j = i
            · subst hji
              rw [HZ.out] at hy
              injection hy with hy
              omega
            · exact HALL.out j y (by omega) hy hr
          case measure => simp [intOf]; omega
      · have hd : decide ((i : Int) < (m : Int)) = false := by simp; omega
        go_wp2
        go_ret2
        refine ⟨mv, true, rfl, ⟨fun _ => ⟨hss, hmv, hsm, fun k hk1 hk2 => ?_⟩, fun h => (by cases h)⟩, hbwr⟩
        obtain ⟨j, hj, e⟩ := List.getElem_of_mem ((HS.out k).2 hk1)
        exact HALL.out j k (by have := HM.out; omega) (by rw [List.getElem?_eq_getElem hj, e]) hk2
end Go.Proofs.Ytlfonenjgchklaa.lk
