/- Contract: the document's from. -/
import Derived.Test.YtlfonenjgchklaaRg1
import Derived.Lib.AppendZeros
namespace Go.Proofs.Ytlfonenjgchklaa.lk
open Go.ChangeShapes Go.WideShapes Go.ChangeAt Go.RowKit Go.Proofs.Ytlfonenjgchklaa.lib
set_option linter.unusedVariables false

theorem mem_edges {ws hs : List Hd} {x : Int} {o p : Hd} (ho : o ∈ ws) (hs_ : o.s = x) (hp : p ∈ hs) (ha : agB o p = true) : p.s ∈ edges ws hs x := by
  unfold edges
  rw [List.mem_flatMap]
  exact ⟨o, List.mem_filter.2 ⟨ho, by simpa using hs_⟩, List.mem_map.2 ⟨p, List.mem_filter.2 ⟨hp, ha⟩, rfl⟩⟩
def FromP (L : Lk) (s : Int) (w : World) (r : Ending) (w' : World) : Prop := ∃ A c seen, r = .returned (.slice A seen.length c) ∧ Is w' A seen ∧ (∀ z, z ∈ seen ↔ Rch (edges L.ws L.hs) s z) ∧ seen.length ≤ L.hs.length ∧ Below w.heap.size w w'
/-- the queue l, what is seen -/
structure FrR (W : World) (B : Nat) (gq off cap : Nat) (l seen : List Int) (sv : Value) (wr : World) : Prop where
  qu : Qu wr B gq off cap l
  own : wr.ownsRow B 3 1 sv seen.length (seen.map (Value.int .i64))
  sep : ∀ b, sv.ownBlock = some b → b ≠ gq
  bel : Below B W wr
theorem FrR.ext {W : World} {B gq off cap : Nat} {l seen : List Int} {sv : Value} {wr w' : World} (h : FrR W B gq off cap l seen sv wr) (hb : Below wr.heap.size wr w') (hB : B ≤ wr.heap.size) : FrR W B gq off cap l seen sv w' :=
  ⟨h.qu.ext hb, own_ext h.own hb, h.sep, Below.trans h.bel (Below.mono hb hB)⟩
def OutR (W : World) (B : Nat) (F : Int → List Int) (s : Int) (U : List Int) (sv lv : Value) (wr : World) (M : Nat) : Prop :=
  ∃ gq off cap l seen, lv = .slice (some ⟨gq, off, none⟩) l.length cap ∧ FrR W B gq off cap l seen sv wr ∧ Bfs F s U l seen M
/-- one is laid behind what is seen, and behind the queue -/
theorem FrR.push {W : World} {B gq off cap : Nat} {l seen : List Int} {sv : Value} {wr : World} (h : FrR W B gq off cap l seen sv wr) (k : Int) (hB : B ≤ wr.heap.size) (hl : l.length ≤ 2000) (hs : seen.length ≤ 2000) :
    ∃ sv' w4 g' off' cap' w5, (Builtin.append_ #[66, 66] 66 #[sv, .slice (some ⟨wr.heap.size, 0, none⟩) 1 1]).run Try.prog (wr.alloc (.cells #[.int .i64 k] 3)) = .ok sv' w4 ∧
      (Builtin.append_ #[66, 66] 66 #[.slice (some ⟨gq, off, none⟩) l.length cap, .slice (some ⟨w4.heap.size, 0, none⟩) 1 1]).run Try.prog (w4.alloc (.cells #[.int .i64 k] 3)) = .ok (.slice (some ⟨g', off', none⟩) (l.length + 1) cap') w5 ∧
      FrR W B g' off' cap' (l ++ [k]) (seen ++ [k]) sv' w5 ∧ ∃ A c, sv' = .slice A (seen.length + 1) c := by
  obtain ⟨i0, hi, hz0, hz1, hz2⟩ := info_parts (P := Try.prog) (e := 3) (z := .int .i64 0) (size := 1) (bytes := 8) (by kernel_rfl)
  have hA1 : Blk (wr.alloc (.cells #[.int .i64 k] 3)) wr.heap.size 3 #[.int .i64 k] := Blk.new _ _ _
  have own1 := h.own.alloc (.cells #[.int .i64 k] 3)
  have qu1 := h.qu.ext (w' := wr.alloc (.cells #[.int .i64 k] 3)) ((Below.refl _ _).alloc (Nat.le_refl _) _)
  have hz1' : (wr.alloc (.cells #[.int .i64 k] 3)).heap.size = wr.heap.size + 1 := by simp
  obtain ⟨sv', w4, hr, h2, h3, h4, h5⟩ := run_append_own_at (P := Try.prog) (w := wr.alloc (.cells #[.int .i64 k] 3)) B 66 66 3 i0 _ 1 8 Try.underlying66 hi hz0 hz1 hz2 rfl (by decide) sv seen.length (seen.map (.int .i64)) own1 ⟨wr.heap.size, 0, none⟩ 1 1 [.int .i64 k] rfl
    (by
      intro j u hj
      match j, hj with
      | 0, hj =>
        injection hj with hj
        subst hj
        exact hA1.cell 0) (by intro u hu; simp at hu; subst hu; rfl) (by unfold maxLen; omega) (by omega) (by omega)
  have hql := h.qu.lt
  have qu4 : Qu w4 B gq off cap l := qu1.kept h3 (fun _ e => h.sep gq e.symm rfl)
  have hA2 : Blk (w4.alloc (.cells #[.int .i64 k] 3)) w4.heap.size 3 #[.int .i64 k] := Blk.new _ _ _
  have hs4 := h3.size
  obtain ⟨g', off', cap', w5, hr5, hq5, hg5, hloc⟩ := (qu4.ext (w' := w4.alloc (.cells #[.int .i64 k] 3)) ((Below.refl _ _).alloc (Nat.le_refl _) _)).push2 hA2 66 (by omega) (by simp; omega)
  have own4 : w4.ownsRow B 3 1 sv' (seen ++ [k]).length ((seen ++ [k]).map (Value.int .i64)) := by simpa using h2
  have ownA := own4.alloc (.cells #[.int .i64 k] 3)
  have sep4 : ∀ b, sv'.ownBlock = some b → b ≠ gq := fun b hb => by
    rcases h5 with h5 | h5
    · rw [h5] at hb; exact h.sep b hb
    · rw [h5] at hb
      injection hb with hb
      omega
  have own5 : w5.ownsRow B 3 1 sv' (seen ++ [k]).length ((seen ++ [k]).map (Value.int .i64)) := by
    rcases hg5 with hg | ⟨_, hg⟩
    · exact ownA.kept hg (by cases e : sv'.ownBlock with
        | none => exact .inl rfl
        | some b => exact .inr (by simp))
    · exact ownA.kept hg (by
        cases e : sv'.ownBlock with
        | none => exact .inl rfl
        | some b =>
          refine .inr (fun hr => ?_)
          injection hr with hr
          exact sep4 b e hr)
  have sep5 : ∀ b, sv'.ownBlock = some b → b ≠ g' := fun b hb => by
    rcases hloc with e | e
    · rw [e]; exact sep4 b hb
    · have := (own4.lt b hb).2
      simp at e
      omega
  have bel1 : Below B W (wr.alloc (.cells #[.int .i64 k] 3)) := h.bel.alloc hB _
  have bel4 : Below B W w4 := bel1.grown h3 (by omega) (fun j hj => (own1.lt j hj).1)
  have belA : Below B W (w4.alloc (.cells #[.int .i64 k] 3)) := bel4.alloc (by omega) _
  have bel5 : Below B W w5 := by
    rcases hg5 with hg | ⟨_, hg⟩
    · exact belA.grown hg (by simp; omega) (fun j hj => by cases hj)
    · exact belA.grown hg (by simp; omega) (fun j hj => by injection hj with hj; rw [← hj]; exact h.qu.base)
  obtain ⟨A, c, e⟩ := own_slice own4
  refine ⟨sv', w4, g', off', cap', w5, hr, hr5, ⟨hq5, own5, sep5, bel5⟩, A, c, by simpa using e⟩
/-- what has been done of x's holds: of the waits before j all, of the wait j the holds before k -/
def Dn (L : Lk) (x : Int) (seen : List Int) (j k : Nat) : Prop := (∀ i o, i < j → L.ws[i]? = some o → o.s = x → ∀ p ∈ L.hs, agB o p = true → p.s ∈ seen) ∧ ∀ o, L.ws[j]? = some o → o.s = x → ∀ i p, i < k → L.hs[i]? = some p → agB o p = true → p.s ∈ seen
theorem Dn.grow {L : Lk} {x : Int} {seen more : List Int} {j k : Nat} (h : Dn L x seen j k) : Dn L x (seen ++ more) j k :=
  ⟨fun i o hi ho hs p hp ha => List.mem_append_left _ (h.1 i o hi ho hs p hp ha), fun o ho hs i p hi hp ha => List.mem_append_left _ (h.2 o ho hs i p hi hp ha)⟩
theorem Dn.start (L : Lk) (x : Int) (seen : List Int) : Dn L x seen 0 0 := ⟨fun i o hi => absurd hi (by omega), fun o _ _ i p hi => absurd hi (by omega)⟩
theorem Dn.next {L : Lk} {x : Int} {seen : List Int} {j k : Nat} (h : Dn L x seen j k) (hk : ∀ o, L.ws[j]? = some o → o.s = x → L.hs.length ≤ k) : Dn L x seen (j + 1) 0 := by
  refine ⟨fun i o hi ho hs p hp ha => ?_, fun o _ _ i p hi => absurd hi (by omega)⟩
  by_cases e : i = j
  · subst e
    obtain ⟨m, hm, e⟩ := List.getElem_of_mem hp
    exact h.2 o ho hs m p (by have := hk o ho hs; omega) (by rw [List.getElem?_eq_getElem hm, e]) ha
  · exact h.1 i o (by omega) ho hs p hp ha
theorem Dn.one {L : Lk} {x : Int} {seen : List Int} {j k : Nat} (h : Dn L x seen j k) {o p : Hd} (ho : L.ws[j]? = some o) (hp : L.hs[k]? = some p) (ha : agB o p = true → p.s ∈ seen) : Dn L x seen j (k + 1) := by
  refine ⟨h.1, fun o' ho' hs i p' hi hp' ha' => ?_⟩
  rw [ho] at ho'
  injection ho' with ho'
  subst ho'
  by_cases e : i = k
  · subst e
    rw [hp] at hp'
    injection hp' with hp'
    subst hp'
    exact ha ha'
  · exact h.2 o ho hs i p' (by omega) hp' ha'
theorem Dn.done {L : Lk} {x : Int} {seen : List Int} {j k : Nat} (h : Dn L x seen j k) (hj : L.ws.length ≤ j) : ∀ y ∈ edges L.ws L.hs x, y ∈ seen := by
  intro y hy
  unfold edges at hy
  rw [List.mem_flatMap] at hy
  obtain ⟨o, ho, hy⟩ := hy
  obtain ⟨ho, hs⟩ := List.mem_filter.1 ho
  obtain ⟨p, hp, rfl⟩ := List.mem_map.1 hy
  obtain ⟨hp, ha⟩ := List.mem_filter.1 hp
  obtain ⟨i, hi, e⟩ := List.getElem_of_mem ho
  exact h.1 i o (by omega) (by rw [List.getElem?_eq_getElem hi, e]) (by simpa using hs) p hp ha
/-- inside a round: x was taken off the queue's head -/
def InR (W : World) (B : Nat) (L : Lk) (s : Int) (U : List Int) (x : Int) (M : Nat) (sv lv : Value) (wr : World) (j k : Nat) : Prop :=
  ∃ gq off cap r seen, lv = .slice (some ⟨gq, off, none⟩) r.length cap ∧ FrR W B gq off cap r seen sv wr ∧ Bfs (edges L.ws L.hs) s U (x :: r) seen M ∧ Dn L x seen j k ∧ B ≤ wr.heap.size
set_option maxHeartbeats 4000000 in
set_option maxRecDepth 1000000 in
theorem from_ (L : Lk) (s : Int) (v : Value) (w : World) (hL : LkR w v L) (h1 : L.hs.length ≤ 1000) (h2 : L.ws.length ≤ 1000) :
    Calls Try.prog 32 #[v, .int .i64 s] w (FromP L s w) := by
  obtain ⟨A, n, c, A', n', c', rfl, e1, r1, e2, r2⟩ := hL
  have hn : n ≤ 1000 := by omega
  have hn' : n' ≤ 1000 := by omega
  have E1 := Lib.hid e1
  have E2 := Lib.hid e2
  clear e1 e2 h2
  have hUl : (L.hs.map Hd.s).length ≤ 1000 := by simpa using h1
  have HUL : Hid ((L.hs.map Hd.s).length = L.hs.length) := Lib.hid (by simp)
  clear h1
  obtain ⟨U, hU⟩ : ∃ U, L.hs.map Hd.s = U := ⟨_, rfl⟩
  rw [hU] at hUl HUL
  have HU := Lib.hid hU
  clear hU
  go_enter Try.func32, Try.ntmps32
  go_wp2_with fail
  obtain ⟨W, hW, hbW, B1, hWz⟩ : ∃ W, W = w.alloc (.cells #[.slice A n c, .slice A' n' c'] 40) ∧ Below w.heap.size w W ∧ Blk W w.heap.size 40 #[.slice A n c, .slice A' n' c'] ∧ W.heap.size = w.heap.size + 1 := ⟨_, rfl, (Below.refl _ _).alloc (Nat.le_refl _) _, Blk.new _ _ _, by simp⟩
  have r1 := r1.ext hbW
  have r2 := r2.ext hbW
  have h0 : FrR W (w.heap.size + 1) (w.heap.size + 1) 0 1 [s] [] (.slice none 0 0) (W.alloc (.cells #[.int .i64 s] 3)) :=
    ⟨Qu.one (blk_new_at _ _ _ _ hWz) _ (Nat.le_refl _), World.ownsRow_nil _ _ _ _, fun b hb => (by cases hb), (Below.refl _ _).alloc (by omega) _⟩
  have hWB : Hid (W.heap.size = w.heap.size + 1) := Lib.hid hWz
  have hWs : w.heap.size + 1 ≤ (W.alloc (.cells #[.int .i64 s] 3)).heap.size := by simp; omega
  rw [← hW]
  generalize W.alloc (.cells #[.int .i64 s] 3) = W0 at *
  clear hW hWz
  obtain ⟨B, hBe⟩ : ∃ B, w.heap.size + 1 = B := ⟨_, rfl⟩
  have hBw : w.heap.size < B := by omega
  rw [hBe] at h0 hWB hWs ⊢
  clear hBe
  go_loopw [5, 6] (fun sv lv wr => B ≤ wr.heap.size ∧ ∃ M, M ≤ U.length + 1 ∧ OutR W B (edges L.ws L.hs) s U sv lv wr M) (fun sv lv wr => lst (fun M => M ≤ U.length + 1 ∧ OutR W B (edges L.ws L.hs) s U sv lv wr M))
  case atStart => exact ⟨hWs, U.length + 1, Nat.le_refl _, _, _, _, _, _, rfl, h0, Bfs.start _ _ _⟩
  case round =>
    obtain ⟨hBr, hrel⟩ := hrel
    obtain ⟨⟨hMU, hM⟩, -⟩ := lst_spec hrel
    clear hrel h0 hWs
    obtain ⟨M, hMe⟩ : ∃ M, (lst fun M => M ≤ U.length + 1 ∧ OutR W B (edges L.ws L.hs) s U u5 u6 wr M) = M := ⟨_, rfl⟩
    rw [hMe] at hMU hM
    obtain ⟨gq, off, cap, l, seen, rfl, hV, hbf⟩ := hM
    have HME := Lib.hid hMe
    clear hMe
    obtain ⟨AS, cS, rfl⟩ := own_slice hV.own
    cases l with
    | nil =>
      go_wp2
      go_ret
      exact ⟨AS, cS, seen, rfl, is_of_own hV.own, hbf.done, by have := hbf.room; have := HUL.out; omega, Below.trans hbW (Below.mono hV.bel (by omega))⟩
    | cons x r =>
      have hnl := len_le hbf hMU
      obtain ⟨nl, hnle⟩ : ∃ nl, (x :: r).length = nl := ⟨_, rfl⟩
      have hn1 : 1 ≤ nl := by rw [← hnle]; simp
      have hn2 : nl ≤ 1001 := by omega
      have hd : decide (0 < (nl : Int)) = true := by simp; omega
      have hd2 : decide (1 ≤ (nl : Int)) = true := by simp; omega
      rw [hnle]
      have HN := Lib.hid hnle
      clear hnle hnl
      have hq0 : wr.cell? ⟨gq, off, none⟩ = some (.int .i64 x) := hV.qu.holds 0 x rfl
      obtain ⟨off2, hif, hqu2⟩ : ∃ off2, (if cap = 1 then some ({ block := gq, off := off } : Addr) else some { block := gq, off := off + 1 }) = some { block := gq, off := off2 } ∧ Qu wr B gq off2 (cap - 1) r := by
        by_cases hc1 : cap = 1
        · subst hc1
          have hr0 : r = [] := by
            have := hV.qu.le
            simp at this
            exact this
          subst hr0
          exact ⟨off, by simp, hV.qu.base, hV.qu.lt, Nat.le_refl _, fun j hj => absurd hj (by omega), fun i z hz => (by cases hz)⟩
        · exact ⟨off + 1, by simp [hc1], hV.qu.pop⟩
      have hle1 : (1 : Int) ≤ (nl : Int) := by omega
      go_wp2_with fail
      have hnr : r.length = nl - 1 := by rw [← HN.out]; simp
      have h2 : InR W B L s U x M (.slice AS seen.length cS) (.slice (some ⟨gq, off2, none⟩) (nl - 1) (cap - 1)) wr 0 0 := ⟨gq, off2, cap - 1, r, seen, by rw [hnr], ⟨hqu2, hV.own, hV.sep, hV.bel⟩, hbf, Dn.start _ _ _, hBr⟩
      have hd0 : decide (0 < nl) = true := by simp; omega
      rw [hd0]
      clear hV hbf hqu2 hif hq0 hd hd0 hd2 hle1
      rename World => wq
      go_loopw [5, 6, 8] (fun sv lv iv wq => ∃ j : Nat, iv = .int .i64 j ∧ j ≤ n' ∧ InR W B L s U x M sv lv wq j 0) (fun _ _ iv _ => n' - (intOf iv).toNat)
      case atStart => exact ⟨0, rfl, Nat.zero_le _, h2⟩
      case round =>
        obtain ⟨j, rfl, hj, gq, off, cap, r, seen, rfl, hV, hbf, hdn, hBr⟩ := hrel
        clear h2
        have hbW2 : Below W.heap.size W wr := by rw [hWB.out]; exact hV.bel
        have B1r := B1.ext hbW2
        have q0 := B1r.cell 0
        have q1 := B1r.cell 1
        obtain ⟨AS, cS, rfl⟩ := own_slice hV.own
        rcases Nat.lt_or_ge j n' with hlt | hge
        · have hdj : decide ((j : Int) < (n' : Int)) = true := by simp; omega
          obtain ⟨o, ho⟩ : ∃ o, L.ws[j]? = some o := ⟨_, List.getElem?_eq_getElem (by rw [E2.out]; exact hlt)⟩
          obtain ⟨gw, rfl, hgw⟩ := r2.some_ (by rw [E2.out]; omega)
          have HO := Lib.hid ho
          clear ho
          have hjn : (j : Int) < (n' : Int) := by omega
          go_wp2_with fail
          have h3 : InR W B L s U x M (.slice AS seen.length cS) (.slice (some ⟨gq, off, none⟩) r.length cap) wr j 0 := ⟨gq, off, cap, r, seen, rfl, hV, hbf, hdn, hBr⟩
          clear hV hbf hdn B1r q0 q1 hbW2
          rename World => wq
          go_loopw [5, 6, 9] (fun sv lv kv wq => ∃ k : Nat, kv = .int .i64 k ∧ k ≤ n ∧ InR W B L s U x M sv lv wq j k) (fun _ _ kv _ => n - (intOf kv).toNat)
          case atStart => exact ⟨0, rfl, Nat.zero_le _, h3⟩
          case round =>
            obtain ⟨k, rfl, hk, gq, off, cap, r, seen, rfl, hV, hbf, hdn, hBr⟩ := hrel
            clear h3
            have hbW2 : Below W.heap.size W wr := by rw [hWB.out]; exact hV.bel
            have B1r := B1.ext hbW2
            have q0 := B1r.cell 0
            have q1 := B1r.cell 1
            have F2 := (r2.ext hbW2).at_ HO.out
            obtain ⟨AS, cS, rfl⟩ := own_slice hV.own
            have next : ((k < n) → o.s ≠ x) → InR W B L s U x M (.slice AS seen.length cS) (.slice (some ⟨gq, off, none⟩) r.length cap) wr (j + 1) 0 := fun h => ⟨gq, off, cap, r, seen, rfl, hV, hbf, hdn.next (fun o' ho' hs' => by
              have e := HO.out
              rw [ho'] at e
              injection e with e
              subst e
              have := E1.out
              rcases Nat.lt_or_ge k n with hl | hg
              · exact absurd hs' (h hl)
              · omega), hBr⟩
            rcases Nat.lt_or_ge k n with hlt2 | hge2
            · have hdk : decide ((k : Int) < (n : Int)) = true := by simp; omega
              cases he : (o.s == x) with
              | false =>
                have nx := next (fun _ => by simpa using he)
                clear next hV hbf hdn
                go_wp2
                go_roundw
                case rel => exact ⟨j + 1, by go_num, by omega, nx⟩
                case measure => simp [intOf]; omega
              | true =>
                clear next
                obtain ⟨p, hp⟩ : ∃ p, L.hs[k]? = some p := ⟨_, List.getElem?_eq_getElem (by rw [E1.out]; exact hlt2)⟩
                obtain ⟨gh, rfl, hgh⟩ := r1.some_ (by rw [E1.out]; omega)
                have hkn : (k : Int) < (n : Int) := by omega
                have HP := Lib.hid hp
                clear hp
                have F1 := (r1.ext hbW2).at_ HP.out
                have hxs : o.s = x := by simpa using he
                have HXS := Lib.hid hxs
                clear hxs
                have hlen : (x :: r).length ≤ 1001 := by have := len_le hbf hMU; omega
                have hsl : seen.length ≤ 1000 := by have := hbf.room; omega
                go_wp2_with fail
                have D := fun w' (h : Below wr.heap.size wr.drew w') => (show (w'.cell? ⟨w.heap.size, 0, none⟩ = some (.slice (some ⟨gh, 0, none⟩) n c) ∧ w'.cell? ⟨w.heap.size, 1, none⟩ = some (.slice (some ⟨gw, 0, none⟩) n' c')) ∧ (w'.cell? ⟨gw, j * 3, none⟩ = some (.int .i64 o.s) ∧ w'.cell? ⟨gw, j * 3 + 1, none⟩ = some (.string o.t) ∧ w'.cell? ⟨gw, j * 3 + 2, none⟩ = some (.bool o.x)) ∧ w'.cell? ⟨gh, k * 3, none⟩ = some (.int .i64 p.s) ∧ w'.cell? ⟨gh, k * 3 + 1, none⟩ = some (.string p.t) ∧ w'.cell? ⟨gh, k * 3 + 2, none⟩ = some (.bool p.x) from
                  have e := Below.trans hbW2.drew (Below.mono h hbW2.size)
                  ⟨⟨(B1.ext e).cell 0, (B1.ext e).cell 1⟩, (r2.ext e).at_ HO.out, (r1.ext e).at_ HP.out⟩)
                refine wp_region_one [(0, true), (1, true), (2, true), (3, true), (4, true), (5, true), (6, true), (7, true), (8, true), (9, true), (10, false), (11, true), (12, true), (13, true), (14, false), (15, true), (16, true)] (by kernel_rfl) (by kernel_rfl) (by kernel_rfl) (by decide) ?_
                repeat ((with_reducible show wpPerm _ _ _ _ ((_, true) :: _) _ _); (first | (refine wpPerm_on (v := ?_) rfl rfl (wanted_free rfl) (fun w' hS => ?_) ?_; rotate_left; (focus (go_simp; (try with_reducible rfl); done)); try simp only [List.setIfInBounds_toArray, List.set_cons_zero, List.set_cons_succ]) | (refine wpPerm_on (v := ?_) rfl rfl (wanted_yes rfl rfl rfl) (fun w' hS => ?_) ?_; rotate_left; (focus (go_simp; (try with_reducible rfl); done)); try simp only [List.setIfInBounds_toArray, List.set_cons_zero, List.set_cons_succ]) | (refine wpPerm_off rfl rfl (wanted_no rfl rfl rfl) ?_; try simp only [List.setIfInBounds_toArray, List.set_cons_zero, List.set_cons_succ]) | (refine wpPerm_off rfl rfl (wanted_undef rfl rfl rfl) ?_; try simp only [List.setIfInBounds_toArray, List.set_cons_zero, List.set_cons_succ])))
                clear D
                refine wpPerm_do rfl (wanted_free rfl) (fun K hK => ?_); go_simp
                refine (rAgainst_ o p _).mono ?_
                rintro e w2 ⟨rfl, hb2⟩
                refine hK.out _ _ hb2 ?_
                clear hK K
                have hbd : Below wr.heap.size wr w2 := Below.trans (Below.refl _ _).drew hb2
                have hV := hV.ext hbd hBr
                have hB2 : B ≤ w2.heap.size := Nat.le_trans hBr hbd.size
                have HIS := is_of_own hV.own
                clear hbd q0 q1 F1 F2 hbW2 B1r
                cases ha : agB o p with
                | false =>
                  have h4 : InR W B L s U x M (.slice AS seen.length cS) (.slice (some ⟨gq, off, none⟩) r.length cap) w2 j (k + 1) := ⟨gq, off, cap, r, seen, rfl, hV, hbf, hdn.one HO.out HP.out (fun h => by rw [ha] at h; cases h), hB2⟩
                  clear hV hbf hdn HIS
                  repeat ((with_reducible show wpPerm _ _ _ _ ((_, true) :: _) _ _); (first | (refine wpPerm_on (v := ?_) rfl rfl (wanted_free rfl) (fun w' hS => ?_) ?_; rotate_left; (focus (go_simp; (try with_reducible rfl); done)); try simp only [List.setIfInBounds_toArray, List.set_cons_zero, List.set_cons_succ]) | (refine wpPerm_on (v := ?_) rfl rfl (wanted_yes rfl rfl rfl) (fun w' hS => ?_) ?_; rotate_left; (focus (go_simp; (try with_reducible rfl); done)); try simp only [List.setIfInBounds_toArray, List.set_cons_zero, List.set_cons_succ]) | (refine wpPerm_off rfl rfl (wanted_no rfl rfl rfl) ?_; try simp only [List.setIfInBounds_toArray, List.set_cons_zero, List.set_cons_succ]) | (refine wpPerm_off rfl rfl (wanted_undef rfl rfl rfl) ?_; try simp only [List.setIfInBounds_toArray, List.set_cons_zero, List.set_cons_succ])))
                  refine wpPerm_no rfl (wanted_no rfl rfl rfl) hb2 ?_
                  clear hb2
                  go_simp
                  repeat ((with_reducible show wpPerm _ _ _ _ ((_, true) :: _) _ _); (first | (refine wpPerm_on (v := ?_) rfl rfl (wanted_free rfl) (fun w' hS => ?_) ?_; rotate_left; (focus (go_simp; (try with_reducible rfl); done)); try simp only [List.setIfInBounds_toArray, List.set_cons_zero, List.set_cons_succ]) | (refine wpPerm_on (v := ?_) rfl rfl (wanted_yes rfl rfl rfl) (fun w' hS => ?_) ?_; rotate_left; (focus (go_simp; (try with_reducible rfl); done)); try simp only [List.setIfInBounds_toArray, List.set_cons_zero, List.set_cons_succ]) | (refine wpPerm_off rfl rfl (wanted_no rfl rfl rfl) ?_; try simp only [List.setIfInBounds_toArray, List.set_cons_zero, List.set_cons_succ]) | (refine wpPerm_off rfl rfl (wanted_undef rfl rfl rfl) ?_; try simp only [List.setIfInBounds_toArray, List.set_cons_zero, List.set_cons_succ])))
                  refine wpPerm_done ?_
                  go_wp2
                  go_roundw
                  case rel => exact ⟨k + 1, by go_num, by omega, h4⟩
                  case measure => simp [intOf]; omega
                | true =>
                  repeat ((with_reducible show wpPerm _ _ _ _ ((_, true) :: _) _ _); (first | (refine wpPerm_on (v := ?_) rfl rfl (wanted_free rfl) (fun w' hS => ?_) ?_; rotate_left; (focus (go_simp; (try with_reducible rfl); done)); try simp only [List.setIfInBounds_toArray, List.set_cons_zero, List.set_cons_succ]) | (refine wpPerm_on (v := ?_) rfl rfl (wanted_yes rfl rfl rfl) (fun w' hS => ?_) ?_; rotate_left; (focus (go_simp; (try with_reducible rfl); done)); try simp only [List.setIfInBounds_toArray, List.set_cons_zero, List.set_cons_succ]) | (refine wpPerm_off rfl rfl (wanted_no rfl rfl rfl) ?_; try simp only [List.setIfInBounds_toArray, List.set_cons_zero, List.set_cons_succ]) | (refine wpPerm_off rfl rfl (wanted_undef rfl rfl rfl) ?_; try simp only [List.setIfInBounds_toArray, List.set_cons_zero, List.set_cons_succ])))
                  refine wpPerm_do rfl (wanted_yes rfl rfl rfl) (fun K hK => ?_); go_simp
                  refine (in_ seen AS seen.length cS p.s _ rfl (by omega) HIS).mono ?_
                  rintro e w3 ⟨rfl, rfl⟩
                  refine hK.out _ _ hb2 ?_
                  clear hK K hb2 HIS
                  cases hc : seen.contains p.s with
                  | true =>
                    have h4 : InR W B L s U x M (.slice AS seen.length cS) (.slice (some ⟨gq, off, none⟩) r.length cap) w2 j (k + 1) := ⟨gq, off, cap, r, seen, rfl, hV, hbf, hdn.one HO.out HP.out (fun _ => by simpa using hc), hB2⟩
                    clear hV hbf hdn
                    repeat ((with_reducible show wpPerm _ _ _ _ ((_, true) :: _) _ _); (first | (refine wpPerm_on (v := ?_) rfl rfl (wanted_free rfl) (fun w' hS => ?_) ?_; rotate_left; (focus (go_simp; (try with_reducible rfl); done)); try simp only [List.setIfInBounds_toArray, List.set_cons_zero, List.set_cons_succ]) | (refine wpPerm_on (v := ?_) rfl rfl (wanted_yes rfl rfl rfl) (fun w' hS => ?_) ?_; rotate_left; (focus (go_simp; (try with_reducible rfl); done)); try simp only [List.setIfInBounds_toArray, List.set_cons_zero, List.set_cons_succ]) | (refine wpPerm_off rfl rfl (wanted_no rfl rfl rfl) ?_; try simp only [List.setIfInBounds_toArray, List.set_cons_zero, List.set_cons_succ]) | (refine wpPerm_off rfl rfl (wanted_undef rfl rfl rfl) ?_; try simp only [List.setIfInBounds_toArray, List.set_cons_zero, List.set_cons_succ])))
                    refine wpPerm_done ?_
                    go_wp2
                    go_roundw
                    case rel => exact ⟨k + 1, by go_num, by omega, h4⟩
                    case measure => simp [intOf]; omega
                  | false =>
                    have hn' : p.s ∉ seen := by simpa using hc
                    obtain ⟨sv', w4, g', off', cap', w5, hr1, hr2, hV5, A5, c5, rfl⟩ := hV.push p.s hB2 (by have := hlen; simp at this; omega) (by omega)
                    have hbf5 := hbf.add (k := p.s) (List.mem_cons_self) (mem_edges (List.mem_of_getElem? HO.out) HXS.out (List.mem_of_getElem? HP.out) ha) (by rw [← HU.out]; exact List.mem_map.2 ⟨p, List.mem_of_getElem? HP.out, rfl⟩) hn'
                    have h4 : InR W B L s U x M (.slice A5 (seen.length + 1) c5) (.slice (some ⟨g', off', none⟩) (r.length + 1) cap') w5 j (k + 1) := ⟨g', off', cap', r ++ [p.s], seen ++ [p.s], by simp, by simpa using hV5, hbf5, hdn.grow.one HO.out HP.out (fun _ => by simp), by
                      have := hV5.qu.base
                      have := hV5.qu.lt
                      omega⟩
                    clear hV hV5 hbf hbf5 hdn
                    repeat ((with_reducible show wpPerm _ _ _ _ ((_, true) :: _) _ _); (first | (refine wpPerm_on (v := ?_) rfl rfl (wanted_free rfl) (fun w' hS => ?_) ?_; rotate_left; (focus (go_simp; (try with_reducible rfl); done)); try simp only [List.setIfInBounds_toArray, List.set_cons_zero, List.set_cons_succ]) | (refine wpPerm_on (v := ?_) rfl rfl (wanted_yes rfl rfl rfl) (fun w' hS => ?_) ?_; rotate_left; (focus (go_simp; (try with_reducible rfl); done)); try simp only [List.setIfInBounds_toArray, List.set_cons_zero, List.set_cons_succ]) | (refine wpPerm_off rfl rfl (wanted_no rfl rfl rfl) ?_; try simp only [List.setIfInBounds_toArray, List.set_cons_zero, List.set_cons_succ]) | (refine wpPerm_off rfl rfl (wanted_undef rfl rfl rfl) ?_; try simp only [List.setIfInBounds_toArray, List.set_cons_zero, List.set_cons_succ])))
                    refine wpPerm_done ?_
                    go_wp2_with (at_builtin; first | refine Lib.wpList_append_run _ rfl _ _ _ _ rfl _ _ rfl rfl _ _ hr1 ?_ | refine Lib.wpList_append_run _ rfl _ _ _ _ rfl _ _ rfl rfl _ _ hr2 ?_)
                    go_roundw
                    case rel => exact ⟨k + 1, by go_num, by omega, h4⟩
                    case measure => simp [intOf]; omega
            · have hdk : decide ((k : Int) < (n : Int)) = false := by simp; omega
              have nx := next (fun h => by omega)
              clear next hV hbf hdn
              go_wp2
              go_roundw
              case rel => exact ⟨j + 1, by go_num, by omega, nx⟩
              case measure => simp [intOf]; omega
        · have hdj : decide ((j : Int) < (n' : Int)) = false := by simp; omega
          have hdone := hdn.done (by have := E2.out; omega)
          obtain ⟨hbp, hM1⟩ := hbf.pop hdone
          have hnew : OutR W B (edges L.ws L.hs) s U (.slice AS seen.length cS) (.slice (some ⟨gq, off, none⟩) r.length cap) wr (M - 1) := ⟨gq, off, cap, r, seen, rfl, hV, hbp⟩
          clear hV hbp hbf hdn
          go_wp2
          refine ⟨⟨hBr, M - 1, by omega, hnew⟩, ?_⟩
          have hle := (lst_spec (p := fun M => M ≤ U.length + 1 ∧ OutR W B (edges L.ws L.hs) s U (.slice AS seen.length cS) (.slice (some ⟨gq, off, none⟩) r.length cap) wr M) ⟨M - 1, by omega, hnew⟩).2 (M - 1) ⟨by omega, hnew⟩
          have hme := HME.out
          rw [HN.out] at hme
          rw [hme]
          exact Nat.lt_of_le_of_lt hle (by omega)
end Go.Proofs.Ytlfonenjgchklaa.lk
