/- Slices of values of one's own: stores into them, what is appended to them; a table of one row. -/
import Derived.Test.YtnlmbjmgmofeiaaTw
namespace Go.Proofs.Ytnlmbjmgmofeiaa.tb
open Go.ChangeShapes Go.WideShapes Go.ChangeAt Go.RowKit Go.Proofs.Ytnlmbjmgmofeiaa.lib Go.Proofs.Ytnlmbjmgmofeiaa.val
set_option linter.unusedVariables false

theorem own_some {w : World} {base n c k : Nat} {e : TypeId} {A : Option Addr} {xs : List Value} (h : w.ownsRow base e k (.slice A n c) n xs) (hn : 0 < n) : ∃ g, A = some ⟨g, 0, none⟩ ∧ base ≤ g ∧ g < w.heap.size := by
  have h0 := h
  rcases h.2 with ⟨h', _⟩ | ⟨g, cap, cur, h', hb, _⟩
  · simp at h'; omega
  · simp only [Value.slice.injEq] at h'
    obtain ⟨rfl, _, _⟩ := h'
    exact ⟨g, rfl, h0.lt g rfl⟩
theorem cellsV_set : ∀ (l : List V) (i : Nat) (v : V), i < l.length → (((cellsV l).set (i * 3) (.int .i64 v.k)).set (i * 3 + 1) (.int .i64 v.n)).set (i * 3 + 2) (.string v.s) = cellsV (l.set i v)
  | [], i, v, h => by simp at h
  | c :: r, 0, v, h => by
    have e : cellsV (c :: r) = encV c ++ cellsV r := rfl
    have e2 : cellsV ((c :: r).set 0 v) = encV v ++ cellsV r := rfl
    rw [e, e2]
    rfl
  | c :: r, i + 1, v, h => by
    have ih := cellsV_set r i v (by simpa using h)
    have e : cellsV (c :: r) = encV c ++ cellsV r := rfl
    have e2 : cellsV ((c :: r).set (i + 1) v) = encV c ++ cellsV (r.set i v) := rfl
    have hk : (i + 1) * 3 = i * 3 + 3 := by omega
    rw [e, e2, ← ih, hk, List.set_append_right _ _ (by rw [kV]; omega), List.set_append_right _ _ (by rw [kV]; omega), List.set_append_right _ _ (by rw [kV]; omega), kV]
    congr 1
/-- a value of one's own row is set -/
theorem own_set {w : World} {base n c g : Nat} {e : TypeId} {l : List V} (h : w.ownsRow base e 3 (.slice (some ⟨g, 0, none⟩) n c) n (cellsV l)) (i : Nat) (hi : i < l.length) (v : V) :
    ∃ w', w' = ((w.setCell ⟨g, i * 3, none⟩ (.int .i64 v.k)).setCell ⟨g, i * 3 + 1, none⟩ (.int .i64 v.n)).setCell ⟨g, i * 3 + 2, none⟩ (.string v.s) ∧
      w'.ownsRow base e 3 (.slice (some ⟨g, 0, none⟩) n c) n (cellsV (l.set i v)) ∧ w.grownBy w' (some g) ∧ ∀ B, B ≤ g → Below B w w' := by
  obtain ⟨h1, g1⟩ := h.stored (i * 3) (.int .i64 v.k)
  obtain ⟨h2, g2⟩ := h1.stored (i * 3 + 1) (.int .i64 v.n)
  obtain ⟨h3, g3⟩ := h2.stored (i * 3 + 2) (.string v.s)
  refine ⟨_, rfl, by rw [← cellsV_set l i v hi]; exact h3, grown_trans (grown_trans g1 g2) g3, fun B hB => ?_⟩
  have hg := grown_trans (grown_trans g1 g2) g3
  exact ⟨hg.os, hg.tape, hg.output, hg.size, fun k hk => by
    rw [Below.heap_setCell _ _ _ _ (by simp; omega), Below.heap_setCell _ _ _ _ (by simp; omega), Below.heap_setCell _ _ _ _ (by simp; omega)]⟩
/-- its cells, none of them frozen -/
theorem own_six {w : World} {base n c g : Nat} {e : TypeId} {l : List V} (h : w.ownsRow base e 3 (.slice (some ⟨g, 0, none⟩) n c) n (cellsV l)) {i : Nat} {v : V} (hi : l[i]? = some v) :
    (w.cell? ⟨g, i * 3, none⟩ = some (.int .i64 v.k) ∧ w.cell? ⟨g, i * 3 + 1, none⟩ = some (.int .i64 v.n) ∧ w.cell? ⟨g, i * 3 + 2, none⟩ = some (.string v.s)) ∧
    w.frozen? ⟨g, i * 3, none⟩ = false ∧ w.frozen? ⟨g, i * 3 + 1, none⟩ = false ∧ w.frozen? ⟨g, i * 3 + 2, none⟩ = false := by
  have h0 := (Vs.of_own h).at_ hi
  simp only [Nat.zero_add] at h0
  exact ⟨h0, h.frozenAt _, h.frozenAt _, h.frozenAt _⟩
/-- a literal of no values -/
theorem own_empty {w : World} {g base size : Nat} {e : TypeId} (h : w.heap.size = g) (hb : base ≤ g) : (w.alloc (.cells #[] e)).ownsRow base e size (.slice (some ⟨g, 0, none⟩) 0 0) 0 [] := by
  subst h
  exact World.ownsRow_made w #[] 0 hb (Nat.zero_le _) (by simp)
theorem own_len {w : World} {base n c : Nat} {e : TypeId} {A : Option Addr} {l : List V} (h : w.ownsRow base e 3 (.slice A n c) n (cellsV l)) : l.length = n := (Vs.of_own h).2

/-! ### a table of one row -/
theorem put_nil {cs : List Col} {key : Nat} {r : List V} (h : fitsL cs r = 0) : putL cs key [] r = (0, [r]) := by
  unfold putL
  rw [if_neg (by simpa using h)]
  rfl
theorem atL_self {key : Nat} (r : List V) : atL key (keyOf key r) [r] = 0 := by
  unfold atL belowB
  rw [List.takeWhile_cons, cmpV_refl]; rfl
theorem put_again {cs : List Col} {key : Nat} {r : List V} (h : fitsL cs r = 0) : putL cs key [r] r = (7, [r]) := by
  unfold putL
  rw [if_neg (by simpa using h)]
  have e : isL key (keyOf key r) [r] = true := by
    unfold isL
    rw [atL_self]
    simp [cmpV_refl]
  rw [if_pos e]
theorem put_bad {cs : List Col} {key : Nat} {rows : List (List V)} {r : List V} {e : Int} (h : fitsL cs r = e) (he : e ≠ 0) : putL cs key rows r = (e, rows) := by
  unfold putL
  rw [if_pos (by rw [h]; exact he), h]
theorem one_ok {S : Sch} {r : List V} {kv : V} (hS : SOk S) (h : RowI S r kv) : Ok S.cols S.key [r] := by
  have := putL_ok hS.ok0 r
  rwa [put_nil h.fit] at this
theorem fits_longer {cs : List Col} {r : List V} (h : fitsL cs r = 0) (v : V) : fitsL cs (r ++ [v]) = 1 := by
  have := fits_len h
  unfold fitsL
  rw [if_pos (by simp; omega)]
theorem fitsGo_set : ∀ (cs : List Col) (r : List V) (i : Nat) (v : V) (c : Col) (e : Int), fitsGo cs r = 0 → cs[i]? = some c → i < r.length → e ≠ 0 → (∀ d s, fitsGo (c :: d) (v :: s) = e) → fitsGo cs (r.set i v) = e
  | [], r, i, v, c, e, _, h, _, _, _ => by cases h
  | c :: cs, [], i, v, d, e, _, _, h, _, _ => by simp at h
  | c :: cs, u :: r, 0, v, d, e, h, hc, hi, he, hv => by
    injection hc with hc
    subst hc
    exact hv cs r
  | c :: cs, u :: r, i + 1, v, d, e, h, hc, hi, he, hv => by
    rw [fitsGo] at h
    show fitsGo (c :: cs) (u :: r.set i v) = e
    rw [fitsGo]
    by_cases h1 : vchk u ≠ 0
    · rw [if_pos h1] at h; exact absurd h h1
    rw [if_neg h1] at h ⊢
    by_cases h2 : u.k = 0 ∧ c.null = false
    · rw [if_pos h2] at h; cases h
    rw [if_neg h2] at h ⊢
    by_cases h3 : u.k ≠ 0 ∧ u.k ≠ c.kind
    · rw [if_pos h3] at h; cases h
    rw [if_neg h3] at h ⊢
    exact fitsGo_set cs r i v d e h hc (by simpa using hi) he hv
theorem fits_set {S : Sch} {r : List V} {kv : V} (hS : SOk S) (h : RowI S r kv) (v : V) (e : Int) (he : e ≠ 0) (hv : ∀ c, c.null = false → ∀ d s, fitsGo (c :: d) (v :: s) = e) : fitsL S.cols (r.set S.key v) = e := by
  have hl := h.len
  have hk := hS.key
  have hf := h.fit
  unfold fitsL at hf ⊢
  rw [if_neg (by omega)] at hf
  rw [if_neg (by simp; omega)]
  have hc : S.cols[S.key]? = some (S.cols[S.key]'hk) := List.getElem?_eq_getElem hk
  exact fitsGo_set _ _ _ _ _ _ hf hc (by omega) he (hv _ (hS.kn _ hc))
theorem nine_chk : vchk ⟨9, 0, ByteArray.empty⟩ = 3 := by decide +kernel
theorem fits_null {S : Sch} {r : List V} {kv : V} (hS : SOk S) (h : RowI S r kv) : fitsL S.cols (r.set S.key zV) = 13 :=
  fits_set hS h zV 13 (by decide) (fun c hc d s => by
    rw [fitsGo, if_neg (by rw [zV_chk]; decide), if_pos ⟨rfl, hc⟩])
theorem fits_nine {S : Sch} {r : List V} {kv : V} (hS : SOk S) (h : RowI S r kv) : fitsL S.cols (r.set S.key ⟨9, 0, ByteArray.empty⟩) = 3 :=
  fits_set hS h ⟨9, 0, ByteArray.empty⟩ 3 (by decide) (fun c hc d s => by
    rw [fitsGo, nine_chk, if_pos (by decide)])
theorem small_set {r : List V} (h : Small r) (i : Nat) (v : V) (hv : v.s.size ≤ maxLen) : Small (r.set i v) := fun u hu => by
  rcases List.mem_or_eq_of_mem_set hu with h1 | rfl
  · exact h u h1
  · exact hv
theorem small_snoc {r : List V} (h : Small r) (v : V) (hv : v.s.size ≤ maxLen) : Small (r ++ [v]) := fun u hu => by
  rcases List.mem_append.1 hu with h1 | h1
  · exact h u h1
  · rw [List.mem_singleton] at h1; rw [h1]; exact hv
theorem take_nil {key : Nat} {kv : V} : takeL key [] kv = (2, []) := rfl
theorem rowL_nil {key : Nat} {kv : V} : rowL key [] kv = [] := rfl
end Go.Proofs.Ytnlmbjmgmofeiaa.tb
