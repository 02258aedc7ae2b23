/- ParseDeep, plain: sums of ones in brackets. -/
import Derived.Test.YtfnceamkephpjaaGreatMP16
import Derived.Test.YtfnceamkephpjaaGreatNumsPlain
namespace Go.Proofs.YtfnceamkephpjaaGreat.pg
open Go.Proofs.YtfnceamkephpjaaGreat.lx
set_option linter.unusedVariables false

def lpW : Wd := ⟨4, 0, [40]⟩
def rpW : Wd := ⟨4, 0, [41]⟩
def plW : Wd := ⟨4, 0, [43]⟩
def onW : Wd := ⟨2, 1, []⟩
/-- what may stand behind a whole expression -/
def Clo (W : List Wd) (p : Pp) : Prop := cur W p = endW ∨ cur W p = rpW
theorem clo_at {W : List Wd} {p : Pp} (h : Clo W p) (ops : Ops) (ho : ops.find? (fun x => x.1 == [41]) = none) : opAt W ops p = none := by
  unfold opAt
  rcases h with h | h
  · rw [h]; rfl
  · rw [h]
    show (if ((4 : Int) = 1 ∨ (4 : Int) = 4) then (ops.find? (fun x => x.1 == [41])).map (·.2) else none) = none
    rw [ho]; rfl
theorem clo_is {W : List Wd} {p : Pp} (h : Clo W p) (s : List UInt8) (hs : ([41] == s) = false) : okIs W s p = false := by
  unfold okIs
  rcases h with h | h
  · rw [h]; rfl
  · rw [h]
    show (true && ([41] == s)) = false
    rw [hs]; rfl
theorem loop_clo {W : List Wd} {sub : Sub} {ops : Ops} {n : Nat} {a : Int} {B : Bs} (h : Clo W B.p) (ho : ops.find? (fun x => x.1 == [41]) = none) : loopP W sub ops n a B = (a, B) := by
  cases n with
  | zero => rfl
  | succ n => exact loop_miss (clo_at h ops ho)
theorem pairs_clo {W : List Wd} {sub : Sub} {ops : Ops} {a : Int} {B q : Bs} (hs : sub B = (a, q)) (h : Clo W q.p) (ho : ops.find? (fun x => x.1 == [41]) = none) : pairsP W sub ops B = (a, q) := by
  unfold pairsP
  rw [hs]
  exact loop_clo h ho
/-- from the sum up to the whole -/
theorem up {W : List Wd} {f : Nat} {B q : Bs} {a : Int} (h : pr W f 4 B = (a, q)) (hc : Clo W q.p) (hn : okIs W [110, 111, 116] B.p = false) : pr W (f + 4) 0 B = (a, q) := by
  have h3 : pr W (f + 1) 3 B = (a, q) := by
    unfold pr cmpP
    rw [h]
    show (if okIs W [105, 115] q.p = true then _ else _) = _
    rw [clo_is hc _ rfl, if_neg (by simp)]
    have : opS W cmps q.p = none := by
      unfold opS
      rcases hc with hc | hc
      · rw [hc]; rfl
      · rw [hc]; rfl
    rw [this]
  have h2 : pr W (f + 2) 2 B = (a, q) := by
    unfold pr preP
    rw [hn, if_neg (by simp)]
    exact h3
  have h1 : pr W (f + 3) 1 B = (a, q) := by
    unfold pr
    exact pairs_clo h2 hc rfl
  unfold pr
  exact pairs_clo h1 hc rfl
/-- from what stands by itself up to the sum -/
theorem up1 {W : List Wd} {f : Nat} {B q : Bs} {a : Int} (h : pr W f 7 B = (a, q)) (hc : opAt W [([42], 16)] q.p = none) (hn : okIs W [45] B.p = false) : pr W (f + 2) 5 B = (a, q) := by
  have h6 : pr W (f + 1) 6 B = (a, q) := by
    unfold pr preP
    rw [hn, if_neg (by simp)]
    exact h
  unfold pr pairsP
  rw [h6]
  show loopP W _ _ W.length a q = _
  cases W.length with
  | zero => rfl
  | succ n => exact loop_miss hc
theorem cur0 {W : List Wd} {i : Nat} {x : Wd} (h : W[i]? = some x) : cur W ⟨i, 0⟩ = x := by
  unfold cur wAt
  rw [if_pos rfl]
  show (W[i]?).getD endW = x
  rw [h]; rfl
theorem cur_err {W : List Wd} {p : Pp} (h : p.err ≠ 0) : cur W p = endW := by
  unfold cur
  rw [if_neg h]
/-- a number by itself -/
theorem num7 {W : List Wd} {f i : Nat} {e : List Nd} (h : W[i]? = some onW) : pr W (f + 1) 7 ⟨⟨i, 0⟩, e⟩ = putP (ndV 2 1 []) ⟨⟨i + 1, 0⟩, e⟩ := by
  show oneP W (pr W f 0) ⟨⟨i, 0⟩, e⟩ = _
  unfold oneP
  rw [show cur W (⟨⟨i, 0⟩, e⟩ : Bs).p = onW from cur0 h]
  rfl
theorem num_is {W : List Wd} {i : Nat} (h : W[i]? = some onW) (s : List UInt8) : okIs W s ⟨i, 0⟩ = false := by
  unfold okIs
  rw [cur0 h]; rfl
/-- words that are ones with plus between -/
structure Ones (W : List Wd) (i n : Nat) (x : Wd) : Prop where
  plus : ∀ j, j < n → W[i + 2 * j]? = some plW
  one : ∀ j, j < n → W[i + 2 * j + 1]? = some onW
  stop : W[i + 2 * n]? = some x
theorem star_pl {W : List Wd} {i : Nat} {x : Wd} (h : W[i]? = some x) (hx : x = plW ∨ x = rpW ∨ x = endW) : opAt W [([42], 16)] ⟨i, 0⟩ = none := by
  unfold opAt
  rw [cur0 h]
  rcases hx with rfl | rfl | rfl <;> rfl
theorem err_at {W : List Wd} {p : Pp} (h : p.err ≠ 0) (ops : Ops) : opAt W ops p = none := by
  unfold opAt
  rw [cur_err h]; rfl
theorem Ones.head {W : List Wd} {i n : Nat} {x : Wd} (h : Ones W i n x) : ∃ y, W[i]? = some y ∧ (y = plW ∨ y = x) := by
  cases n with
  | zero => exact ⟨x, by simpa using h.stop, .inr rfl⟩
  | succ n => exact ⟨plW, by simpa using h.plus 0 (by omega), .inl rfl⟩
theorem Ones.tail {W : List Wd} {i n : Nat} {x : Wd} (h : Ones W i (n + 1) x) : Ones W (i + 2) n x :=
  ⟨fun j hj => by have := h.plus (j + 1) (by omega); rwa [show i + 2 * (j + 1) = i + 2 + 2 * j by omega] at this,
   fun j hj => by have := h.one (j + 1) (by omega); rwa [show i + 2 * (j + 1) + 1 = i + 2 + 2 * j + 1 by omega] at this,
   by have := h.stop; rwa [show i + 2 * (n + 1) = i + 2 + 2 * n by omega] at this⟩
/-- a number of the row, at the product's level -/
theorem part5 {W : List Wd} {f i n : Nat} {x : Wd} {e : List Nd} (h : W[i]? = some onW) (ht : Ones W (i + 1) n x) (hx : x = rpW ∨ x = endW) : pr W (f + 3) 5 ⟨⟨i, 0⟩, e⟩ = putP (ndV 2 1 []) ⟨⟨i + 1, 0⟩, e⟩ := by
  have h7 := num7 (f := f) (e := e) h
  obtain ⟨⟨a, q⟩, hq⟩ : ∃ X, putP (ndV 2 1 []) ⟨⟨i + 1, 0⟩, e⟩ = X := ⟨_, rfl⟩
  rw [hq] at h7 ⊢
  refine up1 h7 ?_ (num_is h _)
  unfold putP at hq
  split at hq
  · injection hq with _ hq
    subst hq
    exact err_at (show (4 : Int) ≠ 0 by decide) _
  · injection hq with _ hq
    subst hq
    obtain ⟨y, hy, hyx⟩ := ht.head
    exact star_pl hy (by rcases hyx with rfl | rfl; exact .inl rfl; exact .inr hx)
def sumOps : Ops := [([43], 14), ([45], 15)]
theorem plus_at {W : List Wd} {i : Nat} (h : W[i]? = some plW) : opAt W sumOps ⟨i, 0⟩ = some 14 := by
  unfold opAt
  rw [cur0 h]; rfl
/-- the row: all of it, or too many -/
inductive RowEnd (i : Nat) (t n : Nat) (r : Int × Bs) : Prop
  | all (h : t + n ≤ 29) (hp : r.2.p = ⟨i + 2 * n, 0⟩) (hl : r.2.e.length = 2 * (t + n) + 1) (ho : 1 ≤ n → (r.2.e.getLast?.map (·.op)) = some 14)
  | many (h : 29 < t + n) (he : r.2.p.err = 4)
theorem row (W : List Wd) (f : Nat) (x : Wd) (hx : x = rpW ∨ x = endW) : ∀ (n m i t : Nat) (a : Int) (e : List Nd), n < m → Ones W i n x → e.length = 2 * t + 1 → t ≤ 29 → RowEnd i t n (loopP W (pr W (f + 3) 5) sumOps m a ⟨⟨i, 0⟩, e⟩)
  | 0, m, i, t, a, e, hm, ho, he, ht => by
    have hs := ho.stop
    simp only [Nat.mul_zero, Nat.add_zero] at hs
    have hc : Clo W ⟨i, 0⟩ := by rcases hx with rfl | rfl; exact .inr (cur0 hs); exact .inl (cur0 hs)
    rw [loop_clo (B := ⟨⟨i, 0⟩, e⟩) hc rfl]
    exact .all (by omega) (by simp) (by simpa using he) (fun h => by omega)
  | n + 1, 0, i, t, a, e, hm, ho, he, ht => by omega
  | n + 1, m + 1, i, t, a, e, hm, ho, he, ht => by
    have hp : W[i]? = some plW := by simpa using ho.plus 0 (by omega)
    have h1 : W[i + 1]? = some onW := by simpa using ho.one 0 (by omega)
    have htl := ho.tail
    rw [loop_hit (B := ⟨⟨i, 0⟩, e⟩) (plus_at hp)]
    have h5 : pr W (f + 3) 5 (stepB ⟨⟨i, 0⟩, e⟩) = putP (ndV 2 1 []) ⟨⟨i + 2, 0⟩, e⟩ := part5 (i := i + 1) (n := n) (x := x) h1 htl hx
    have hpp : pairP (pr W (f + 3) 5) 14 a ⟨⟨i, 0⟩, e⟩ = match putP (ndV 2 1 []) ⟨⟨i + 2, 0⟩, e⟩ with | (c, q) => putP (nd2 14 a c) q := by
      unfold pairP
      rw [h5]
    by_cases ht9 : t = 29
    · subst ht9
      have hv : putP (ndV 2 1 []) ⟨⟨i + 2, 0⟩, e⟩ = ((59 : Int), ⟨⟨i + 2, 0⟩, e ++ [ndV 2 1 []]⟩) := by
        unfold putP
        rw [if_neg (by simp only; omega)]
        simp only [he]
        rfl
      rw [hv] at hpp
      simp only at hpp
      have hf : putP (nd2 14 a 59) ⟨⟨i + 2, 0⟩, e ++ [ndV 2 1 []]⟩ = (0, ⟨⟨i + 2, 4⟩, e ++ [ndV 2 1 []]⟩) := by
        unfold putP
        rw [if_pos (by simp [he])]
        rfl
      rw [hf] at hpp
      rw [hpp]
      refine .many (by omega) ?_
      cases m with
      | zero => rfl
      | succ m => rw [loop_miss (err_at (show (4 : Int) ≠ 0 by decide) _)]
    · have hv : putP (ndV 2 1 []) ⟨⟨i + 2, 0⟩, e⟩ = ((e.length : Int), ⟨⟨i + 2, 0⟩, e ++ [ndV 2 1 []]⟩) := by
        unfold putP
        rw [if_neg (by simp only; omega)]
      rw [hv] at hpp
      simp only at hpp
      have hf : putP (nd2 14 a e.length) ⟨⟨i + 2, 0⟩, e ++ [ndV 2 1 []]⟩ = (((e ++ [ndV 2 1 []]).length : Int), ⟨⟨i + 2, 0⟩, e ++ [ndV 2 1 []] ++ [nd2 14 a e.length]⟩) := by
        unfold putP
        rw [if_neg (by simp [he]; omega)]
      rw [hf] at hpp
      rw [hpp]
      have ih := row W f x hx n m (i + 2) (t + 1) ((e ++ [ndV 2 1 []]).length : Int) (e ++ [ndV 2 1 []] ++ [nd2 14 a e.length]) (by omega) htl (by simp [he]; omega) (by omega)
      rcases ih with ⟨k1, k2, k3, k4⟩ | ⟨k1, k2⟩
      · refine .all (by omega) (by rw [k2]; congr 1; omega) (by rw [k3]; omega) (fun _ => ?_)
        rcases Nat.eq_zero_or_pos n with rfl | hn
        · have hs := htl.stop
          simp only [Nat.mul_zero, Nat.add_zero] at hs
          have hc : Clo W ⟨i + 2, 0⟩ := by rcases hx with rfl | rfl; exact .inr (cur0 hs); exact .inl (cur0 hs)
          rw [loop_clo (B := ⟨⟨i + 2, 0⟩, _⟩) hc rfl]
          simp
          rfl
        · exact k4 hn
      · exact .many (by omega) k2
/-- the words of n additions in k brackets -/
structure Deep (W : List Wd) (n k : Nat) : Prop where
  lp : ∀ j, j < k → W[j]? = some lpW
  one : W[k]? = some onW
  row : Ones W (k + 1) n (if k = 0 then endW else rpW)
  rp : ∀ j, j < k → W[k + 1 + 2 * n + j]? = some rpW
  fin : W[2 * k + 1 + 2 * n]? = some endW
  len : W.length = 2 * k + 2 * n + 2
inductive DeepEnd (n i : Nat) (r : Int × Bs) : Prop
  | all (h : n ≤ 29) (hp : r.2.p = ⟨i, 0⟩) (hl : r.2.e.length = 2 * n + 1) (ho : 1 ≤ n → (r.2.e.getLast?.map (·.op)) = some 14)
  | many (h : 29 < n) (he : r.2.p.err = 4)
theorem clo_err {W : List Wd} {p : Pp} (h : p.err = 4) : Clo W p := .inl (cur_err (by rw [h]; decide))
theorem deep0 {W : List Wd} {n k : Nat} (h : Deep W n k) (f : Nat) : DeepEnd n (k + 1 + 2 * n) (pr W (f + 8) 0 ⟨⟨k, 0⟩, []⟩) := by
  have hx : (if k = 0 then endW else rpW) = rpW ∨ (if k = 0 then endW else rpW) = endW := by split; exact .inr rfl; exact .inl rfl
  have h5 : pr W (f + 3) 5 ⟨⟨k, 0⟩, []⟩ = (0, ⟨⟨k + 1, 0⟩, [ndV 2 1 []]⟩) := part5 h.one h.row hx
  have hr := row W f _ hx n W.length (k + 1) 0 0 [ndV 2 1 []] (by have := h.len; omega) h.row rfl (by omega)
  have h4 : pr W (f + 4) 4 ⟨⟨k, 0⟩, []⟩ = loopP W (pr W (f + 3) 5) sumOps W.length 0 ⟨⟨k + 1, 0⟩, [ndV 2 1 []]⟩ := by
    conv => lhs; unfold pr pairsP
    rw [h5]
    rfl
  obtain ⟨⟨a, q⟩, hq⟩ : ∃ X, loopP W (pr W (f + 3) 5) sumOps W.length 0 ⟨⟨k + 1, 0⟩, [ndV 2 1 []]⟩ = X := ⟨_, rfl⟩
  rw [hq] at h4 hr
  have hc : Clo W q.p := by
    rcases hr with ⟨_, k2, _, _⟩ | ⟨_, k2⟩
    · have k2 : q.p = ⟨k + 1 + 2 * n, 0⟩ := k2
      rw [k2]
      have := cur0 h.row.stop
      rcases hx with e | e <;> rw [e] at this
      · exact .inr this
      · exact .inl this
    · exact clo_err k2
  rw [up h4 hc (num_is h.one _)]
  rcases hr with ⟨k1, k2, k3, k4⟩ | ⟨k1, k2⟩
  · exact .all (by omega) k2 (by rw [k3]; omega) k4
  · exact .many (by omega) k2
theorem lp_is {W : List Wd} {i : Nat} (h : W[i]? = some lpW) (s : List UInt8) (hs : ([40] == s) = false) : okIs W s ⟨i, 0⟩ = false := by
  unfold okIs
  rw [cur0 h]
  show (true && ([40] == s)) = false
  rw [hs]; rfl
theorem lp7 {W : List Wd} {f i : Nat} {a : Int} {q : Bs} (h : W[i]? = some lpW) (hs : pr W f 0 ⟨⟨i + 1, 0⟩, []⟩ = (a, q)) : pr W (f + 1) 7 ⟨⟨i, 0⟩, []⟩ = (a, ⟨mustP W [41] q.p, q.e⟩) := by
  show oneP W (pr W f 0) ⟨⟨i, 0⟩, []⟩ = _
  unfold oneP constAt
  have hk : okIs W [40] ⟨i, 0⟩ = true := by
    unfold okIs
    rw [cur0 h]; rfl
  rw [show cur W (⟨⟨i, 0⟩, []⟩ : Bs).p = lpW from cur0 h, hk]
  show (match pr W f 0 ⟨⟨i + 1, 0⟩, []⟩ with | (a, q) => (a, (⟨mustP W [41] q.p, q.e⟩ : Bs))) = _
  rw [hs]
theorem deepS {W : List Wd} {n k : Nat} (h : Deep W n k) (f : Nat) : ∀ d, d ≤ k → DeepEnd n (k + 1 + 2 * n + d) (pr W (f + 8 * d + 8) 0 ⟨⟨k - d, 0⟩, []⟩)
  | 0, _ => by
    have h0 := deep0 h f
    rw [Nat.sub_zero, Nat.mul_zero, Nat.add_zero, Nat.add_zero]
    exact h0
  | d + 1, hd => by
    have ih := deepS h f d (by omega)
    obtain ⟨⟨a, q⟩, hq⟩ : ∃ X, pr W (f + 8 * d + 8) 0 ⟨⟨k - d, 0⟩, []⟩ = X := ⟨_, rfl⟩
    rw [hq] at ih
    have hl := h.lp (k - (d + 1)) (by omega)
    have e1 : k - (d + 1) + 1 = k - d := by omega
    have h7 := lp7 (f := f + 8 * d + 8) (i := k - (d + 1)) (a := a) (q := q) hl (by rw [e1, hq])
    have hm : DeepEnd n (k + 1 + 2 * n + (d + 1)) (a, ⟨mustP W [41] q.p, q.e⟩) ∧ Clo W (mustP W [41] q.p) := by
      rcases ih with ⟨k1, k2, k3, k4⟩ | ⟨k1, k2⟩
      · have k2 : q.p = ⟨k + 1 + 2 * n + d, 0⟩ := k2
        have hr := h.rp d (by omega)
        have hmp : mustP W [41] q.p = ⟨k + 1 + 2 * n + (d + 1), 0⟩ := by
          rw [k2]
          unfold mustP
          have : okIs W [41] ⟨k + 1 + 2 * n + d, 0⟩ = true := by
            unfold okIs
            rw [cur0 hr]; rfl
          rw [if_pos this]
          rfl
        rw [hmp]
        refine ⟨.all k1 rfl k3 k4, ?_⟩
        rcases Nat.lt_or_ge (d + 1) k with hlt | hge
        · exact .inr (cur0 (h.rp (d + 1) hlt))
        · have hf := h.fin
          rw [show 2 * k + 1 + 2 * n = k + 1 + 2 * n + (d + 1) by omega] at hf
          exact .inl (cur0 hf)
      · have k2 : q.p.err = 4 := k2
        have hmp : mustP W [41] q.p = q.p := by
          unfold mustP
          have : okIs W [41] q.p = false := by
            unfold okIs
            rw [cur_err (by rw [k2]; decide)]; rfl
          rw [if_neg (by rw [this]; simp)]
          unfold failP
          rw [if_neg (by rw [k2]; decide)]
        rw [hmp]
        exact ⟨.many k1 k2, clo_err k2⟩
    obtain ⟨hm, hc⟩ := hm
    have h5 := up1 (f := f + 8 * d + 8 + 1) h7 (clo_at hc _ rfl) (lp_is hl _ rfl)
    have h4 : pr W (f + 8 * d + 8 + 1 + 2 + 1) 4 ⟨⟨k - (d + 1), 0⟩, []⟩ = (a, ⟨mustP W [41] q.p, q.e⟩) := by
      unfold pr
      exact pairs_clo h5 hc rfl
    have h0 := up h4 hc (lp_is hl _ rfl)
    have e2 : f + 8 * (d + 1) + 8 = f + 8 * d + 8 + 1 + 2 + 1 + 4 := by omega
    rw [e2, h0]
    exact hm
/-- what is read -/
theorem deep_out {W : List Wd} {n k : Nat} (h : Deep W n k) : (n ≤ 29 ∧ ∃ es, outP W (exprP W ⟨0, 0⟩) = (0, es) ∧ es.length = 2 * n + 1 ∧ (1 ≤ n → (es.getLast?.map (·.op)) = some 14)) ∨ (29 < n ∧ outP W (exprP W ⟨0, 0⟩) = (4, [])) := by
  have hl := h.len
  obtain ⟨f, hf⟩ : ∃ f, W.length * 9 + 9 = f + 8 * k + 8 := ⟨W.length * 9 + 9 - 8 * k - 8, by omega⟩
  have hd := deepS h f k (Nat.le_refl _)
  rw [Nat.sub_self, ← hf] at hd
  unfold exprP
  obtain ⟨⟨a, q⟩, hq⟩ : ∃ X, pr W (W.length * 9 + 9) 0 ⟨⟨0, 0⟩, []⟩ = X := ⟨_, rfl⟩
  rw [hq] at hd ⊢
  unfold outP endP
  simp only
  rcases hd with ⟨k1, k2, k3, k4⟩ | ⟨k1, k2⟩
  · have k2 : q.p = ⟨k + 1 + 2 * n + k, 0⟩ := k2
    have hfin := h.fin
    rw [show 2 * k + 1 + 2 * n = k + 1 + 2 * n + k by omega] at hfin
    refine .inl ⟨k1, q.e, ?_, k3, k4⟩
    rw [k2, cur0 hfin]
    rfl
  · have k2 : q.p.err = 4 := k2
    refine .inr ⟨k1, ?_⟩
    rw [cur_err (by rw [k2]; decide)]
    rw [if_pos (show endW.k = 0 from rfl), k2]
    rfl
end Go.Proofs.YtfnceamkephpjaaGreat.pg

/- ParseDeep, plain: the words of its texts. -/
namespace Go.Proofs.YtfnceamkephpjaaGreat.pg
open Go.Proofs.YtfnceamkephpjaaGreat.lx
set_option linter.unusedVariables false

theorem step_num (n : Nat) (r : List UInt8) (hn : (n : Int) ≤ 9223372036854775807) (hr : ∀ c q, r = c :: q → digB c = false) : stepL (digs n ++ r) = .put ⟨2, n, []⟩ r := by
  obtain ⟨hd, hne⟩ := digs_dig n
  have hx := digs_num n hn
  generalize digs n = l at *
  cases l with
  | nil => exact absurd rfl hne
  | cons c t =>
    have hc : digB c = true := hd c (List.mem_cons_self ..)
    have hk := dig_cases c
    rw [hc] at hk
    simp at hk
    obtain ⟨e1, e2⟩ := tw_split digB (c :: t) r hd hr
    rw [List.cons_append] at e1 e2 ⊢
    rw [stepL, if_neg (by rw [hk.1.1]; decide), if_neg (by rw [hk.1.2]; decide), if_pos hc, e1, e2, hx]
    rfl
theorem lex_num (n : Nat) (r : List UInt8) (out : List Wd) (hn : n ≤ 9223372036854775807) (hr : ∀ c q, r = c :: q → digB c = false) : lexL (digs n ++ r) out = lexL r (out ++ [⟨2, n, []⟩]) :=
  lexL_put out (step_num n r (by omega) hr)
/-- a sign behind which no sign of two begins -/
theorem step_sg (c : UInt8) (r : List UInt8) (h1 : signB c = true) (h2 : twoB (c :: r) = false) : stepL (c :: r) = .put ⟨4, 0, [c]⟩ r := by
  have hk := sign_cases c
  rw [h1] at hk
  simp at hk
  obtain ⟨⟨⟨b1, b2⟩, b3⟩, b4⟩ := hk
  rw [stepL, if_neg (by rw [b1]; decide), if_neg (by rw [b2]; decide), if_neg (by rw [b3]; decide), if_neg b4, if_neg (by rw [h2]; decide), if_pos h1]
theorem lex_sg (c : UInt8) (r : List UInt8) (out : List Wd) (h1 : signB c = true) (h2 : twoB (c :: r) = false) : lexL (c :: r) out = lexL r (out ++ [⟨4, 0, [c]⟩]) := lexL_put out (step_sg c r h1 h2)
theorem two_lp (r : List UInt8) : twoB (40 :: r) = false := by cases r <;> rfl
theorem two_rp (r : List UInt8) : twoB (41 :: r) = false := by cases r <;> rfl
theorem two_pl (r : List UInt8) : twoB (43 :: r) = false := by cases r <;> rfl
theorem digs_one : digs 1 = [49] := by rw [digs_small 1 (by omega)]; rfl
theorem words_at {l : List UInt8} {W : List Wd} (hl : l.length ≤ 600) (h : lexL l [] = (0, W)) : wordsL l = (0, W ++ [endW]) := by
  unfold wordsL
  rw [if_neg (by omega), h, if_pos rfl]
theorem lex_lps : ∀ (k : Nat) (r : List UInt8) (out : List Wd), lexL (List.replicate k 40 ++ r) out = lexL r (out ++ List.replicate k lpW)
  | 0, r, out => by simp
  | k + 1, r, out => by
    rw [List.replicate_succ, List.cons_append, lex_sg 40 _ _ rfl (two_lp _), lex_lps k r _, List.replicate_succ, List.append_assoc]
    rfl
theorem lex_rps : ∀ (k : Nat) (r : List UInt8) (out : List Wd), lexL (List.replicate k 41 ++ r) out = lexL r (out ++ List.replicate k rpW)
  | 0, r, out => by simp
  | k + 1, r, out => by
    rw [List.replicate_succ, List.cons_append, lex_sg 41 _ _ rfl (two_rp _), lex_rps k r _, List.replicate_succ, List.append_assoc]
    rfl
def plusT : Nat → List UInt8
  | 0 => []
  | n + 1 => 43 :: 49 :: plusT n
def plusW : Nat → List Wd
  | 0 => []
  | n + 1 => plW :: onW :: plusW n
def NoDig (r : List UInt8) : Prop := ∀ c q, r = c :: q → digB c = false
theorem nodig_plus : ∀ (n : Nat) (r : List UInt8), NoDig r → NoDig (plusT n ++ r)
  | 0, r, h => h
  | n + 1, r, h => fun c q e => by injection e with e _; subst e; rfl
theorem lex_plus : ∀ (n : Nat) (r : List UInt8) (out : List Wd), NoDig r → lexL (plusT n ++ r) out = lexL r (out ++ plusW n)
  | 0, r, out, h => by simp [plusT, plusW]
  | n + 1, r, out, h => by
    have h1 := lex_num 1 (plusT n ++ r) (out ++ [plW]) (by omega) (nodig_plus n r h)
    rw [digs_one] at h1
    have e : plusT (n + 1) ++ r = 43 :: (([49] : List UInt8) ++ (plusT n ++ r)) := rfl
    rw [e, lex_sg 43 _ _ rfl (two_pl _)]
    rw [show out ++ [(⟨4, 0, [43]⟩ : Wd)] = out ++ [plW] from rfl, h1, lex_plus n r _ h]
    simp [plusW, onW]
def deepT (n k : Nat) : List UInt8 := List.replicate k 40 ++ (49 :: (plusT n ++ List.replicate k 41))
def deepW (n k : Nat) : List Wd := List.replicate k lpW ++ (onW :: (plusW n ++ List.replicate k rpW)) ++ [endW]
theorem plusT_len : ∀ n, (plusT n).length = 2 * n
  | 0 => rfl
  | n + 1 => by simp only [plusT, List.length_cons, plusT_len n]; omega
theorem plusW_len : ∀ n, (plusW n).length = 2 * n
  | 0 => rfl
  | n + 1 => by simp only [plusW, List.length_cons, plusW_len n]; omega
theorem deepT_len (n k : Nat) : (deepT n k).length = 2 * k + 2 * n + 1 := by
  unfold deepT
  simp [plusT_len]
  omega
theorem deep_words (n k : Nat) (h : 2 * k + 2 * n + 1 ≤ 600) : wordsL (deepT n k) = (0, deepW n k) := by
  have hr : NoDig (List.replicate k 41) := fun c q e => by
    cases k with
    | zero => cases e
    | succ k => rw [List.replicate_succ] at e; injection e with e _; subst e; rfl
  have h1 := lex_num 1 (plusT n ++ List.replicate k 41) (List.replicate k lpW) (by omega) (nodig_plus n _ hr)
  rw [digs_one] at h1
  refine words_at (W := List.replicate k lpW ++ (onW :: (plusW n ++ List.replicate k rpW))) (by rw [deepT_len]; omega) ?_
  unfold deepT
  rw [lex_lps, List.nil_append, show (49 :: (plusT n ++ List.replicate k 41) : List UInt8) = [49] ++ (plusT n ++ List.replicate k 41) from rfl, h1, lex_plus _ _ _ hr]
  have h2 := lex_rps k [] (List.replicate k lpW ++ [⟨2, 1, []⟩] ++ plusW n)
  rw [List.append_nil] at h2
  have e1 : ((1 : Nat) : Int) = 1 := rfl
  rw [e1, h2, lexL_nil]
  simp [onW]
theorem plusW_at : ∀ (n j : Nat) (r : List Wd), j < n → (plusW n ++ r)[2 * j]? = some plW ∧ (plusW n ++ r)[2 * j + 1]? = some onW
  | 0, j, r, h => by omega
  | n + 1, 0, r, h => ⟨rfl, rfl⟩
  | n + 1, j + 1, r, h => by
    have ih := plusW_at n j r (by omega)
    rw [show 2 * (j + 1) = 2 * j + 1 + 1 by omega]
    exact ih
theorem deep_ok (n k : Nat) : Deep (deepW n k) n k := by
  have hl : (List.replicate k lpW).length = k := List.length_replicate
  have tail : ∀ i, (deepW n k)[k + 1 + i]? = (plusW n ++ (List.replicate k rpW ++ [endW]))[i]? := fun i => by
    unfold deepW
    rw [List.append_assoc, List.getElem?_append_right (by omega), hl, show k + 1 + i - k = i + 1 by omega, List.cons_append, List.getElem?_cons_succ, List.append_assoc]
  have far : ∀ i, (deepW n k)[k + 1 + 2 * n + i]? = (List.replicate k rpW ++ [endW])[i]? := fun i => by
    rw [Nat.add_assoc, tail, List.getElem?_append_right (by rw [plusW_len]; omega), plusW_len, show 2 * n + i - 2 * n = i by omega]
  refine ⟨fun j hj => ?_, ?_, ⟨fun j hj => ?_, fun j hj => ?_, ?_⟩, fun j hj => ?_, ?_, ?_⟩
  · unfold deepW
    rw [List.append_assoc, List.getElem?_append_left (by omega), List.getElem?_replicate, if_pos hj]
  · unfold deepW
    rw [List.append_assoc, List.getElem?_append_right (by omega), hl, Nat.sub_self]
    rfl
  · rw [tail]
    exact (plusW_at n j _ hj).1
  · rw [Nat.add_assoc (k + 1), tail]
    exact (plusW_at n j _ hj).2
  · have := far 0
    rw [Nat.add_zero] at this
    rw [this]
    cases k with
    | zero => rfl
    | succ k => rfl
  · rw [far, List.getElem?_append_left (by rw [List.length_replicate]; omega), List.getElem?_replicate, if_pos hj]
  · have := far k
    rw [show 2 * k + 1 + 2 * n = k + 1 + 2 * n + k by omega, this, List.getElem?_append_right (by rw [List.length_replicate]; omega), List.length_replicate, Nat.sub_self]
    rfl
  · unfold deepW
    simp [plusW_len]
    omega
/-- what such a text is read as -/
theorem deep_expr (n k : Nat) (h : 2 * k + 2 * n + 1 ≤ 600) : (n ≤ 29 ∧ ∃ es, exprL (deepT n k) = (0, es) ∧ es.length = 2 * n + 1 ∧ (1 ≤ n → (es.getLast?.map (·.op)) = some 14)) ∨ (29 < n ∧ exprL (deepT n k) = (4, [])) := by
  unfold exprL
  rw [deep_words n k h]
  exact deep_out (deep_ok n k)
end Go.Proofs.YtfnceamkephpjaaGreat.pg

/- The laws' known and within. Printed by gen20.py. -/
namespace Go.Proofs.YtfnceamkephpjaaGreat.pg
open Go.ChangeShapes Go.WideShapes Go.ChangeAt Go.RowKit Go.Proofs.YtfnceamkephpjaaGreat.lib Go.Proofs.YtfnceamkephpjaaGreat.lx
set_option linter.unusedVariables false

def ok64 (x : Int) : Prop := -9223372036854775808 ≤ x ∧ x ≤ 9223372036854775807
def knownE : List Nd := [ndV 2 1 [], ndV 2 2 [], ndV 2 3 [], nd2 16 1 2, nd2 14 0 3]
theorem known_expr : exprL [49, 32, 43, 32, 50, 32, 42, 32, 51] = (0, knownE) := by kernel_rfl
/-- a node's cells -/
theorem own_node {w : World} {base g c : Nat} {es : List Nd} (h : w.ownsRow base 45 7 (.slice (some ⟨g, 0, none⟩) es.length c) es.length (flatK encNd es)) (i : Nat) (n : Nd) (hi : es[i]? = some n) (j : Nat) (u : Value) (hu : (encNd n)[j]? = some u) : w.cell? ⟨g, i * 7 + j, none⟩ = some u := by
  have hr := Row.of_own h
  have := hr.at_ (flatK_at encNd 7 kNd es i n j u hi hu)
  simpa using this
set_option maxRecDepth 100000 in
theorem known_ (w : World) : Calls Tryz.prog 4 #[] w fun e w' => e = .returned (.bool true) ∧ Below w.heap.size w w' := by
  have HE := Lib.hid (fun W => Expr_ [49, 32, 43, 32, 50, 32, 42, 32, 51] (by decide) W)
  replace HE := HE.out
  rw [known_expr] at HE
  replace HE := Lib.hid HE
  go_enter Tryz.func4, Tryz.ntmps4
  go_wp2_with fail
  refine (HE.out w).mono ?_
  rintro e w2 ⟨v, rfl, hown, hb2⟩
  obtain ⟨g, c, rfl, h1, h2⟩ := hown.form (by decide)
  have q := own_node (es := knownE) hown 4 (nd2 14 0 3) rfl 0 _ rfl
  have HB := Lib.hid hb2
  have q2 : w2.cell? ⟨g, 28, none⟩ = some (.int .i64 14) := q
  have hl : knownE.length = 5 := rfl
  simp only [hl]
  clear hown h1 h2 q hb2
  go_wp2
  go_ret
  exact ⟨rfl, HB.out⟩
theorem within_ (a n : Int) (w : World) (hn : 1 ≤ n) (hn2 : n ≤ 2000000000000) (ha : ok64 a) :
    Calls Tryz.prog 6 #[.int .i64 a, .int .i64 n] w fun e w' => e = .returned (.int .i64 (a % n)) ∧ w = w' := by
  obtain ⟨ha, hb⟩ := ha
  have h0 : (n == 0) = false := by simp; omega
  have h1 := Int.emod_nonneg a (by omega : n ≠ 0)
  have h2 := Int.emod_lt_of_pos a (by omega : 0 < n)
  go_enter Tryz.func6, Tryz.ntmps6
  go_wp2
  · have h := tmod_pos a n hn (by assumption)
    go_ret
    exact ⟨ret_int (by simp [h]; exact IntWalk.wrap64_in _ ⟨by omega, by omega⟩), rfl⟩
  · have h := tmod_nn a n hn (by assumption)
    go_ret
    exact ⟨ret_int (by simp [h]), rfl⟩
def SomeI (n : Nat) (w : World) (e : Ending) (w' : World) : Prop := ∃ m : Nat, m < n ∧ e = .returned (.int .i64 m) ∧ w = w'
theorem withinN (a : Int) (n : Nat) (w : World) (hn : 1 ≤ n) (hn2 : n ≤ 1000) (ha : ok64 a) :
    Calls Tryz.prog 6 #[.int .i64 a, .int .i64 n] w (SomeI n w) := by
  refine (within_ a n w (by omega) (by omega) ha).mono ?_
  rintro e w' ⟨rfl, rfl⟩
  have h1 := Int.emod_nonneg a (by omega : (n : Int) ≠ 0)
  have h2 := Int.emod_lt_of_pos a (by omega : 0 < (n : Int))
  exact ⟨(a % n).toNat, by omega, by rw [Int.toNat_of_nonneg h1], rfl⟩
end Go.Proofs.YtfnceamkephpjaaGreat.pg
