/- Plain: the few locks of LockShared and LockRings, by reckoning. -/
import Derived.Test.YtlfonenjgchklaaPl
namespace Go.Proofs.Ytlfonenjgchklaa.lk
open Go.ChangeShapes Go.WideShapes Go.ChangeAt Go.RowKit Go.Proofs.Ytlfonenjgchklaa.lib
set_option linter.unusedVariables false

instance : DecidableEq Hd := fun a b => decidable_of_iff (a.s = b.s ∧ a.t = b.t ∧ a.x = b.x) (by
  obtain ⟨a1, a2, a3⟩ := a
  obtain ⟨b1, b2, b3⟩ := b
  simp)
instance : DecidableEq Lk := fun a b => decidable_of_iff (a.hs = b.hs ∧ a.ws = b.ws) (by
  obtain ⟨a1, a2⟩ := a
  obtain ⟨b1, b2⟩ := b
  simp)
def kt : ByteArray := ⟨#[116]⟩
/-- j that share -/
def shr (j : Nat) : Lk := ⟨(List.range j).map fun i : Nat => ⟨(i : Int), kt, false⟩, []⟩
/-- N that shared, X waits for itself, those below j are freed -/
def shq (N X j : Nat) : Lk := ⟨(shr N).hs.filter fun o => decide ((j : Int) ≤ o.s) || decide (o.s = (X : Int)), [⟨(X : Int), kt, true⟩]⟩
theorem shr_step : ∀ j : Nat, j < 8 → askL (shr j) ⟨(j : Int), kt, false⟩ = shr (j + 1) ∧ freeB (shr j) ⟨(j : Int), kt, false⟩ = true := by decide +kernel
theorem shq_start : ∀ N : Nat, N < 8 → 2 ≤ N → ∀ X : Nat, X < N → askL (shr N) ⟨(X : Int), kt, true⟩ = shq N X 0 ∧ freeB (shr N) ⟨(X : Int), kt, true⟩ = false := by decide +kernel
theorem shq_step : ∀ N : Nat, N < 8 → ∀ X : Nat, X < N → ∀ j : Nat, j < N → (if j = X then shq N X j else freeL (shq N X j) (j : Int)) = shq N X (j + 1) := by decide +kernel
theorem shq_end : ∀ N : Nat, N < 8 → ∀ X : Nat, X < N → askL (shq N X N) ⟨(X : Int), kt, true⟩ = ⟨[⟨(X : Int), kt, true⟩], []⟩ ∧ freeB (shq N X N) ⟨(X : Int), kt, true⟩ = true := by decide +kernel

/-- the seven tables' names -/
def nm (i : Nat) : ByteArray := ⟨#[UInt8.ofNat (97 + i)]⟩
def rgh (j : Nat) : List Hd := (List.range j).map fun i : Nat => ⟨(i : Int), nm i, true⟩
/-- N hold one each; from the t-th on k of them ask for the next one's -/
def rgw (N t k : Nat) (sh : Bool) : Lk := ⟨rgh N, (List.range k).map fun j : Nat => ⟨(((j + t) % N : Nat) : Int), nm (((j + t) % N + 1) % N), !sh⟩⟩
theorem rg_step : ∀ j : Nat, j < 8 → askL ⟨rgh j, []⟩ ⟨(j : Int), nm j, true⟩ = ⟨rgh (j + 1), []⟩ := by decide +kernel
theorem rgw_step : ∀ N : Nat, N < 8 → 2 ≤ N → ∀ t : Nat, t < N → ∀ k : Nat, k < N → ∀ sh : Bool, askL (rgw N t k sh) ⟨(((k + t) % N : Nat) : Int), nm (((k + t) % N + 1) % N), !sh⟩ = rgw N t (k + 1) sh ∧ freeB (rgw N t k sh) ⟨(((k + t) % N : Nat) : Int), nm (((k + t) % N + 1) % N), !sh⟩ = false := by decide +kernel
/-- all that is reached in m steps -/
def clo (L : Lk) (s : Int) : Nat → List Int
  | 0 => edges L.ws L.hs s
  | m + 1 => (clo L s m ++ (clo L s m).flatMap (edges L.ws L.hs)).eraseDups
def noRing (L : Lk) (s : Int) : Bool := (edges L.ws L.hs s).all (clo L s 7).contains && (clo L s 7).all (fun x => (edges L.ws L.hs x).all (clo L s 7).contains) && !(clo L s 7).contains s
theorem noRing_spec {L : Lk} {s : Int} (h : noRing L s = true) : ¬ Rch (edges L.ws L.hs) s s := by
  unfold noRing at h
  generalize clo L s 7 = R at h
  simp only [Bool.and_eq_true, List.all_eq_true, List.contains_eq_mem, decide_eq_true_eq, Bool.not_eq_true', decide_eq_false_iff_not] at h
  obtain ⟨⟨h1, h2⟩, h3⟩ := h
  have key : ∀ z, Rch (edges L.ws L.hs) s z → z ∈ R := by
    intro z hz
    induction hz with
    | one h => exact h1 _ h
    | more _ hy ih => exact h2 _ ih _ hy
  exact fun hr => h3 (key s hr)
theorem rgw_no : ∀ N : Nat, N < 8 → 2 ≤ N → ∀ t : Nat, t < N → ∀ k : Nat, k < N → ∀ sh : Bool, noRing (rgw N t k sh) (((k + t) % N : Nat) : Int) = true := by decide +kernel
theorem rgw_edge : ∀ N : Nat, N < 8 → 2 ≤ N → ∀ t : Nat, t < N → ∀ sh : Bool, ∀ i : Nat, i < N → edges (rgw N t N sh).ws (rgw N t N sh).hs (i : Int) = [(((i + 1) % N : Nat) : Int)] := by decide +kernel
theorem rgw_free : ∀ N : Nat, N < 8 → 2 ≤ N → ∀ t : Nat, t < N → ∀ sh : Bool, ∀ i : Nat, i < N → noRing (freeL (rgw N t N sh) ((N : Int) - 1)) (i : Int) = true := by decide +kernel
theorem ring_step {F : Int → List Int} {N : Nat} (hN : 0 < N) (hF : ∀ i : Nat, i < N → F (i : Int) = [(((i + 1) % N : Nat) : Int)]) (i : Nat) (hi : i < N) : ∀ d : Nat, Rch F (i : Int) (((i + d + 1) % N : Nat) : Int)
  | 0 => .one (by rw [hF i hi]; simp)
  | d + 1 => by
    refine .more (ring_step hN hF i hi d) ?_
    rw [hF _ (Nat.mod_lt _ hN), Nat.mod_add_mod]
    exact List.mem_singleton.2 rfl
theorem ring_all {F : Int → List Int} {N : Nat} (hF : ∀ i : Nat, i < N → F (i : Int) = [(((i + 1) % N : Nat) : Int)]) (i j : Nat) (hi : i < N) (hj : j < N) : Rch F (i : Int) (j : Int) := by
  have h := ring_step (by omega) hF i hi (j + N - i - 1)
  have e : i + (j + N - i - 1) + 1 = j + N := by omega
  rw [e, Nat.add_mod_right, Nat.mod_eq_of_lt hj] at h
  exact h
/-- in a full ring the greatest is to go -/
theorem ring_vic {F : Int → List Int} {N : Nat} (hN : 0 < N) (hF : ∀ i : Nat, i < N → F (i : Int) = [(((i + 1) % N : Nat) : Int)]) {s : Nat} (hs : s < N) {v : Int} {is : Bool} (h : VicS F (s : Int) v is) : is = true ∧ v = (N : Int) - 1 := by
  have key : ∀ z, Rch F (s : Int) z → ∃ j : Nat, j < N ∧ z = (j : Int) := by
    intro z hz
    induction hz with
    | one h => rw [hF s hs] at h; simp at h; exact ⟨_, Nat.mod_lt _ hN, h⟩
    | more _ hy ih =>
      obtain ⟨j, hj, rfl⟩ := ih
      rw [hF j hj] at hy
      simp at hy
      exact ⟨_, Nat.mod_lt _ hN, hy⟩
  cases is with
  | false => exact absurd (ring_all hF s s hs hs) (h.no rfl).1
  | true =>
    refine ⟨rfl, ?_⟩
    obtain ⟨_, hv, _, hk⟩ := h.yes rfl
    have h1 := hk ((N - 1 : Nat) : Int) (ring_all hF s (N - 1) hs (by omega)) (ring_all hF (N - 1) s (by omega) hs)
    rcases hv with h2 | ⟨h2, _⟩
    · omega
    · obtain ⟨j, hj, h3⟩ := key v h2
      omega
end Go.Proofs.Ytlfonenjgchklaa.lk
