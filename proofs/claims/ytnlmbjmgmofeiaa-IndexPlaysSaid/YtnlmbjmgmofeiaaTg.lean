/- Plain: the schema that Good makes of a raw one, the values that Fit makes for a schema. -/
import Derived.Test.YtnlmbjmgmofeiaaT2
namespace Go.Proofs.Ytnlmbjmgmofeiaa.tb
open Go.RowKit Go.Proofs.Ytnlmbjmgmofeiaa.lib Go.Proofs.Ytnlmbjmgmofeiaa.val
set_option linter.unusedVariables false

def chr1 (i : Nat) : ByteArray := ⟨#[UInt8.ofNat (97 + i)]⟩
def gcol (l : List Col) (i : Nat) : Col := match l[i]? with
  | some c => ⟨chr1 i, 1 + c.kind % 3, c.null⟩
  | none => ⟨chr1 i, 2, false⟩
def gcols (l : List Col) (k : Nat) : List Col := (List.range k).map (gcol l)
def gM (l : List Col) : Nat := max 1 (min l.length 6)
def unnull (c : Col) : Col := ⟨c.name, c.kind, false⟩
def gkey (l : List Col) (key : Int) : Nat := (key % (gM l : Int)).toNat
def gnulled (l : List Col) (key : Int) : List Col := (gcols l (gM l)).modify (gkey l key) unnull
def goodS (l : List Col) (key : Int) (only : Bool) : Sch := ⟨⟨#[113, 100]⟩, gnulled l key, gkey l key, only⟩
theorem gM_bd (l : List Col) : 1 ≤ gM l ∧ gM l ≤ 6 := by unfold gM; omega
theorem gcols_len (l : List Col) (k : Nat) : (gcols l k).length = k := by simp [gcols]
theorem gcols_succ (l : List Col) (k : Nat) : gcols l (k + 1) = gcols l k ++ [gcol l k] := by simp [gcols, List.range_succ]
theorem gkey_lt (l : List Col) (key : Int) : gkey l key < gM l := by
  have := gM_bd l
  have h1 := Int.emod_nonneg key (by omega : (gM l : Int) ≠ 0)
  have h2 := Int.emod_lt_of_pos key (by omega : (0 : Int) < gM l)
  unfold gkey
  omega
theorem gnulled_len (l : List Col) (key : Int) : (gnulled l key).length = gM l := by simp [gnulled, gcols_len]
theorem gcol_kind (l : List Col) (i : Nat) : 1 ≤ (gcol l i).kind ∧ (gcol l i).kind ≤ 3 := by
  unfold gcol
  cases l[i]? with
  | none => simp
  | some c =>
    have h1 := Int.emod_nonneg c.kind (by omega : (3 : Int) ≠ 0)
    have h2 := Int.emod_lt_of_pos c.kind (by omega : (0 : Int) < 3)
    simp only
    omega
theorem gnulled_kind (l : List Col) (key : Int) (i : Nat) (c : Col) (h : (gnulled l key)[i]? = some c) : 1 ≤ c.kind ∧ c.kind ≤ 3 := by
  unfold gnulled at h
  rw [List.getElem?_modify] at h
  simp only [gcols, List.getElem?_map, Option.map_eq_map] at h
  cases e : (List.range (gM l))[i]? with
  | none => rw [e] at h; simp at h
  | some j =>
    rw [e] at h
    simp only [Option.map_some, Option.some.injEq] at h
    have := gcol_kind l j
    by_cases hk : gkey l key = i
    · rw [if_pos hk] at h
      rw [← h]; exact this
    · rw [if_neg hk] at h
      rw [← h]; exact this
theorem gnulled_key (l : List Col) (key : Int) (c : Col) (h : (gnulled l key)[gkey l key]? = some c) : c.null = false := by
  unfold gnulled at h
  rw [List.getElem?_modify] at h
  simp only [Option.map_eq_map, if_true] at h
  cases e : (gcols l (gM l))[gkey l key]? with
  | none => rw [e] at h; simp at h
  | some j =>
    rw [e] at h
    simp only [Option.map_some, Option.some.injEq] at h
    rw [← h]; rfl

/-! ### Fit -/
def abc : ByteArray := ⟨#[97, 98, 99, 100, 101, 102, 103, 104, 105, 106, 107, 108, 109, 110, 111, 112, 113, 114, 115, 116, 117, 118, 119, 120, 121, 122]⟩
def kkV (i : Nat) (n : Int) : Int := (n.tdiv (1 + 3 * (i : Int))) % 40 - 5
def rawV (c : Col) (i : Nat) (n : Int) : V :=
  if c.kind = 1 then ⟨1, kkV i n % 2, ByteArray.empty⟩ else if c.kind = 2 then ⟨2, kkV i n, ByteArray.empty⟩ else if c.kind = 3 then ⟨3, 0, abc.extract 0 (kkV i n % 9).toNat⟩ else ⟨c.kind, 0, ByteArray.empty⟩
def fitV (c : Col) (i : Nat) (n : Int) : V := if c.null = true ∧ n % 5 = 0 then zV else rawV c i n
def fitL (cs : List Col) (n : Int) : List V := cs.mapIdx fun i c => fitV c i n
theorem fitL_len (cs : List Col) (n : Int) : (fitL cs n).length = cs.length := by simp [fitL]
theorem fitL_at (cs : List Col) (n : Int) (i : Nat) (c : Col) (h : cs[i]? = some c) : (fitL cs n)[i]? = some (fitV c i n) := by simp [fitL, h]
theorem fitL_succ (cs : List Col) (n : Int) (i : Nat) (c : Col) (h : cs[i]? = some c) : (fitL cs n).take (i + 1) = (fitL cs n).take i ++ [fitV c i n] := by
  rw [List.take_add_one, fitL_at cs n i c h]; rfl
theorem kk_bd (i : Nat) (n : Int) : -5 ≤ kkV i n ∧ kkV i n ≤ 34 := by
  unfold kkV
  have h1 := Int.emod_nonneg (n.tdiv (1 + 3 * (i : Int))) (by omega : (40 : Int) ≠ 0)
  have h2 := Int.emod_lt_of_pos (n.tdiv (1 + 3 * (i : Int))) (by omega : (0 : Int) < 40)
  omega
theorem zV_chk : vchk zV = 0 := by decide +kernel
theorem rawV_chk (c : Col) (i : Nat) (n : Int) (h : 1 ≤ c.kind ∧ c.kind ≤ 3) : vchk (rawV c i n) = 0 ∧ (rawV c i n).k = c.kind := by
  have hk := kk_bd i n
  unfold rawV
  by_cases h1 : c.kind = 1
  · rw [if_pos h1]
    have e : kkV i n % 2 = 0 ∨ kkV i n % 2 = 1 := by omega
    refine ⟨?_, h1.symm⟩
    rcases e with e | e <;> rw [e] <;> decide +kernel
  rw [if_neg h1]
  by_cases h2 : c.kind = 2
  · rw [if_pos h2]
    refine ⟨?_, h2.symm⟩
    unfold vchk chk vEq bareN bareS
    simp [ba_refl]
  rw [if_neg h2, if_pos (by omega)]
  refine ⟨?_, by simp; omega⟩
  have e : (abc.extract 0 (kkV i n % 9).toNat).size ≤ 60 := by
    rw [ByteArray.size_extract]
    have : abc.size = 26 := rfl
    omega
  unfold vchk chk vEq bareN bareS
  simp [ba_refl]
  omega
theorem fitV_ok (c : Col) (i : Nat) (n : Int) (h : 1 ≤ c.kind ∧ c.kind ≤ 3) : vchk (fitV c i n) = 0 ∧ ((fitV c i n).k = 0 → c.null = true) ∧ ((fitV c i n).k ≠ 0 → (fitV c i n).k = c.kind) := by
  obtain ⟨h1, h2⟩ := rawV_chk c i n h
  unfold fitV
  by_cases h3 : c.null = true ∧ n % 5 = 0
  · rw [if_pos h3]
    exact ⟨zV_chk, fun _ => h3.1, fun e => absurd rfl e⟩
  · rw [if_neg h3]
    exact ⟨h1, fun e => by omega, fun _ => h2⟩
theorem fitsGo_of : ∀ (cs : List Col) (r : List V), r.length = cs.length → (∀ (i : Nat) c v, cs[i]? = some c → r[i]? = some v → vchk v = 0 ∧ (v.k = 0 → c.null = true) ∧ (v.k ≠ 0 → v.k = c.kind)) → fitsGo cs r = 0
  | [], [], _, _ => rfl
  | [], v :: r, h, _ => rfl
  | c :: cs, [], h, _ => rfl
  | c :: cs, v :: r, h, hi => by
    obtain ⟨h1, h2, h3⟩ := hi 0 c v rfl rfl
    rw [fitsGo, if_neg (by simpa using h1), if_neg (fun e => by have := h2 e.1; rw [e.2] at this; cases this), if_neg (fun e => e.2 (h3 e.1))]
    exact fitsGo_of cs r (by simpa using h) (fun i c v hc hv => hi (i + 1) c v hc hv)
theorem fits_of {cs : List Col} {r : List V} (h : r.length = cs.length) (hi : ∀ (i : Nat) c v, cs[i]? = some c → r[i]? = some v → vchk v = 0 ∧ (v.k = 0 → c.null = true) ∧ (v.k ≠ 0 → v.k = c.kind)) : fitsL cs r = 0 := by
  unfold fitsL
  rw [if_neg (by omega)]
  exact fitsGo_of cs r h hi
/-- columns of kinds that are -/
def KindsOk (cs : List Col) : Prop := ∀ (i : Nat) c, cs[i]? = some c → 1 ≤ c.kind ∧ c.kind ≤ 3
theorem fit_fits {cs : List Col} (h : KindsOk cs) (n : Int) : fitsL cs (fitL cs n) = 0 :=
  fits_of (fitL_len cs n) (fun i c v hc hv => by
    rw [fitL_at cs n i c hc] at hv
    injection hv with hv
    rw [← hv]
    exact fitV_ok c i n (h i c hc))
/-- a schema that Good made -/
structure SOk (g : Sch) : Prop where
  nm : g.name.size ≤ 1000
  kinds : KindsOk g.cols
  pos : 1 ≤ g.cols.length
  six : g.cols.length ≤ 6
  key : g.key < g.cols.length
  kn : ∀ c, g.cols[g.key]? = some c → c.null = false
theorem good_ok (l : List Col) (key : Int) (only : Bool) : SOk (goodS l key only) := by
  have hM := gM_bd l
  have hl := gnulled_len l key
  have hk := gkey_lt l key
  exact ⟨(by decide : (⟨#[113, 100]⟩ : ByteArray).size ≤ 1000), gnulled_kind l key, by show 1 ≤ (gnulled l key).length; omega, by show (gnulled l key).length ≤ 6; omega, by show gkey l key < (gnulled l key).length; omega, gnulled_key l key⟩
theorem SOk.ok0 {g : Sch} (h : SOk g) : Ok g.cols g.key [] := ⟨h.key, h.kn, fun r hr => absurd hr (by simp), List.Pairwise.nil⟩
end Go.Proofs.Ytnlmbjmgmofeiaa.tb
