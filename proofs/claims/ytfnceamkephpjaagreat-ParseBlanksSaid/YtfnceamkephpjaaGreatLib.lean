/- General laws of this claim's own: a region that draws its order, walked along ONE order ('wpPerm'); small facts on Below. -/
import Derived.Test.YtfnceamkephpjaaGreatRows
import Derived.WalkKit
import Derived.ProofKit
import Derived.OpenShut
import Derived.Lib.Bytealg
import Derived.Lib.Hide
import Derived.Deep.RegionHeld3
import Derived.Lib.SmallJoins
import Derived.JoinedCond
import Derived.ChangeSame
namespace Go.Proofs.YtfnceamkephpjaaGreat.lib
open Go.ChangeShapes Go.WideShapes Go.ChangeAt Go.RowKit
set_option linter.unusedVariables false

theorem ret_int {k : IntKind} {a b : Int} (h : a = b) : Ending.returned (.int k a) = .returned (.int k b) := by rw [h]
theorem ret_bool {a b : Bool} (h : a = b) : Ending.returned (.bool a) = .returned (.bool b) := by rw [h]

section
variable {P : Program} {ops : Array Oper} {Q : Exit → Act → World → Prop} {md : Region.Mode} {S : World → Prop}

/-- One order of a region: (number, is it taken first?). A number that is not taken first must be the only one that may come up. -/
def permOk (md : Region.Mode) (ops : Array Oper) : List (Nat × Bool) → Array Bool → Bool
  | [], listed => (Region.ready md ops listed).isEmpty
  | (i, true) :: r, listed => (Region.ready md ops listed).contains i && Region.free md ops listed i && permOk md ops r (listed.setIfInBounds i true)
  | (i, false) :: r, listed => (match Region.ready md ops listed with | [j] => j == i | _ => false) && permOk md ops r (listed.setIfInBounds i true)

/-- The walk along it. -/
def wpPerm (P : Program) (ops : Array Oper) (Q : Exit → Act → World → Prop) (S : World → Prop) : List (Nat × Bool) → Act → World → Prop
  | [], a, w => Q .normal a w
  | (i, true) :: r, a, w => ∃ o v, ops[i]? = some o ∧ YieldsIf P ops S o v a ∧ wpPerm P ops Q S r (a.put o.dst v) w
  | (i, false) :: r, a, w => wpOp P ops Q i (fun a' w' => S w' ∧ wpPerm P ops Q S r a' w') a w

theorem wpAnyH_of_perm (hs : Region.noSelect ops = true) (hQ : ∀ c a d v w, Q (.panic c) (a.put d v) w → Q (.panic c) a w) :
    ∀ (l : List (Nat × Bool)) (fuel : Nat) (listed : Array Bool) (a : Act) (w : World), permOk md ops l listed = true → l.length ≤ fuel → S w → wpPerm P ops Q S l a w → wpAnyH P md ops Q S fuel listed a w
  | [], fuel, listed, a, w, hp, _, _, h => wpAnyH_done (by simpa [permOk] using hp) h fuel
  | (i, true) :: r, 0, listed, a, w, _, hf, _, _ => absurd hf (by simp)
  | (i, false) :: r, 0, listed, a, w, _, hf, _, _ => absurd hf (by simp)
  | (i, true) :: r, fuel + 1, listed, a, w, hp, hf, hS, h => by
    simp only [permOk, Bool.and_eq_true] at hp
    obtain ⟨⟨h1, h2⟩, h3⟩ := hp
    obtain ⟨o, v, ho, hy, hr⟩ := h
    exact wpAnyH_take ho hs h2 h1 (fun c a w => hQ c a _ _ w) hy hS (wpAnyH_of_perm hs hQ r fuel _ _ _ h3 (by simp at hf; omega) hS hr)
  | (i, false) :: r, fuel + 1, listed, a, w, hp, hf, hS, h => by
    simp only [permOk, Bool.and_eq_true] at hp
    obtain ⟨h1, h3⟩ := hp
    have hr : Region.ready md ops listed = [i] := by
      revert h1
      match Region.ready md ops listed with
      | [] => simp
      | [j] => simp
      | _ :: _ :: _ => simp
    refine wpAnyH_all hr (by simp) ?_
    intro j hj
    have hj : j = i := by simpa using hj
    subst hj
    exact wpOp_mono (fun a' w' h' => ⟨h'.1, wpAnyH_of_perm hs hQ r fuel _ a' w' h3 (by simp at hf; omega) h'.1 h'.2⟩) h

theorem wp_region_perm {id : Nat} {a : Act} {w : World} (l : List (Nat × Bool)) (hm : P.follows .mixedOrders = true) (hs : Region.noSelect ops = true)
    (hp : permOk .any ops l (Array.replicate ops.size false) = true) (hl : l.length ≤ ops.size) (hQ : ∀ c a d v w, Q (.panic c) (a.put d v) w → Q (.panic c) a w)
    (hS : S w.drew) (h : wpPerm P ops Q S l a w.drew) : (Code.region id ops true).wp P Q a w :=
  wp_region_held_drew (S := S) hm hS (fun _ => wpAnyH_of_perm hs hQ l ops.size _ a _ hp hl hS h)

/-- taken, its guard says no -/
theorem wpPerm_off {i : Nat} {r : List (Nat × Bool)} {a : Act} {w : World} {o : Oper} {d : Tmp} (ho : ops[i]? = some o) (hd : o.dst = some d) (hw : Region.wanted o (yielded ops a.tmps) = false)
    (h : wpPerm P ops Q S r { a with tmps := a.tmps.setIfInBounds d undef } w) : wpPerm P ops Q S ((i, true) :: r) a w :=
  ⟨o, undef, ho, .inr ⟨hw, rfl⟩, by rw [hd]; exact h⟩
/-- taken: it yields v in every world that meets S -/
theorem wpPerm_on {i : Nat} {r : List (Nat × Bool)} {a : Act} {w : World} {o : Oper} {v : Value} {d : Tmp} (ho : ops[i]? = some o) (hd : o.dst = some d) (hw : Region.wanted o (yielded ops a.tmps) = true)
    (hy : ∀ w, S w → (execOp a.eval o).run P w = .ok (.value v) w)
    (h : wpPerm P ops Q S r { a with tmps := a.tmps.setIfInBounds d v } w) : wpPerm P ops Q S ((i, true) :: r) a w :=
  ⟨o, v, ho, .inl ⟨hw, hy⟩, by rw [hd]; exact h⟩
/-- carried out: S is shown anew behind it -/
theorem wpPerm_do {i : Nat} {r : List (Nat × Bool)} {a : Act} {w : World} {o : Oper} (ho : ops[i]? = some o) (hw : Region.wanted o (yielded ops a.tmps) = true)
    (h : ∀ K : Act → World → Prop, Shut (∀ a w, S w → wpPerm P ops Q S r a w → K a w) → Oper.wp P o a w K Q) : wpPerm P ops Q S ((i, false) :: r) a w := by
  have := wpOp_step (P := P) (ops := ops) (Q := Q) (a := a) (w := w) (K := fun a' w' => S w' ∧ wpPerm P ops Q S r a' w') ho (fun K hK => by
    rw [if_pos hw]
    exact h K (fun a w hs hr => hK a w ⟨hs, hr⟩))
  exact this
/-- carried out, its guard says no -/
theorem wpPerm_no {i : Nat} {r : List (Nat × Bool)} {a : Act} {w : World} {o : Oper} (ho : ops[i]? = some o) (hw : Region.wanted o (yielded ops a.tmps) = false) (hS : S w)
    (h : wpPerm P ops Q S r (a.put o.dst undef) w) : wpPerm P ops Q S ((i, false) :: r) a w := by
  show wpOp P ops Q i (fun a' w' => S w' ∧ wpPerm P ops Q S r a' w') a w
  unfold wpOp
  simp only [ho, hw]
  exact ⟨hS, h⟩

/-! ### Blocks that a region makes beside its calls, in whatever order -/
/-- An operation that only makes a block: its number, its slot, what it hands back (by the block's number), the block. -/
structure Alc where
  j : Nat
  d : Tmp
  val : Nat → Value
  o : Obj

def upd (γ : Nat → Option Nat) (j g : Nat) : Nat → Option Nat := fun k => if k = j then some g else γ k

def cover (γ : Nat → Option Nat) (a : Act) : List Alc → Act
  | [] => a
  | x :: A => match γ x.j with
    | some g => (cover γ a A).put (some x.d) (x.val g)
    | none => cover γ a A
def marked (γ : Nat → Option Nat) (l : Array Bool) : List Alc → Array Bool
  | [] => l
  | x :: A => match γ x.j with
    | some _ => (marked γ l A).setIfInBounds x.j true
    | none => marked γ l A

theorem cover_put {γ : Nat → Option Nat} (a : Act) (dst : Option Tmp) (v : Value) : ∀ (A : List Alc), (∀ x ∈ A, dst ≠ some x.d) → cover γ (a.put dst v) A = (cover γ a A).put dst v
  | [], _ => rfl
  | x :: A, h => by
    have ih := cover_put (γ := γ) a dst v A (fun y hy => h y (List.mem_cons_of_mem _ hy))
    unfold cover
    cases γ x.j with
    | none => exact ih
    | some g =>
      simp only [ih]
      exact Act.put_comm _ v _ (fun d hd hx => by injection hx with hx; exact h x (List.mem_cons_self ..) (by rw [hd, hx]))
theorem cover_defers {γ : Nat → Option Nat} (a : Act) (d : Deferred) : ∀ (A : List Alc), cover γ { a with defers := d :: a.defers } A = { cover γ a A with defers := d :: (cover γ a A).defers }
  | [] => rfl
  | x :: A => by
    have ih := cover_defers (γ := γ) a d A
    unfold cover
    cases γ x.j with
    | none => exact ih
    | some g => simp only [ih]; rfl
theorem cover_upd_far {γ : Nat → Option Nat} (a : Act) (j g : Nat) : ∀ (A : List Alc), (∀ x ∈ A, x.j ≠ j) → cover (upd γ j g) a A = cover γ a A
  | [], _ => rfl
  | x :: A, h => by
    have ih := cover_upd_far (γ := γ) a j g A (fun y hy => h y (List.mem_cons_of_mem _ hy))
    have hx : upd γ j g x.j = γ x.j := by unfold upd; rw [if_neg (h x (List.mem_cons_self ..))]
    unfold cover
    rw [hx, ih]
theorem marked_upd_far {γ : Nat → Option Nat} (l : Array Bool) (j g : Nat) : ∀ (A : List Alc), (∀ x ∈ A, x.j ≠ j) → marked (upd γ j g) l A = marked γ l A
  | [], _ => rfl
  | x :: A, h => by
    have ih := marked_upd_far (γ := γ) l j g A (fun y hy => h y (List.mem_cons_of_mem _ hy))
    have hx : upd γ j g x.j = γ x.j := by unfold upd; rw [if_neg (h x (List.mem_cons_self ..))]
    unfold marked
    rw [hx, ih]
theorem cover_upd {γ : Nat → Option Nat} (a : Act) (x : Alc) (g : Nat) (hγ : γ x.j = none) : ∀ (A : List Alc), (A.map (·.j)).Nodup → (A.map (·.d)).Nodup → x ∈ A →
    cover (upd γ x.j g) a A = (cover γ a A).put (some x.d) (x.val g)
  | [], _, _, h => by cases h
  | y :: A, hj, hd, h => by
    simp only [List.map_cons, List.nodup_cons, List.mem_map, not_exists, not_and] at hj hd
    rcases List.mem_cons.1 h with rfl | h
    · have e := cover_upd_far (γ := γ) a x.j g A (fun z hz => hj.1 z hz)
      have hx : upd γ x.j g x.j = some g := by unfold upd; rw [if_pos rfl]
      unfold cover
      rw [hx, hγ, e]
    · have ih := cover_upd a x g hγ A hj.2 hd.2 h
      have hne : y.j ≠ x.j := fun e => hj.1 x h e.symm
      have hx : upd γ x.j g y.j = γ y.j := by unfold upd; rw [if_neg hne]
      unfold cover
      rw [hx, ih]
      cases γ y.j with
      | none => rfl
      | some k => exact Act.put_comm _ _ _ (fun d h1 h2 => by injection h1 with h1; injection h2 with h2; exact hd.1 x h (by rw [h1, h2]))
theorem marked_upd {γ : Nat → Option Nat} (l : Array Bool) (x : Alc) (g : Nat) (hγ : γ x.j = none) : ∀ (A : List Alc), (A.map (·.j)).Nodup → x ∈ A →
    marked (upd γ x.j g) l A = (marked γ l A).setIfInBounds x.j true
  | [], _, h => by cases h
  | y :: A, hj, h => by
    simp only [List.map_cons, List.nodup_cons, List.mem_map, not_exists, not_and] at hj
    rcases List.mem_cons.1 h with rfl | h
    · have e := marked_upd_far (γ := γ) l x.j g A (fun z hz => hj.1 z hz)
      have hx : upd γ x.j g x.j = some g := by unfold upd; rw [if_pos rfl]
      unfold marked
      rw [hx, hγ, e]
    · have ih := marked_upd l x g hγ A hj.2 h
      have hne : y.j ≠ x.j := fun e => hj.1 x h e.symm
      have hx : upd γ x.j g y.j = γ y.j := by unfold upd; rw [if_neg hne]
      unfold marked
      rw [hx, ih]
      cases γ y.j with
      | none => rfl
      | some k => exact Array.setIfInBounds_comm _ _ (fun e => hne e.symm)
theorem marked_set {γ : Nat → Option Nat} (l : Array Bool) (i : Nat) : ∀ (A : List Alc), (∀ x ∈ A, x.j ≠ i) → marked γ (l.setIfInBounds i true) A = (marked γ l A).setIfInBounds i true
  | [], _ => rfl
  | x :: A, h => by
    have ih := marked_set (γ := γ) l i A (fun y hy => h y (List.mem_cons_of_mem _ hy))
    unfold marked
    rw [ih]
    cases γ x.j with
    | none => rfl
    | some g => exact Array.setIfInBounds_comm _ _ (fun e => h x (List.mem_cons_self ..) e.symm)
theorem marked_size {γ : Nat → Option Nat} (l : Array Bool) : ∀ (A : List Alc), (marked γ l A).size = l.size
  | [] => rfl
  | x :: A => by
    have ih := marked_size (γ := γ) l A
    unfold marked
    cases γ x.j with
    | none => exact ih
    | some g => simpa using ih
/-- what is marked -/
theorem marked_getD {γ : Nat → Option Nat} (l : Array Bool) (k : Nat) (b : Bool) (hk : k < l.size) : ∀ (A : List Alc), (marked γ l A).getD k b = true ↔ (l.getD k b = true ∨ ∃ x ∈ A, x.j = k ∧ (γ k).isSome = true)
  | [] => by simp [marked]
  | x :: A => by
    have ih := marked_getD (γ := γ) l k b hk A
    have hs := marked_size (γ := γ) l A
    unfold marked
    cases hx : γ x.j with
    | none =>
      rw [ih]
      constructor
      · rintro (h | ⟨y, hy, h⟩)
        · exact .inl h
        · exact .inr ⟨y, List.mem_cons_of_mem _ hy, h⟩
      · rintro (h | ⟨y, hy, rfl, h⟩)
        · exact .inl h
        · rcases List.mem_cons.1 hy with rfl | hy
          · rw [hx] at h; cases h
          · exact .inr ⟨y, hy, rfl, h⟩
    | some g =>
      by_cases hkx : x.j = k
      · subst hkx
        simp only [Array.getD_eq_getD_getElem?]
        rw [Array.getElem?_setIfInBounds_self_of_lt (by omega)]
        simp only [Option.getD_some, true_iff]
        exact .inr ⟨x, List.mem_cons_self .., rfl, by rw [hx]; rfl⟩
      · rw [getD_set_ne _ hkx, ih]
        constructor
        · rintro (h | ⟨y, hy, h⟩)
          · exact .inl h
          · exact .inr ⟨y, List.mem_cons_of_mem _ hy, h⟩
        · rintro (h | ⟨y, hy, rfl, h⟩)
          · exact .inl h
          · rcases List.mem_cons.1 hy with rfl | hy
            · exact absurd rfl hkx
            · exact .inr ⟨y, hy, rfl, h⟩

theorem cover_exec {γ : Nat → Option Nat} (o : Oper) (hs : ∀ cs b, o.op ≠ .select cs b) (a : Act) : ∀ (A : List Alc), (∀ x ∈ A, x.d ∉ o.looksAt ops) → execOp (cover γ a A).eval o = execOp a.eval o
  | [], _ => rfl
  | x :: A, h => by
    have ih := cover_exec (γ := γ) o hs a A (fun y hy => h y (List.mem_cons_of_mem _ hy))
    unfold cover
    cases γ x.j with
    | none => exact ih
    | some g =>
      simp only []
      rw [execOp_put (ops := ops) o hs _ _ _ (fun d hd => by injection hd with hd; subst hd; exact h x (List.mem_cons_self ..)), ih]
theorem cover_wanted {γ : Nat → Option Nat} (o : Oper) (a : Act) : ∀ (A : List Alc), (∀ x ∈ A, x.d ∉ o.looksAt ops) → Region.wanted o (yielded ops (cover γ a A).tmps) = Region.wanted o (yielded ops a.tmps)
  | [], _ => rfl
  | x :: A, h => by
    have ih := cover_wanted (γ := γ) o a A (fun y hy => h y (List.mem_cons_of_mem _ hy))
    unfold cover
    cases γ x.j with
    | none => exact ih
    | some g =>
      simp only []
      rw [wanted_put o _ _ _ (fun d hd => by injection hd with hd; subst hd; exact h x (List.mem_cons_self ..)), ih]

/-- One operation, over slots that it does not look at. -/
theorem wpOp_cover {γ : Nat → Option Nat} {A : List Alc} {i : Nat} {oi : Oper} (hi : ops[i]? = some oi) (hsi : ∀ cs b, oi.op ≠ .select cs b)
    (hA : ∀ x ∈ A, x.d ∉ oi.looksAt ops ∧ oi.dst ≠ some x.d) (hQ : ∀ c a a' w, Q (.panic c) a w → Q (.panic c) a' w)
    (Z : Act → Prop) (hZp : ∀ a u, Z a → Z (a.put oi.dst u)) (hZd : ∀ a d, Z a → Z { a with defers := d :: a.defers })
    {K : Act → World → Prop} {a : Act} {w : World} (hz : Z a) (h : wpOp P ops Q i K a w) :
    wpOp P ops Q i (fun a' w' => ∃ a0, a' = cover γ a0 A ∧ Z a0 ∧ K a0 w') (cover γ a A) w := by
  have hA1 : ∀ x ∈ A, x.d ∉ oi.looksAt ops := fun x hx => (hA x hx).1
  have hA2 : ∀ x ∈ A, oi.dst ≠ some x.d := fun x hx => (hA x hx).2
  unfold wpOp at *
  simp only [hi] at *
  rw [cover_wanted oi a A hA1]
  split
  · rename_i hw
    simp only [hw, if_true] at h
    rcases h with h | ⟨hasks, hlets⟩
    case inr => exact .inr ⟨by unfold Oper.asks at *; rw [cover_exec (ops := ops) oi hsi a A hA1]; exact hasks, hlets⟩
    refine .inl ?_
    unfold Oper.wp at *
    rw [cover_exec (ops := ops) oi hsi a A hA1]
    generalize (execOp a.eval oi).run P w = r at *
    cases r with
    | ok n w' =>
      cases n <;> simp only [Oper.upon] at h ⊢
      case value u => exact ⟨_, (cover_put a _ u A hA2).symm, hZp _ _ hz, h⟩
      case skip => exact ⟨_, (cover_put a _ undef A hA2).symm, hZp _ _ hz, h⟩
      case defer d =>
        refine ⟨_, ?_, hZp _ _ (hZd _ d hz), h⟩
        rw [cover_put _ _ undef A hA2, cover_defers]
      case enter f args =>
        refine Calls.mono h fun e w'' he => ?_
        cases e with
        | returned u => exact ⟨_, (cover_put a _ u A hA2).symm, hZp _ _ hz, he⟩
        | panicked c => exact hQ _ _ _ _ he
        | outgrown => exact he
      case row row args => exact Rows.mono h fun u w'' he => ⟨_, (cover_put a _ u A hA2).symm, hZp _ _ hz, he⟩
    | halt x w' =>
      cases x <;> simp only [Oper.upon] at h ⊢
      case panic u => exact hQ _ _ _ _ h
  · rename_i hw
    simp only [hw] at h
    exact ⟨_, (cover_put a _ undef A hA2).symm, hZp _ _ hz, h⟩

/-- A world with more blocks; what there was is as it was. -/
def Ext (w w' : World) : Prop := Below w.heap.size w w'
theorem Ext.refl (w : World) : Ext w w := Below.refl _ _
theorem Ext.trans {a b c : World} (h : Ext a b) (k : Ext b c) : Ext a c := Below.trans h (Below.mono k h.size)

/-- The walk along one order, while others may make blocks. -/
def wpI (P : Program) (ops : Array Oper) (Q : Exit → Act → World → Prop) (S : World → Prop) (K : Act → World → Prop) : List (Nat × Bool) → Act → World → Prop
  | [], a, w => K a w
  | (i, true) :: r, a, w => ∃ o v, ops[i]? = some o ∧ YieldsIf P ops S o v a ∧ wpI P ops Q S K r (a.put o.dst v) w
  | (i, false) :: r, a, w => ∀ w', Ext w w' → S w' → wpOp P ops Q i (fun a'' w'' => Ext w' w'' ∧ wpI P ops Q S K r a'' w'') a w'

def AllocsOk (P : Program) (ops : Array Oper) (A : List Alc) (a : Act) : Prop :=
  ∀ x ∈ A, ∃ o, ops[x.j]? = some o ∧ o.dst = some x.d ∧ Region.wanted o (yielded ops a.tmps) = true ∧ ∀ w, (execOp a.eval o).run P w = .ok (.value (x.val w.heap.size)) (w.alloc x.o)

def apartB (ops : Array Oper) (i j : Nat) : Bool := match ops[i]?, ops[j]? with
  | some x, some y => x.apart ops y && y.apart ops x
  | _, _ => false

def chkI (md : Region.Mode) (ops : Array Oper) (A : List Nat) : List (Nat × Bool) → Array Bool → Bool
  | [], l => A.all fun j => (Region.ready md ops ((A.filter (· != j)).foldr (fun k l => l.setIfInBounds k true) l)).all (· == j)
  | (i, true) :: r, l => (Region.ready md ops l).contains i && Region.free md ops l i && A.all (fun j => j != i && apartB ops i j) && chkI md ops A r (l.setIfInBounds i true)
  | (i, false) :: r, l => (Region.ready md ops l).contains i && (Region.ready md ops (A.foldr (fun k l => l.setIfInBounds k true) l)).all (· == i) && A.all (fun j => j != i && apartB ops i j) && chkI md ops A r (l.setIfInBounds i true)

/-- what is true of the blocks that are made -/
structure Made (A : List Alc) (γ : Nat → Option Nat) (N : Nat) (w : World) : Prop where
  lo : ∀ x ∈ A, ∀ g, γ x.j = some g → N ≤ g ∧ g < w.heap.size
  at_ : ∀ x ∈ A, ∀ g, γ x.j = some g → w.heap[g]? = some x.o
  ne_ : ∀ x ∈ A, ∀ y ∈ A, x.j ≠ y.j → ∀ g h, γ x.j = some g → γ y.j = some h → g ≠ h
theorem Made.ext {A : List Alc} {γ : Nat → Option Nat} {N : Nat} {w w' : World} (h : Made A γ N w) (e : Ext w w') : Made A γ N w' :=
  ⟨fun x hx g hg => ⟨(h.lo x hx g hg).1, Nat.lt_of_lt_of_le (h.lo x hx g hg).2 e.size⟩, fun x hx g hg => (e.block g (h.lo x hx g hg).2).trans (h.at_ x hx g hg), h.ne_⟩

theorem apartB_spec {i j : Nat} {x y : Oper} (hx : ops[i]? = some x) (hy : ops[j]? = some y) (h : apartB ops i j = true) : x.apart ops y = true ∧ y.apart ops x = true := by
  unfold apartB at h
  simpa [hx, hy] using h

/-- which operations may come up, where some of A are done -/
theorem ready_sub {γ : Nat → Option Nat} {A : List Alc} {l : Array Bool} {A' : List Nat} (hsz : l.size = ops.size) (hA' : ∀ x ∈ A, (γ x.j).isSome = true → x.j ∈ A') {k : Nat}
    (hk : k ∈ Region.ready md ops (marked γ l A)) (hkA : k ∉ A') : k ∈ Region.ready md ops (A'.foldr (fun k l => l.setIfInBounds k true) l) := by
  have key : ∀ (A' : List Nat) (k : Nat) (b : Bool), k < l.size → ((A'.foldr (fun k l => l.setIfInBounds k true) l).getD k b = true ↔ (l.getD k b = true ∨ k ∈ A')) := by
    intro A' k b hk
    have hs : ∀ A' : List Nat, (A'.foldr (fun k l => l.setIfInBounds k true) l).size = l.size := by
      intro A'
      induction A' with
      | nil => rfl
      | cons x A' ih => simpa using ih
    induction A' with
    | nil => simp
    | cons x A' ih =>
      rw [List.foldr_cons]
      by_cases hx : x = k
      · subst hx
        simp only [Array.getD_eq_getD_getElem?]
        rw [Array.getElem?_setIfInBounds_self_of_lt (by have := hs A'; omega)]
        simp
      · rw [getD_set_ne _ hx]
        refine Iff.trans ih ⟨?_, ?_⟩
        · rintro (h | h)
          · exact .inl h
          · exact .inr (List.mem_cons_of_mem _ h)
        · rintro (h | h)
          · exact .inl h
          · rcases List.mem_cons.1 h with h | h
            · exact absurd h.symm hx
            · exact .inr h
  obtain ⟨h0, o, ho, hall⟩ := mem_ready.1 hk
  have hlt : k < l.size := by rw [hsz]; exact (Array.getElem?_eq_some_iff.1 ho).1
  have hs0 : (marked γ l A).size = l.size := marked_size l A
  refine mem_ready.2 ⟨?_, o, ho, fun e he hb => ?_⟩
  · have h1 : ¬ ((marked γ l A).getD k true = true) := by rw [h0]; decide
    rw [marked_getD l k true hlt A] at h1
    have h2 : ¬ (A'.foldr (fun k l => l.setIfInBounds k true) l).getD k true = true := by
      rw [key A' k true hlt]
      rintro (h | h)
      · exact h1 (.inl h)
      · exact hkA h
    simpa using h2
  · have h1 := hall e he hb
    have hlt2 : e.on < l.size := by
      rcases Nat.lt_or_ge e.on l.size with h | h
      · exact h
      · simp only [Array.getD_eq_getD_getElem?] at h1
        rw [Array.getElem?_eq_none (by omega)] at h1
        simp at h1
    rw [marked_getD l _ _ hlt2 A] at h1
    rw [key A' _ _ hlt2]
    rcases h1 with h1 | ⟨x, hx, hxe, hs⟩
    · exact .inl h1
    · exact .inr (hxe ▸ hA' x hx (by rw [hxe]; exact hs))

theorem allocsOk_put {A : List Alc} {i : Nat} {oi : Oper} (hsel : Region.noSelect ops = true) (hi : ops[i]? = some oi) (hap : ∀ x ∈ A, apartB ops i x.j = true) (a : Act) (u : Value) (h : AllocsOk P ops A a) :
    AllocsOk P ops A (a.put oi.dst u) := by
  intro x hx
  obtain ⟨o, ho, hd, hw, hr⟩ := h x hx
  obtain ⟨h1, _, _⟩ := Oper.apart_spec (apartB_spec hi ho (hap x hx)).1
  have hsx : ∀ cs b, o.op ≠ .select cs b := fun cs b => Region.noSelect_spec hsel x.j o cs b ho
  refine ⟨o, ho, hd, by rw [wanted_put o a _ u h1]; exact hw, fun w => ?_⟩
  rw [execOp_put o hsx a _ u h1]
  exact hr w

/-- the marks of the order l1, laid on l -/
def lay : List (Nat × Bool) → Array Bool → Array Bool
  | [], l => l
  | (i, _) :: r, l => lay r (l.setIfInBounds i true)

theorem alc_inj : ∀ (A : List Alc), (A.map (·.j)).Nodup → ∀ y ∈ A, ∀ x ∈ A, y.j = x.j → y = x
  | [], _, y, hy, _, _, _ => by cases hy
  | z :: A, hj, y, hy, x, hx, e => by
    simp only [List.map_cons, List.nodup_cons, List.mem_map, not_exists, not_and] at hj
    rcases List.mem_cons.1 hy with rfl | hy1
    · rcases List.mem_cons.1 hx with rfl | hx1
      · rfl
      · exact absurd e.symm (hj.1 x hx1)
    · rcases List.mem_cons.1 hx with rfl | hx1
      · exact absurd e (hj.1 y hy1)
      · exact alc_inj A hj.2 y hy1 x hx1 e
/-- THE WALK ALONG ONE ORDER IS ENOUGH. -/
theorem wpAnyH_of_permI {A : List Alc} {N : Nat} {K : Act → World → Prop} {m : Nat} (hsel : Region.noSelect ops = true) (hQ : ∀ c a a' w, Q (.panic c) a w → Q (.panic c) a' w)
    (hj : (A.map (·.j)).Nodup) (hd : (A.map (·.d)).Nodup) (hAA : ∀ x ∈ A, ∀ y ∈ A, ∀ o, ops[y.j]? = some o → x.d ∉ o.looksAt ops)
    (hSx : ∀ w w', Ext w w' → S w → S w') (hN : ∀ w, S w → N ≤ w.heap.size) (lf : Array Bool)
    (hK : ∀ (γ : Nat → Option Nat) (a : Act) (w wf : World) (fuel : Nat), (∀ x ∈ A, (γ x.j).isSome = true) → K a w → Ext w wf → S wf → Made A γ N wf → m ≤ fuel →
      wpAnyH P md ops Q S fuel (marked γ lf A) (cover γ a A) wf) :
    ∀ (fuel : Nat) (l1 : List (Nat × Bool)) (l : Array Bool) (a : Act) (w wc : World) (γ : Nat → Option Nat), chkI md ops (A.map (·.j)) l1 l = true → lay l1 l = lf → l.size = ops.size →
      (∀ x ∈ A, l.getD x.j true = false) → l1.length + (A.filter fun x => (γ x.j).isNone).length + m ≤ fuel → wpI P ops Q S K l1 a w → Ext w wc → S wc → Made A γ N wc → AllocsOk P ops A a →
      (∀ x ∈ A, x.j ∈ Region.ready md ops l) → wpAnyH P md ops Q S fuel (marked γ l A) (cover γ a A) wc := by
  intro fuel
  induction fuel with
  | zero =>
    intro l1 l a w wc γ hc hlay hsz hlA hf hI he hS hM hO hrA
    have h1 : l1 = [] := by cases l1 <;> simp at hf <;> rfl
    subst h1
    have hall : ∀ x ∈ A, (γ x.j).isSome = true := fun x hx => by
      cases hx' : γ x.j with
      | some g => rfl
      | none =>
        have : x ∈ A.filter fun x => (γ x.j).isNone := List.mem_filter.2 ⟨hx, by rw [hx']; rfl⟩
        have := List.length_pos_of_mem this
        omega
    subst hlay
    exact hK γ a w wc 0 hall hI he hS hM (by omega)
  | succ fuel ih =>
    intro l1 l a w wc γ hc hlay hsz hlA hf hI he hS hM hO hrA
    -- an alloc comes up
    have step : ∀ x ∈ A, γ x.j = none → x.j ∈ Region.ready md ops (marked γ l A) →
        wpOp P ops Q x.j (fun a' w' => S w' ∧ wpAnyH P md ops Q S fuel ((marked γ l A).setIfInBounds x.j true) a' w') (cover γ a A) wc := by
      intro x hx hγ hr
      obtain ⟨o, ho, hdo, hw, hrun⟩ := hO x hx
      have hsx : ∀ cs b, o.op ≠ .select cs b := fun cs b => Region.noSelect_spec hsel x.j o cs b ho
      have hlk : ∀ y ∈ A, y.d ∉ o.looksAt ops := fun y hy => hAA y hy x hx o ho
      unfold wpOp
      simp only [ho]
      rw [cover_wanted o a A hlk, if_pos hw]
      refine .inl ?_
      unfold Oper.wp
      rw [cover_exec (ops := ops) o hsx a A hlk, hrun wc]
      simp only [Oper.upon]
      have hext : Ext wc (wc.alloc x.o) := (Below.refl _ _).alloc (Nat.le_refl _) _
      refine ⟨hSx _ _ hext hS, ?_⟩
      have h1 := cover_upd a x wc.heap.size hγ A hj hd hx
      have h2 := marked_upd l x wc.heap.size hγ A hj hx
      rw [hdo, ← h1, ← h2]
      refine ih l1 l a w (wc.alloc x.o) (upd γ x.j wc.heap.size) hc hlay hsz hlA ?_ hI (he.trans hext) (hSx _ _ hext hS) ?_ hO hrA
      · have hlt : (A.filter fun y => (upd γ x.j wc.heap.size y.j).isNone).length < (A.filter fun y => (γ y.j).isNone).length := by
          have hsub : ∀ (B : List Alc), (B.filter fun y => (upd γ x.j wc.heap.size y.j).isNone).length ≤ (B.filter fun y => (γ y.j).isNone).length ∧ (x ∈ B → (B.filter fun y => (upd γ x.j wc.heap.size y.j).isNone).length < (B.filter fun y => (γ y.j).isNone).length) := by
            intro B
            induction B with
            | nil => simp
            | cons y B ihB =>
              simp only [List.filter_cons]
              by_cases hy : y.j = x.j
              · have e1 : (upd γ x.j wc.heap.size y.j).isNone = false := by unfold upd; rw [if_pos hy]; rfl
                have e2 : (γ y.j).isNone = true := by rw [hy, hγ]; rfl
                rw [e1, e2]
                simp only [Bool.false_eq_true, if_false, if_true, List.length_cons]
                exact ⟨by omega, fun _ => by omega⟩
              · have e1 : upd γ x.j wc.heap.size y.j = γ y.j := by unfold upd; rw [if_neg hy]
                rw [e1]
                have hxy : x ∈ y :: B → x ∈ B := fun h => by
                  rcases List.mem_cons.1 h with h | h
                  · exact absurd (by rw [h]) hy
                  · exact h
                split
                · simp only [List.length_cons]
                  exact ⟨by omega, fun h => by have := ihB.2 (hxy h); omega⟩
                · exact ⟨ihB.1, fun h => ihB.2 (hxy h)⟩
          exact (hsub A).2 hx
        omega
      · have hsz' : (wc.alloc x.o).heap.size = wc.heap.size + 1 := by simp
        refine ⟨fun y hy g hg => ?_, fun y hy g hg => ?_, fun y hy z hz hne g h hg hh => ?_⟩
        · unfold upd at hg
          split at hg
          · injection hg with hg; subst hg; exact ⟨hN _ hS, by omega⟩
          · have := hM.lo y hy g hg; exact ⟨this.1, by omega⟩
        · unfold upd at hg
          split at hg
          · rename_i hyx
            injection hg with hg
            have hyx' : y = x := by
              exact alc_inj A hj y hy x hx hyx
            rw [hyx', ← hg]
            show (wc.heap.push x.o)[wc.heap.size]? = some x.o
            simp
          · have h1 := hM.lo y hy g hg
            exact (hext.block g h1.2).trans (hM.at_ y hy g hg)
        · unfold upd at hg hh
          split at hg
          · rename_i e1
            split at hh
            · rename_i e2; exact absurd (e1.trans e2.symm) hne
            · injection hg with hg
              have := hM.lo z hz h hh
              omega
          · split at hh
            · injection hh with hh
              have := hM.lo y hy g hg
              omega
            · exact hM.ne_ y hy z hz hne g h hg hh
    match l1, hc, hlay, hf, hI with
    | [], hc, hlay, hf, hI =>
      by_cases hall : ∀ x ∈ A, (γ x.j).isSome = true
      · subst hlay
        exact hK γ a w wc (fuel + 1) hall hI he hS hM (by simp at hf; omega)
      · simp only [chkI, List.all_eq_true] at hc
        have hnone : ∃ x ∈ A, γ x.j = none := by
          apply Classical.byContradiction
          intro h
          apply hall
          intro x hx
          cases e : γ x.j with
          | some g => rfl
          | none => exact absurd ⟨x, hx, e⟩ h
        have hrdy : ∀ k ∈ Region.ready md ops (marked γ l A), ∃ x ∈ A, x.j = k ∧ γ x.j = none := by
          intro k hk
          obtain ⟨x, hx, hγ⟩ := hnone
          by_cases hkA : ∃ y ∈ A, y.j = k
          · obtain ⟨y, hy, rfl⟩ := hkA
            refine ⟨y, hy, rfl, ?_⟩
            obtain ⟨h0, o, ho, _⟩ := mem_ready.1 hk
            cases e : γ y.j with
            | none => rfl
            | some g =>
              have hlt : y.j < l.size := by rw [hsz]; exact (Array.getElem?_eq_some_iff.1 ho).1
              have := (marked_getD (γ := γ) l y.j true hlt A).2 (.inr ⟨y, hy, rfl, by rw [e]; rfl⟩)
              rw [h0] at this
              cases this
          · have h1 := ready_sub (md := md) (γ := γ) (A := A) (l := l) (A' := (A.map (·.j)).filter (· != x.j)) hsz (fun y hy hs => by
              simp only [List.mem_filter, List.mem_map]
              refine ⟨⟨y, hy, rfl⟩, ?_⟩
              have : y.j ≠ x.j := fun e => by rw [e, hγ] at hs; cases hs
              simpa using this) hk (fun h => by
              simp only [List.mem_filter, List.mem_map] at h
              obtain ⟨⟨y, hy, e⟩, _⟩ := h
              exact hkA ⟨y, hy, e⟩)
            have h2 := hc x.j (List.mem_map.2 ⟨x, hx, rfl⟩) k h1
            exact ⟨x, hx, by simpa using (beq_iff_eq.1 h2).symm, hγ⟩
        refine ⟨fun h0 => ?_, fun k hk => ?_⟩
        · obtain ⟨x, hx, hγ⟩ := hnone
          have hxr : x.j ∈ Region.ready md ops (marked γ l A) := by
            have h1 := hrA x hx
            obtain ⟨h0', o, ho, hal⟩ := mem_ready.1 h1
            have hlt : x.j < l.size := by rw [hsz]; exact (Array.getElem?_eq_some_iff.1 ho).1
            refine mem_ready.2 ⟨?_, o, ho, fun e he' hb => ?_⟩
            · have : ¬ (marked γ l A).getD x.j true = true := by
                rw [marked_getD l x.j true hlt A]
                rintro (h | ⟨_, _, _, h⟩)
                · rw [h0'] at h; cases h
                · rw [hγ] at h; cases h
              simpa using this
            · have h2 := hal e he' hb
              have hlt2 : e.on < l.size := by
                rcases Nat.lt_or_ge e.on l.size with h | h
                · exact h
                · simp only [Array.getD_eq_getD_getElem?] at h2
                  rw [Array.getElem?_eq_none (by omega)] at h2
                  simp at h2
              exact (marked_getD l _ _ hlt2 A).2 (.inl h2)
          rw [h0] at hxr
          cases hxr
        · obtain ⟨x, hx, rfl, hγ⟩ := hrdy k hk
          exact step x hx hγ hk
    | (i, true) :: r, hc, hlay, hf, hI =>
      simp only [chkI, Bool.and_eq_true, List.all_eq_true, List.mem_map, forall_exists_index, and_imp, forall_apply_eq_imp_iff₂, bne_iff_ne, ne_eq] at hc
      obtain ⟨⟨⟨h1, h2⟩, h3⟩, h4⟩ := hc
      obtain ⟨o, v, ho, hy, hr⟩ := hI
      have hli : ∀ x ∈ A, x.j ≠ i := fun x hx => (h3 x hx).1
      have hir : i ∈ Region.ready md ops (marked γ l A) := by
        have h1' : i ∈ Region.ready md ops l := by simpa using h1
        clear h1
        have hh : ∀ B : List Alc, (∀ x ∈ B, x.j ≠ i) → i ∈ Region.ready md ops (marked γ l B) := by
          intro B
          induction B with
          | nil => intro _; exact h1'
          | cons x B ihB =>
            intro hB
            have := ihB (fun y hy => hB y (List.mem_cons_of_mem _ hy))
            unfold marked
            cases γ x.j with
            | none => exact this
            | some g => exact ready_mono this (fun e => hB x (List.mem_cons_self ..) e.symm)
        exact hh A hli
      have hap : ∀ x ∈ A, x.d ∉ o.looksAt ops ∧ o.dst ≠ some x.d := by
        intro x hx
        obtain ⟨ox, hox, hdx, _⟩ := hO x hx
        obtain ⟨g1, g2, g3⟩ := Oper.apart_spec (apartB_spec ho hox (h3 x hx).2).1
        exact ⟨g3 x.d hdx, fun e => g2 x.d e hdx⟩
      have hsi : ∀ cs b, o.op ≠ .select cs b := fun cs b => Region.noSelect_spec hsel i o cs b ho
      have hy' : YieldsIf P ops S o v (cover γ a A) := hy.of_same (cover_exec (ops := ops) o hsi a A (fun x hx => (hap x hx).1)) (cover_wanted o a A (fun x hx => (hap x hx).1))
      refine wpAnyH_first ho (Region.noSelect_spec hsel) (fun c a w => hQ c _ _ w) fuel _ _ _ (fun j oj hoj hne hun hno => ?_) hir hy' hS ?_
      · refine Region.free_spec ho h2 j oj hoj hne ?_ hno
        have hlt : j < l.size := by rw [hsz]; exact (Array.getElem?_eq_some_iff.1 hoj).1
        have h5 : ¬ (marked γ l A).getD j true = true := by rw [hun]; decide
        rw [marked_getD l j true hlt A] at h5
        have h6 : ¬ l.getD j true = true := fun e => h5 (.inl e)
        simpa using h6
      · rw [← marked_set l i A hli, ← cover_put a _ v A (fun x hx => (hap x hx).2)]
        have hlen : ((i, true) :: r).length = r.length + 1 := rfl
        refine ih r (l.setIfInBounds i true) (a.put o.dst v) w wc γ h4 hlay (by simpa using hsz) (fun x hx => ?_) (by omega) hr he hS hM (allocsOk_put hsel ho (fun x hx => (h3 x hx).2) a v hO) (fun x hx => ready_mono (hrA x hx) (hli x hx))
        rw [getD_set_ne _ (fun e => hli x hx e.symm)]
        exact hlA x hx
    | (i, false) :: r, hc, hlay, hf, hI =>
      simp only [chkI, Bool.and_eq_true, List.all_eq_true, List.mem_map, forall_exists_index, and_imp, forall_apply_eq_imp_iff₂, bne_iff_ne, ne_eq] at hc
      obtain ⟨⟨⟨h0r, h1⟩, h3⟩, h4⟩ := hc
      have hli : ∀ x ∈ A, x.j ≠ i := fun x hx => (h3 x hx).1
      have hir : i ∈ Region.ready md ops (marked γ l A) := by
        have h1' : i ∈ Region.ready md ops l := by simpa using h0r
        clear h1
        have hh : ∀ B : List Alc, (∀ x ∈ B, x.j ≠ i) → i ∈ Region.ready md ops (marked γ l B) := by
          intro B
          induction B with
          | nil => intro _; exact h1'
          | cons x B ihB =>
            intro hB
            have := ihB (fun y hy => hB y (List.mem_cons_of_mem _ hy))
            unfold marked
            cases γ x.j with
            | none => exact this
            | some g => exact ready_mono this (fun e => hB x (List.mem_cons_self ..) e.symm)
        exact hh A hli
      have hne : Region.ready md ops (marked γ l A) ≠ [] → True := fun _ => trivial
      have hst : ∀ k ∈ Region.ready md ops (marked γ l A), wpOp P ops Q k (fun a' w' => S w' ∧ wpAnyH P md ops Q S fuel ((marked γ l A).setIfInBounds k true) a' w') (cover γ a A) wc := by
        intro k hk
        by_cases hkA : ∃ y ∈ A, y.j = k
        · obtain ⟨y, hy, rfl⟩ := hkA
          obtain ⟨h0, o, ho, _⟩ := mem_ready.1 hk
          have hγ : γ y.j = none := by
            cases e : γ y.j with
            | none => rfl
            | some g =>
              have hlt : y.j < l.size := by rw [hsz]; exact (Array.getElem?_eq_some_iff.1 ho).1
              have := (marked_getD (γ := γ) l y.j true hlt A).2 (.inr ⟨y, hy, rfl, by rw [e]; rfl⟩)
              rw [h0] at this
              cases this
          exact step y hy hγ hk
        · have h5 := ready_sub (md := md) (γ := γ) (A := A) (l := l) (A' := A.map (·.j)) hsz (fun y hy hs => List.mem_map.2 ⟨y, hy, rfl⟩) hk (fun h => by
            obtain ⟨y, hy, e⟩ := List.mem_map.1 h
            exact hkA ⟨y, hy, e⟩)
          have h6 : k = i := by simpa using h1 k h5
          subst h6
          obtain ⟨_, o, ho, _⟩ := mem_ready.1 hk
          have hsi : ∀ cs b, o.op ≠ .select cs b := fun cs b => Region.noSelect_spec hsel k o cs b ho
          have hap : ∀ x ∈ A, x.d ∉ o.looksAt ops ∧ o.dst ≠ some x.d := by
            intro x hx
            obtain ⟨ox, hox, hdx, _⟩ := hO x hx
            obtain ⟨g1, g2, g3⟩ := Oper.apart_spec (apartB_spec ho hox (h3 x hx).2).1
            exact ⟨g3 x.d hdx, fun e => g2 x.d e hdx⟩
          have h7 := wpOp_cover (γ := γ) (A := A) ho hsi hap hQ (AllocsOk P ops A) (fun a u hz => allocsOk_put hsel ho (fun x hx => (h3 x hx).2) a u hz) (fun a d hz => hz) hO (hI wc he hS)
          refine wpOp_mono (fun a' w' hh => ?_) h7
          obtain ⟨a0, rfl, hO0, he0, hr0⟩ := hh
          refine ⟨hSx _ _ he0 hS, ?_⟩
          rw [← marked_set l k A hli]
          have hlen : ((k, false) :: r).length = r.length + 1 := rfl
          refine ih r (l.setIfInBounds k true) a0 w' w' γ h4 hlay (by simpa using hsz) (fun x hx => ?_) (by omega) hr0 (Ext.refl _) (hSx _ _ he0 hS) (hM.ext he0) hO0 (fun x hx => ready_mono (hrA x hx) (hli x hx))
          rw [getD_set_ne _ (fun e => hli x hx e.symm)]
          exact hlA x hx
      refine ⟨fun h0 => ?_, hst⟩
      rw [h0] at hir
      cases hir

def chkT (md : Region.Mode) (ops : Array Oper) : List (Nat × Bool) → Array Bool → Bool
  | [], _ => true
  | (i, b) :: r, l => b && (Region.ready md ops l).contains i && Region.free md ops l i && chkT md ops r (l.setIfInBounds i true)

def nodupB : List Nat → Bool
  | [] => true
  | x :: l => !l.contains x && nodupB l
theorem nodupB_spec : ∀ l : List Nat, nodupB l = true → l.Nodup
  | [], _ => List.nodup_nil
  | x :: l, h => by
    simp only [nodupB, Bool.and_eq_true, Bool.not_eq_true', List.contains_eq_mem, decide_eq_false_iff_not] at h
    exact List.nodup_cons.2 ⟨h.1, nodupB_spec l h.2⟩

/-- all that is asked of the three orders, by reckoning -/
def chkAll (ops : Array Oper) (A : List (Nat × Nat)) (l0 l1 l2 : List (Nat × Bool)) : Bool :=
  let z := Array.replicate ops.size false
  let m0 := lay l0 z
  let m1 := lay l1 m0
  let js := A.map (·.1)
  Region.noSelect ops && chkT .any ops l0 z && nodupB js && nodupB (A.map (·.2)) && (A.all fun x => A.all fun y => match ops[y.1]? with | some o => !(o.looksAt ops).contains x.2 | none => true) &&
    (js.all fun j => (Region.ready .any ops m0).contains j && !m0.getD j true) && chkI .any ops js l1 m0 && permOk .any ops l2 (js.foldr (fun k l => l.setIfInBounds k true) m1) && decide (l0.length + l1.length + js.length + l2.length ≤ ops.size)

theorem lay_size : ∀ (l : List (Nat × Bool)) (z : Array Bool), (lay l z).size = z.size
  | [], _ => rfl
  | (i, _) :: r, z => by unfold lay; rw [lay_size r]; simp

theorem marked_all {γ : Nat → Option Nat} (l : Array Bool) : ∀ (A : List Alc), (∀ x ∈ A, (γ x.j).isSome = true) → marked γ l A = (A.map (·.j)).foldr (fun k l => l.setIfInBounds k true) l
  | [], _ => rfl
  | x :: A, h => by
    have ih := marked_all (γ := γ) l A (fun y hy => h y (List.mem_cons_of_mem _ hy))
    have hx := h x (List.mem_cons_self ..)
    unfold marked
    cases e : γ x.j with
    | none => rw [e] at hx; cases hx
    | some g => simp only [ih, List.map_cons, List.foldr_cons]

theorem marked_none (l : Array Bool) : ∀ (A : List Alc), marked (fun _ => none) l A = l
  | [] => rfl
  | x :: A => by unfold marked; exact marked_none l A
theorem cover_none (a : Act) : ∀ (A : List Alc), cover (fun _ => none) a A = a
  | [] => rfl
  | x :: A => by unfold cover; exact cover_none a A

theorem wpAnyH_of_T {K : Act → World → Prop} {m : Nat} (hs : Region.noSelect ops = true) (hQ : ∀ c a a' w, Q (.panic c) a w → Q (.panic c) a' w) :
    ∀ (l0 : List (Nat × Bool)) (l : Array Bool) (a : Act) (w : World) (fuel : Nat), chkT md ops l0 l = true → l0.length + m ≤ fuel → S w → wpI P ops Q S K l0 a w →
      (∀ a fuel, K a w → m ≤ fuel → wpAnyH P md ops Q S fuel (lay l0 l) a w) → wpAnyH P md ops Q S fuel l a w
  | [], l, a, w, fuel, _, hf, _, hI, hK => hK a fuel hI (by simpa using hf)
  | (i, b) :: r, l, a, w, 0, _, hf, _, _, _ => absurd hf (by simp)
  | (i, b) :: r, l, a, w, fuel + 1, hc, hf, hS, hI, hK => by
    simp only [chkT, Bool.and_eq_true] at hc
    obtain ⟨⟨⟨rfl, h1⟩, h2⟩, h3⟩ := hc
    obtain ⟨o, v, ho, hy, hr⟩ := hI
    have hlen : ((i, true) :: r).length = r.length + 1 := rfl
    exact wpAnyH_take ho hs h2 h1 (fun c a w => hQ c _ _ w) hy hS (wpAnyH_of_T hs hQ r _ _ w fuel h3 (by omega) hS hr hK)

/-- A REGION THAT DRAWS ITS ORDER, WALKED ALONG ONE: l0 (taken first), then l1 beside the blocks of A, then l2. -/
theorem wp_region_permI {id : Nat} {a : Act} {w : World} (A : List Alc) (l0 l1 l2 : List (Nat × Bool)) (hm : P.follows .mixedOrders = true)
    (hc : chkAll ops (A.map fun x => (x.j, x.d)) l0 l1 l2 = true) (hQ : ∀ c a a' w, Q (.panic c) a w → Q (.panic c) a' w)
    (h : wpI P ops Q (fun w' => Below w.heap.size w.drew w') (fun a1 w1 => AllocsOk P ops A a1 ∧ wpI P ops Q (fun w' => Below w.heap.size w.drew w')
      (fun a2 w2 => ∀ γ wf, (∀ x ∈ A, (γ x.j).isSome = true) → Ext w2 wf → Below w.heap.size w.drew wf → Made A γ w.heap.size wf → wpPerm P ops Q (fun w' => Below w.heap.size w.drew w') l2 (cover γ a2 A) wf) l1 a1 w1) l0 a w.drew) :
    (Code.region id ops true).wp P Q a w := by
  have hmj : (A.map fun x => (x.j, x.d)).map (·.1) = A.map (·.j) := by rw [List.map_map]; rfl
  have hmd : (A.map fun x => (x.j, x.d)).map (·.2) = A.map (·.d) := by rw [List.map_map]; rfl
  unfold chkAll at hc
  simp only [hmj, hmd, Bool.and_eq_true, decide_eq_true_eq] at hc
  obtain ⟨⟨⟨⟨⟨⟨⟨⟨h1, h2⟩, h3⟩, h4⟩, h5⟩, h6⟩, h7⟩, h8⟩, h9⟩ := hc
  have hS0 : Below w.heap.size w.drew w.drew := Below.refl _ _
  refine wp_region_held_drew (S := fun w' => Below w.heap.size w.drew w') hm hS0 (fun _ => ?_)
  refine wpAnyH_of_T (m := l1.length + (A.map (·.j)).length + l2.length) h1 hQ l0 _ a w.drew ops.size h2 (by omega) hS0 h ?_
  intro a1 fuel ⟨hO, hI⟩ hf
  have h5' : ∀ x ∈ A, ∀ y ∈ A, ∀ o, ops[y.j]? = some o → x.d ∉ o.looksAt ops := by
    intro x hx y hy o ho
    simp only [List.all_eq_true, List.mem_map, forall_exists_index, and_imp, forall_apply_eq_imp_iff₂] at h5
    have := h5 x hx y hy
    simp only [ho] at this
    simpa using this
  have h6' : ∀ x ∈ A, x.j ∈ Region.ready .any ops (lay l0 (Array.replicate ops.size false)) ∧ (lay l0 (Array.replicate ops.size false)).getD x.j true = false := by
    intro x hx
    simp only [List.all_eq_true, List.mem_map, forall_exists_index, and_imp, forall_apply_eq_imp_iff₂, Bool.and_eq_true] at h6
    have := h6 x hx
    exact ⟨by simpa using this.1, by simpa using this.2⟩
  have key := wpAnyH_of_permI (P := P) (ops := ops) (Q := Q) (md := .any) (S := fun w' => Below w.heap.size w.drew w') (A := A) (N := w.heap.size) (m := l2.length)
    (K := fun a2 w2 => ∀ γ wf, (∀ x ∈ A, (γ x.j).isSome = true) → Ext w2 wf → Below w.heap.size w.drew wf → Made A γ w.heap.size wf → wpPerm P ops Q (fun w' => Below w.heap.size w.drew w') l2 (cover γ a2 A) wf)
    h1 hQ (nodupB_spec _ h3) (nodupB_spec _ h4) h5' (fun w1 w2 he hb => hb.trans (he.mono hb.size)) (fun w1 hb => hb.size) (lay l1 (lay l0 (Array.replicate ops.size false)))
    (fun γ a2 w2 wf fuel hall hK he hb hM hf => by
      rw [marked_all _ A hall]
      exact wpAnyH_of_perm h1 (fun c a d v w => hQ c _ _ w) l2 fuel _ _ wf h8 hf hb (hK γ wf hall he hb hM))
    fuel l1 (lay l0 (Array.replicate ops.size false)) a1 w.drew w.drew (fun _ => none) h7 rfl (by rw [lay_size]; simp) (fun x hx => (h6' x hx).2) ?_ hI (Ext.refl _) hS0
    ⟨fun _ _ _ h => (by cases h), fun _ _ _ h => (by cases h), fun _ _ _ _ _ _ _ h => (by cases h)⟩ hO (fun x hx => (h6' x hx).1)
  · rw [marked_none, cover_none] at key
    exact key
  · have h0 : (A.filter fun _ => (none : Option Nat).isNone).length ≤ A.length := List.length_filter_le _ _
    simp only [List.length_map] at hf
    show l1.length + (A.filter fun _ => (none : Option Nat).isNone).length + l2.length ≤ fuel
    omega

/-- The two laws at a post that says nothing of a panic. -/
theorem wp_region_mix {id : Nat} {a : Act} {w : World} (A : List Alc) (l0 l1 l2 : List (Nat × Bool)) (hm : P.follows .mixedOrders = true)
    (hc : chkAll ops (A.map fun x => (x.j, x.d)) l0 l1 l2 = true)
    (h : wpI P ops (NoPanic Q) (fun w' => Below w.heap.size w.drew w') (fun a1 w1 => AllocsOk P ops A a1 ∧ wpI P ops (NoPanic Q) (fun w' => Below w.heap.size w.drew w')
      (fun a2 w2 => ∀ γ wf, (∀ x ∈ A, (γ x.j).isSome = true) → Ext w2 wf → Below w.heap.size w.drew wf → Made A γ w.heap.size wf → wpPerm P ops (NoPanic Q) (fun w' => Below w.heap.size w.drew w') l2 (cover γ a2 A) wf) l1 a1 w1) l0 a w.drew) :
    (Code.region id ops true).wp P Q a w :=
  wp_region_noPanic (wp_region_permI A l0 l1 l2 hm hc (fun _ _ _ _ h => h) h)
/-- no blocks beside calls: one order -/
theorem wp_region_one {id : Nat} {a : Act} {w : World} (l : List (Nat × Bool)) (hm : P.follows .mixedOrders = true) (hs : Region.noSelect ops = true)
    (hp : permOk .any ops l (Array.replicate ops.size false) = true) (hl : l.length ≤ ops.size)
    (h : wpPerm P ops (NoPanic Q) (fun w' => Below w.heap.size w.drew w') l a w.drew) : (Code.region id ops true).wp P Q a w :=
  wp_region_noPanic (wp_region_perm l hm hs hp hl (fun _ _ _ _ _ h => h) (Below.refl _ _) h)

theorem wpI_mono {K K' : Act → World → Prop} (hKK : ∀ a w, K a w → K' a w) : ∀ (l : List (Nat × Bool)) (a : Act) (w : World), wpI P ops Q S K l a w → wpI P ops Q S K' l a w
  | [], a, w, h => hKK a w h
  | (i, true) :: r, a, w, h => by
    obtain ⟨o, v, ho, hy, hr⟩ := h
    exact ⟨o, v, ho, hy, wpI_mono hKK r _ _ hr⟩
  | (i, false) :: r, a, w, h => fun w' he hS => wpOp_mono (fun a' w'' h' => ⟨h'.1, wpI_mono hKK r _ _ h'.2⟩) (h w' he hS)
/-- 1 block(s) beside the calls -/
theorem wp_region_mix1 {id : Nat} {a : Act} {w : World} (x1 : Alc) (l0 l1 l2 : List (Nat × Bool)) (hm : P.follows .mixedOrders = true)
    (hc : chkAll ops ([x1].map fun x => (x.j, x.d)) l0 l1 l2 = true)
    (h : wpI P ops (NoPanic Q) (fun w' => Below w.heap.size w.drew w') (fun a1 w1 => AllocsOk P ops [x1] a1 ∧ wpI P ops (NoPanic Q) (fun w' => Below w.heap.size w.drew w')
      (fun a2 w2 => ∀ g1 wf, Ext w2 wf → Below w.heap.size w.drew wf → w.heap.size ≤ g1 → g1 < wf.heap.size → wf.heap[g1]? = some x1.o →
        wpPerm P ops (NoPanic Q) (fun w' => Below w.heap.size w.drew w') l2 (a2.put (some x1.d) (x1.val g1)) wf) l1 a1 w1) l0 a w.drew) :
    (Code.region id ops true).wp P Q a w := by
  have hn : ([x1].map (·.j)).Nodup := by
    have hc' := hc
    unfold chkAll at hc'
    simp only [Bool.and_eq_true] at hc'
    have h3 := nodupB_spec _ hc'.1.1.1.1.1.1.2
    exact h3
  refine wp_region_mix [x1] l0 l1 l2 hm hc (wpI_mono (fun a1 w1 ⟨hO, hI⟩ => ⟨hO, wpI_mono (fun a2 w2 hK => ?_) l1 a1 w1 hI⟩) l0 a w.drew h)
  intro γ wf hall he hb hM
  obtain ⟨g1, e1⟩ := Option.isSome_iff_exists.1 (hall x1 (by simp))
  have hcov : cover γ a2 [x1] = (a2.put (some x1.d) (x1.val g1)) := by simp only [cover, e1]
  rw [hcov]
  exact hK g1 wf he hb (hM.lo x1 (by simp) g1 e1).1 (hM.lo x1 (by simp) g1 e1).2 (hM.at_ x1 (by simp) g1 e1) 

/-- 2 block(s) beside the calls -/
theorem wp_region_mix2 {id : Nat} {a : Act} {w : World} (x1 x2 : Alc) (l0 l1 l2 : List (Nat × Bool)) (hm : P.follows .mixedOrders = true)
    (hc : chkAll ops ([x1, x2].map fun x => (x.j, x.d)) l0 l1 l2 = true)
    (h : wpI P ops (NoPanic Q) (fun w' => Below w.heap.size w.drew w') (fun a1 w1 => AllocsOk P ops [x1, x2] a1 ∧ wpI P ops (NoPanic Q) (fun w' => Below w.heap.size w.drew w')
      (fun a2 w2 => ∀ g1 g2 wf, Ext w2 wf → Below w.heap.size w.drew wf → w.heap.size ≤ g1 → g1 < wf.heap.size → wf.heap[g1]? = some x1.o → w.heap.size ≤ g2 → g2 < wf.heap.size → wf.heap[g2]? = some x2.o → g1 ≠ g2 →
        wpPerm P ops (NoPanic Q) (fun w' => Below w.heap.size w.drew w') l2 ((a2.put (some x2.d) (x2.val g2)).put (some x1.d) (x1.val g1)) wf) l1 a1 w1) l0 a w.drew) :
    (Code.region id ops true).wp P Q a w := by
  have hn : ([x1, x2].map (·.j)).Nodup := by
    have hc' := hc
    unfold chkAll at hc'
    simp only [Bool.and_eq_true] at hc'
    have h3 := nodupB_spec _ hc'.1.1.1.1.1.1.2
    exact h3
  refine wp_region_mix [x1, x2] l0 l1 l2 hm hc (wpI_mono (fun a1 w1 ⟨hO, hI⟩ => ⟨hO, wpI_mono (fun a2 w2 hK => ?_) l1 a1 w1 hI⟩) l0 a w.drew h)
  intro γ wf hall he hb hM
  obtain ⟨g1, e1⟩ := Option.isSome_iff_exists.1 (hall x1 (by simp))
  obtain ⟨g2, e2⟩ := Option.isSome_iff_exists.1 (hall x2 (by simp))
  have hcov : cover γ a2 [x1, x2] = ((a2.put (some x2.d) (x2.val g2)).put (some x1.d) (x1.val g1)) := by simp only [cover, e1, e2]
  rw [hcov]
  simp only [List.map_cons, List.map_nil, List.nodup_cons, List.mem_cons, List.not_mem_nil, or_false, not_false_eq_true, List.nodup_nil, and_true] at hn
  exact hK g1 g2 wf he hb (hM.lo x1 (by simp) g1 e1).1 (hM.lo x1 (by simp) g1 e1).2 (hM.at_ x1 (by simp) g1 e1) (hM.lo x2 (by simp) g2 e2).1 (hM.lo x2 (by simp) g2 e2).2 (hM.at_ x2 (by simp) g2 e2) (hM.ne_ x1 (by simp) x2 (by simp) hn g1 g2 e1 e2)

/-- 3 block(s) beside the calls -/
theorem wp_region_mix3 {id : Nat} {a : Act} {w : World} (x1 x2 x3 : Alc) (l0 l1 l2 : List (Nat × Bool)) (hm : P.follows .mixedOrders = true)
    (hc : chkAll ops ([x1, x2, x3].map fun x => (x.j, x.d)) l0 l1 l2 = true)
    (h : wpI P ops (NoPanic Q) (fun w' => Below w.heap.size w.drew w') (fun a1 w1 => AllocsOk P ops [x1, x2, x3] a1 ∧ wpI P ops (NoPanic Q) (fun w' => Below w.heap.size w.drew w')
      (fun a2 w2 => ∀ g1 g2 g3 wf, Ext w2 wf → Below w.heap.size w.drew wf → w.heap.size ≤ g1 → g1 < wf.heap.size → wf.heap[g1]? = some x1.o → w.heap.size ≤ g2 → g2 < wf.heap.size → wf.heap[g2]? = some x2.o → w.heap.size ≤ g3 → g3 < wf.heap.size → wf.heap[g3]? = some x3.o → g1 ≠ g2 → g1 ≠ g3 → g2 ≠ g3 →
        wpPerm P ops (NoPanic Q) (fun w' => Below w.heap.size w.drew w') l2 (((a2.put (some x3.d) (x3.val g3)).put (some x2.d) (x2.val g2)).put (some x1.d) (x1.val g1)) wf) l1 a1 w1) l0 a w.drew) :
    (Code.region id ops true).wp P Q a w := by
  have hn : ([x1, x2, x3].map (·.j)).Nodup := by
    have hc' := hc
    unfold chkAll at hc'
    simp only [Bool.and_eq_true] at hc'
    have h3 := nodupB_spec _ hc'.1.1.1.1.1.1.2
    exact h3
  refine wp_region_mix [x1, x2, x3] l0 l1 l2 hm hc (wpI_mono (fun a1 w1 ⟨hO, hI⟩ => ⟨hO, wpI_mono (fun a2 w2 hK => ?_) l1 a1 w1 hI⟩) l0 a w.drew h)
  intro γ wf hall he hb hM
  obtain ⟨g1, e1⟩ := Option.isSome_iff_exists.1 (hall x1 (by simp))
  obtain ⟨g2, e2⟩ := Option.isSome_iff_exists.1 (hall x2 (by simp))
  obtain ⟨g3, e3⟩ := Option.isSome_iff_exists.1 (hall x3 (by simp))
  have hcov : cover γ a2 [x1, x2, x3] = (((a2.put (some x3.d) (x3.val g3)).put (some x2.d) (x2.val g2)).put (some x1.d) (x1.val g1)) := by simp only [cover, e1, e2, e3]
  rw [hcov]
  simp only [List.map_cons, List.map_nil, List.nodup_cons, List.mem_cons, List.not_mem_nil, or_false, not_or, not_false_eq_true, List.nodup_nil, and_true] at hn
  exact hK g1 g2 g3 wf he hb (hM.lo x1 (by simp) g1 e1).1 (hM.lo x1 (by simp) g1 e1).2 (hM.at_ x1 (by simp) g1 e1) (hM.lo x2 (by simp) g2 e2).1 (hM.lo x2 (by simp) g2 e2).2 (hM.at_ x2 (by simp) g2 e2) (hM.lo x3 (by simp) g3 e3).1 (hM.lo x3 (by simp) g3 e3).2 (hM.at_ x3 (by simp) g3 e3) (hM.ne_ x1 (by simp) x2 (by simp) hn.1.1 g1 g2 e1 e2) (hM.ne_ x1 (by simp) x3 (by simp) hn.1.2 g1 g3 e1 e3) (hM.ne_ x2 (by simp) x3 (by simp) hn.2 g2 g3 e2 e3)

theorem wpI_on {K : Act → World → Prop} {i : Nat} {r : List (Nat × Bool)} {a : Act} {w : World} {o : Oper} {v : Value} {d : Tmp} (ho : ops[i]? = some o) (hd : o.dst = some d) (hw : Region.wanted o (yielded ops a.tmps) = true)
    (hy : ∀ w, S w → (execOp a.eval o).run P w = .ok (.value v) w)
    (h : wpI P ops Q S K r { a with tmps := a.tmps.setIfInBounds d v } w) : wpI P ops Q S K ((i, true) :: r) a w :=
  ⟨o, v, ho, .inl ⟨hw, hy⟩, by rw [hd]; exact h⟩
theorem wanted_free {o : Oper} {y : Nat → Option Bool} (hg : o.guard = none) : Region.wanted o y = true := by simp [Region.wanted, hg]
theorem wanted_yes {o : Oper} {a : Act} {j : Nat} {want : Bool} {d : Tmp} (hg : o.guard = some (j, want)) (hd : (ops[j]?).bind (·.dst) = some d) (hv : a.tmps[d]? = some (.bool want)) :
    Region.wanted o (yielded ops a.tmps) = true := by simp [Region.wanted, hg, yielded, hd, hv]
theorem wanted_no {o : Oper} {a : Act} {j : Nat} {want : Bool} {d : Tmp} (hg : o.guard = some (j, want)) (hd : (ops[j]?).bind (·.dst) = some d) (hv : a.tmps[d]? = some (.bool (!want))) :
    Region.wanted o (yielded ops a.tmps) = false := by cases want <;> simp [Region.wanted, hg, yielded, hd, hv]
theorem wanted_undef {o : Oper} {a : Act} {j : Nat} {want : Bool} {d : Tmp} (hg : o.guard = some (j, want)) (hd : (ops[j]?).bind (·.dst) = some d) (hv : a.tmps[d]? = some undef) :
    Region.wanted o (yielded ops a.tmps) = false := by simp [Region.wanted, hg, yielded, hd, hv, undef]
theorem wpPerm_done {a : Act} {w : World} (h : Q .normal a w) : wpPerm P ops (NoPanic Q) S [] a w := h
theorem wpI_done {K : Act → World → Prop} {a : Act} {w : World} (h : K a w) : wpI P ops Q S K [] a w := h
theorem wpI_off {K : Act → World → Prop} {i : Nat} {r : List (Nat × Bool)} {a : Act} {w : World} {o : Oper} {d : Tmp} (ho : ops[i]? = some o) (hd : o.dst = some d) (hw : Region.wanted o (yielded ops a.tmps) = false)
    (h : wpI P ops Q S K r { a with tmps := a.tmps.setIfInBounds d undef } w) : wpI P ops Q S K ((i, true) :: r) a w :=
  ⟨o, undef, ho, .inr ⟨hw, rfl⟩, by rw [hd]; exact h⟩
theorem wpI_do {K : Act → World → Prop} {i : Nat} {r : List (Nat × Bool)} {a : Act} {w : World} {o : Oper} (ho : ops[i]? = some o) (hw : Region.wanted o (yielded ops a.tmps) = true)
    (h : ∀ w', Ext w w' → S w' → ∀ K' : Act → World → Prop, Shut (∀ a w, Ext w' w → wpI P ops Q S K r a w → K' a w) → Oper.wp P o a w' K' Q) : wpI P ops Q S K ((i, false) :: r) a w := by
  intro w' he hS
  have := wpOp_step (P := P) (ops := ops) (Q := Q) (a := a) (w := w') (K := fun a'' w'' => Ext w' w'' ∧ wpI P ops Q S K r a'' w'') ho (fun K' hK => by
    rw [if_pos hw]
    exact h w' he hS K' (fun a w hs hr => hK a w ⟨hs, hr⟩))
  exact this
end
attribute [irreducible] wpPerm wpI

/-! ### A block that is known whole -/
def Blk (w : World) (g : Nat) (t : TypeId) (cs : Array Value) : Prop := w.heap[g]? = some (.cells cs t (0, 0))

section
variable {w w' : World} {g : Nat} {t : TypeId} {cs : Array Value}
theorem Blk.lt (h : Blk w g t cs) : g < w.heap.size := by
  rcases Nat.lt_or_ge g w.heap.size with hlt | hge
  · exact hlt
  · unfold Blk at h; rw [Array.getElem?_eq_none hge] at h; cases h
theorem Blk.cell (h : Blk w g t cs) (i : Nat) : w.cell? ⟨g, i, none⟩ = cs[i]? := cell_of_row w g i cs t (0, 0) h
theorem Blk.frozen (h : Blk w g t cs) (i : Nat) : w.frozen? ⟨g, i, none⟩ = false := by
  unfold Blk at h
  simp [World.frozen?, h]
theorem Blk.new (w : World) (t : TypeId) (cs : Array Value) : Blk (w.alloc (.cells cs t)) w.heap.size t cs := heap_alloc_new w _
theorem Blk.alloc (h : Blk w g t cs) (o : Obj) : Blk (w.alloc o) g t cs := (Below.heap_alloc w o g h.lt).trans h
theorem Blk.set_ (h : Blk w g t cs) (i : Nat) (u : Value) : Blk (w.setCell ⟨g, i, none⟩ u) g t (cs.setIfInBounds i u) := by
  unfold Blk at h ⊢
  simp [World.setCell, Array.getElem?_modify, h]
theorem Blk.far (h : Blk w g t cs) {p : Addr} (hp : g ≠ p.block) (u : Value) : Blk (w.setCell p u) g t cs := (Below.heap_setCell w p u g hp).trans h
theorem Blk.below {B : Nat} (h : Blk w g t cs) (hb : Below B w w') (hg : g < B) : Blk w' g t cs := (hb.block g hg).trans h
theorem Blk.ext (h : Blk w g t cs) (hb : Below w.heap.size w w') : Blk w' g t cs := h.below hb h.lt
theorem Blk.grown {row : Option Nat} (h : Blk w g t cs) (hb : w.grownBy w' row) (hg : some g ≠ row) : Blk w' g t cs := (hb.block g h.lt hg).trans h
theorem blk_new_at (w : World) (n : Nat) (t : TypeId) (cs : Array Value) (h : w.heap.size = n) : Blk (w.alloc (.cells cs t)) n t cs := by subst h; exact Blk.new w t cs
/-- the cells of a block of three, in every later world -/
theorem Blk.three {x y z : Value} (h : Blk w g t #[x, y, z]) (hb : Below w.heap.size w w') : w'.cell? ⟨g, 0, none⟩ = some x ∧ w'.cell? ⟨g, 1, none⟩ = some y ∧ w'.cell? ⟨g, 2, none⟩ = some z :=
  ⟨(h.ext hb).cell 0, (h.ext hb).cell 1, (h.ext hb).cell 2⟩
theorem Blk.free3 {x y z : Value} (h : Blk w g t #[x, y, z]) : w.frozen? ⟨g, 0, none⟩ = false ∧ w.frozen? ⟨g, 1, none⟩ = false ∧ w.frozen? ⟨g, 2, none⟩ = false :=
  ⟨h.frozen 0, h.frozen 1, h.frozen 2⟩
/-- a struct of three is stored into a block -/
theorem Blk.set3 {x y z : Value} (h : Blk w g t #[x, y, z]) (a b c : Value) : ∃ w', w' = ((w.setCell ⟨g, 0, none⟩ a).setCell ⟨g, 1, none⟩ b).setCell ⟨g, 2, none⟩ c ∧ Blk w' g t #[a, b, c] ∧
    (∀ B, B ≤ g → Below B w w') ∧ (∀ g' t' cs', g' ≠ g → Blk w g' t' cs' → Blk w' g' t' cs') ∧ w.heap.size ≤ w'.heap.size := by
  refine ⟨_, rfl, ?_, fun B hB => (((Below.refl _ _).setCell hB _).setCell hB _).setCell hB _, fun g' t' cs' hne hb => ((hb.far hne _).far hne _).far hne _, by simp [World.setCell]⟩
  have h3 := ((h.set_ 0 a).set_ 1 b).set_ 2 c
  simpa using h3
end

/-! ### The row's last step, for a law: it returns true, and what was there is as it was -/
section
variable {H : Type} {enc : TypeId × Value → H} {P : Program}
theorem post_of_below {f : Func} {s : ChangeSpec} {apart fresh handsOn again : Bool} {W W' : World} {args : Array Value} {v : Value} {ds gs : List (DataW H)} {before pa pv : List MemPlace}
    (hW : DataW.Whole enc P f.params.toList s.vars apart W args.toList ds gs before)
    (hres : ∀ (b : Nat) (sp : Nat → Bool) (hd : Bool), DataW.TrodAll enc P W' b sp hd f.resultTypes.toList (v.resultList f.resultTypes.size) (s.fn H (ds ++ gs)).results [])
    (hargs : ∀ sp : Nat → Bool, (∀ p ∈ before, sp p.block = true) → DataW.TrodAll enc P W' 0 sp true f.params.toList args.toList (s.fn H (ds ++ gs)).args pa)
    (hvars : ∀ sp : Nat → Bool, (∀ p ∈ before, sp p.block = true) → DataW.TrodVars enc P W' sp s.vars (s.fn H (ds ++ gs)).vars pv)
    (hps : before = pa ++ pv) (hb : Below W.heap.size W W')
    (hok : ∀ (j : Nat) (t : TypeId) (r : Value), f.resultTypes[j]? = some t → (v.resultList f.resultTypes.size)[j]? = some r → Value.okWide P W' .any 0 t r) :
    s.post enc P f apart fresh handsOn again W args v W' := by
  have hlt : ∀ p ∈ before, p.block < W.heap.size := fun p hp => hW.lt p hp
  have hold : ∀ p ∈ before, (fun b => decide (b < W.heap.size)) p.block = true := fun p hp => by simpa using hlt p hp
  refine ⟨ds, gs, before, [], pa, pv, hW, hres _ _ _, hargs _ hold, hvars _ hold, World.keptBut_mono (fun p hp => ⟨hp, ?_⟩) (hb.frame (· ∈ before)), fun _ => ?_⟩
  · rw [hps, List.mem_append] at hp
    exact Or.inr hp
  · obtain ⟨_, _, _, _, _, hz, hn⟩ := hW
    refine ⟨hok, _, _, ([] ++ pa) ++ pv, ⟨[] ++ pa, pv, trodAll_append (hargs _ (fun _ _ => rfl)) (hres _ _ _), hvars _ (fun _ _ => rfl), rfl, ?_, ?_⟩, ?_⟩
    · intro b off hp
      have hin : MemPlace.cell b off ∈ before := by rw [hps]; simpa using hp
      rw [hb.frozen (hlt _ hin)]
      exact hz b off hin
    · intro ha
      have := hn ha
      rw [hps] at this
      simpa using this
    · intro p hp _
      rw [hps]
      simpa using hp

theorem trodAll_stays (hl : laidOutB P = true) {W W' : World} {sp : Nat → Bool} : ∀ (ts : List TypeId) (vs : List Value) (ds : List (DataW H)) (ps : List MemPlace), (∀ t ∈ ts, P.readableRec t = true ∧ t < P.types.size) →
    DataW.TrodAll enc P W 0 (fun _ => true) true ts vs ds ps → (∀ p ∈ ps, W.sameAt W' p) → (∀ p ∈ ps, sp p.block = true) → DataW.TrodAll enc P W' 0 sp true ts vs ds ps
  | [], [], [], ps, _, h, _, _ => h
  | t :: ts, v :: vs, d :: ds, ps, ht, h, hs, hp => by
    obtain ⟨p, q, h1, h2, rfl⟩ := h
    have e := ht t (List.mem_cons_self ..)
    exact ⟨p, q, WideElems.Trod_stays hl e.1 e.2 h1 (fun x hx => hs x (List.mem_append_left _ hx)) (fun x hx => hp x (List.mem_append_left _ hx)),
      trodAll_stays hl ts vs ds q (fun u hu => ht u (List.mem_cons_of_mem _ hu)) h2 (fun x hx => hs x (List.mem_append_right _ hx)) (fun x hx => hp x (List.mem_append_right _ hx)), rfl⟩
  | [], _ :: _, _, _, _, h, _, _ => False.elim h
  | [], [], _ :: _, _, _, h, _, _ => False.elim h
  | _ :: _, [], _, _, _, h, _, _ => False.elim h
  | _ :: _, _ :: _, [], _, _, h, _, _ => False.elim h

/-- A law's post: it returned true; below the old heap nothing has turned. -/
theorem post_law {f : Func} {s : ChangeSpec} {t : TypeId} {W W' : World} {args : Array Value} {ds gs : List (DataW H)} {before : List MemPlace} (hl : laidOutB P = true)
    (hts : ∀ t ∈ f.params.toList, P.readableRec t = true ∧ t < P.types.size) (hr : f.resultTypes = #[t]) (ht : P.underlying t = some .bool) (hv : s.vars = [])
    (hs : s.fn H (ds ++ gs) = { results := [.lit (.bool true)], args := ds })
    (hW : DataW.Whole enc P f.params.toList s.vars false W args.toList ds gs before) (hb : Below W.heap.size W W') :
    s.post enc P f false true false false W args (.bool true) W' := by
  have hW' := hW
  obtain ⟨p, q, hA, hV, rfl, hz, hn⟩ := hW
  have hlt : ∀ x ∈ p, x.block < W.heap.size := fun x hx => hW'.lt x (List.mem_append_left _ hx)
  rw [hv] at hV
  obtain ⟨rfl, rfl⟩ := trodVars_none hV
  refine post_of_below (pa := p) (pv := []) hW' ?_ ?_ ?_ rfl hb ?_
  · intro b sp hd
    rw [hs, hr]
    exact trodAll_mk1 (shut_bool ht true)
  · intro sp hsp
    rw [hs]
    exact trodAll_stays hl _ _ _ _ hts hA (fun x hx => hb.same (hlt x hx)) (fun x hx => hsp x (List.mem_append_left _ hx))
  · intro sp _
    rw [hs, hv]
    rfl
  · intro j u r hj hr'
    rw [hr] at hj hr'
    match j, hj, hr' with
    | 0, hj, hr' =>
      simp at hj
      subst hj
      have : r = .bool true := by simpa [Value.resultList] using hr'.symm
      subst this
      exact okWide_bool_mk ht true
end

theorem parsOk {P : Program} {ts : List TypeId} (h : (ts.all fun t => P.readableRec t && decide (t < P.types.size)) = true) : ∀ t ∈ ts, P.readableRec t = true ∧ t < P.types.size := by
  intro t ht
  have := List.all_eq_true.1 h t ht
  simpa using this
theorem bd64 {n : Int} (h : (Lit.int .i64 n).wf = true) : -9223372036854775808 ≤ n ∧ n ≤ 9223372036854775807 := by
  simpa [Lit.wf, IntKind.min, IntKind.max, IntKind.signed, IntKind.bits] using h
theorem bd8 {n : Int} (h : (Lit.int .u8 n).wf = true) : 0 ≤ n ∧ n ≤ 255 := by
  simpa [Lit.wf, IntKind.min, IntKind.max, IntKind.signed, IntKind.bits] using h
end Go.Proofs.YtfnceamkephpjaaGreat.lib
