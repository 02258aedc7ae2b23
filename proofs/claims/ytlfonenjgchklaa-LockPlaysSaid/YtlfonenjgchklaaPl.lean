/- Plain words for the laws: how long locks are, whose they are; where there is no ring. -/
import Derived.Test.YtlfonenjgchklaaActs
namespace Go.Proofs.Ytlfonenjgchklaa.lk
open Go.ChangeShapes Go.WideShapes Go.ChangeAt Go.RowKit Go.Proofs.Ytlfonenjgchklaa.lib
set_option linter.unusedVariables false

def bs (o : Hd) : Prop := 0 ≤ o.s ∧ o.s < 8
structure Wf (n : Nat) (L : Lk) : Prop where
  hl : L.hs.length ≤ n
  wl : L.ws.length ≤ n
  hb : ∀ o ∈ L.hs, bs o
  wb : ∀ o ∈ L.ws, bs o
theorem Wf.mono {n m : Nat} {L : Lk} (h : Wf n L) (hm : n ≤ m) : Wf m L := ⟨Nat.le_trans h.hl hm, Nat.le_trans h.wl hm, h.hb, h.wb⟩
theorem bs_bd {o : Hd} (h : bs o) : bd o.s := by
  have h1 := h.1
  have h2 := h.2
  unfold bd
  omega
theorem woL_mem {l : List Hd} {s : Int} {o : Hd} (h : o ∈ woL l s) : o ∈ l ∧ o.s ≠ s := by
  unfold woL at h
  have := List.mem_filter.1 h
  exact ⟨this.1, by simpa using this.2⟩
theorem Wf.ask {n : Nat} {L : Lk} {h : Hd} (H : Wf n L) (hb : bs h) : Wf (n + 1) (askL L h) := by
  obtain ⟨hs, ws⟩ := L
  have wl : (woL ws h.s).length ≤ n := Nat.le_trans (woL_len ws h.s) H.wl
  have wb : ∀ o ∈ woL ws h.s, bs o := fun o ho => H.wb o (woL_mem ho).1
  have hl := H.hl
  unfold askL
  split
  · refine ⟨Nat.le_succ_of_le H.hl, by simp; omega, H.hb, fun o ho => ?_⟩
    rcases List.mem_append.1 ho with h1 | h1
    · exact wb o h1
    · simp at h1; subst h1; exact hb
  · split
    · exact ⟨Nat.le_succ_of_le H.hl, Nat.le_succ_of_le wl, H.hb, wb⟩
    · split
      · refine ⟨by simp at hl ⊢; omega, Nat.le_succ_of_le wl, fun o ho => ?_, wb⟩
        rcases List.mem_or_eq_of_mem_set ho with h1 | h1
        · exact H.hb o h1
        · subst h1; exact hb
      · refine ⟨by simp at hl ⊢; omega, Nat.le_succ_of_le wl, fun o ho => ?_, wb⟩
        rcases List.mem_append.1 ho with h1 | h1
        · exact H.hb o h1
        · simp at h1; subst h1; exact hb
theorem Wf.free {n : Nat} {L : Lk} {s : Int} (H : Wf n L) : Wf n (freeL L s) :=
  ⟨Nat.le_trans (woL_len _ _) H.hl, Nat.le_trans (woL_len _ _) H.wl, fun o ho => H.hb o (woL_mem ho).1, fun o ho => H.wb o (woL_mem ho).1⟩
theorem Wf.nil (n : Nat) : Wf n ⟨[], []⟩ := ⟨Nat.zero_le _, Nat.zero_le _, fun o ho => (by cases ho), fun o ho => (by cases ho)⟩
theorem Ac.bs (a : Ac) : bs a.hd := wi_bd (by omega)
theorem no_ring {F : Int → List Int} {s : Int} (h1 : ∀ y ∈ F s, y ≠ s) (h2 : ∀ x, x ≠ s → F x = []) : ¬ Rch F s s := by
  have key : ∀ z, Rch F s z → z ≠ s := by
    intro z h
    induction h with
    | one h => exact h1 _ h
    | more _ hy ih => rw [h2 _ ih] at hy; cases hy
  exact fun h => key s h rfl
theorem agB_ne {h o : Hd} (ha : agB h o = true) : o.s ≠ h.s := by
  unfold agB at ha
  simp at ha
  exact fun e => ha.1 e.symm
/-- nobody but s waits -/
theorem no_ring_one {ws hs : List Hd} {s : Int} (h : ∀ o ∈ ws, o.s = s) : ¬ Rch (edges ws hs) s s := by
  refine no_ring (fun y hy => ?_) (fun x hx => ?_)
  · unfold edges at hy
    rw [List.mem_flatMap] at hy
    obtain ⟨o, ho, hy⟩ := hy
    obtain ⟨p, hp, e⟩ := List.mem_map.1 hy
    have h1 := agB_ne (List.mem_filter.1 hp).2
    have h2 := h o (List.mem_filter.1 ho).1
    rw [← e, ← h2]; exact h1
  · unfold edges
    have : (ws.filter fun o => o.s == x) = [] := by
      rw [List.filter_eq_nil_iff]
      intro o ho
      have := h o ho
      simp; omega
    rw [this]; rfl
theorem VicS.not {F : Int → List Int} {s v : Int} {is : Bool} (h : VicS F s v is) (hn : ¬ Rch F s s) : is = false := by
  cases is with
  | false => rfl
  | true => exact absurd (h.yes rfl).1 hn
theorem ask_ws_free {L : Lk} {h : Hd} (hf : freeB L h = true) (hw : L.ws = []) : (askL L h).ws = [] := by
  unfold askL
  rw [if_neg (by rw [hf]; decide), hw]
  split
  · rfl
  · split <;> rfl
theorem ask_ws_own {L : Lk} {h : Hd} (hw : L.ws = []) : ∀ o ∈ (askL L h).ws, o.s = h.s := by
  intro o ho
  unfold askL at ho
  rw [hw] at ho
  split at ho
  · simp [woL] at ho; rw [ho]
  · split at ho
    · simp [woL] at ho
    · split at ho <;> simp [woL] at ho
theorem LkR.inv {w : World} {A A' : Option Addr} {n c n' c' : Nat} {L : Lk} (h : LkR w (.agg #[.slice A n c, .slice A' n' c']) L) : L.hs.length = n ∧ Hs w A L.hs ∧ L.ws.length = n' ∧ Hs w A' L.ws := by
  obtain ⟨B, m, d, B', m', d', e, h1, h2, h3, h4⟩ := h
  injection e with e
  have e1 := congrArg (fun a : Array Value => a.toList) e
  simp at e1
  obtain ⟨⟨rfl, rfl, rfl⟩, rfl, rfl, rfl⟩ := e1
  exact ⟨h1, h2, h3, h4⟩
end Go.Proofs.Ytlfonenjgchklaa.lk
