/- Values and columns as rows of cells; Clone. Printed by gen1.py. -/
import Derived.Test.YtnlmbjmgmofeiaaTp
import Derived.Test.YtnlmbjmgmofeiaaRow
namespace Go.Proofs.Ytnlmbjmgmofeiaa.tb
open Go.ChangeShapes Go.WideShapes Go.ChangeAt Go.RowKit Go.Proofs.Ytnlmbjmgmofeiaa.lib Go.Proofs.Ytnlmbjmgmofeiaa.val
set_option linter.unusedVariables false

def encV (v : V) : List Value := [.int .i64 v.k, .int .i64 v.n, .string v.s]
def encC (c : Col) : List Value := [.string c.name, .int .i64 c.kind, .bool c.null]
def cellsV (l : List V) : List Value := flatK encV l
def cellsC (l : List Col) : List Value := flatK encC l
theorem kV (v : V) : (encV v).length = 3 := rfl
theorem kC (v : Col) : (encC v).length = 3 := rfl
theorem lenV (l : List V) : (cellsV l).length = l.length * 3 := flatK_len encV 3 kV l
theorem lenC (l : List Col) : (cellsC l).length = l.length * 3 := flatK_len encC 3 kC l
theorem oneV (l : List V) : ∀ u ∈ cellsV l, u.oneCell' = true := flatK_all encV (p := fun u => u.oneCell' = true) (fun x u hu => by
  simp [encV] at hu
  rcases hu with rfl | rfl | rfl <;> rfl) l
theorem oneC (l : List Col) : ∀ u ∈ cellsC l, u.oneCell' = true := flatK_all encC (p := fun u => u.oneCell' = true) (fun x u hu => by
  simp [encC] at hu
  rcases hu with rfl | rfl | rfl <;> rfl) l
/-- a slice of values -/
def Vs (w : World) (lo : Nat) (A : Option Addr) (n c : Nat) (l : List V) : Prop := Row w lo A n c (cellsV l) ∧ l.length = n
def Cs (w : World) (lo : Nat) (A : Option Addr) (n c : Nat) (l : List Col) : Prop := Row w lo A n c (cellsC l) ∧ l.length = n

theorem Vs.ext {w w' : World} {lo n c : Nat} {A : Option Addr} {l : List V} (h : Vs w lo A n c l) (hb : Below w.heap.size w w') : Vs w' lo A n c l := ⟨h.1.ext hb, h.2⟩
theorem Vs.base {w : World} {lo lo' n c : Nat} {A : Option Addr} {l : List V} (h : Vs w lo A n c l) (hb : lo' ≤ lo) : Vs w lo' A n c l := ⟨h.1.base hb, h.2⟩
theorem Vs.at_ {w : World} {lo n c b off : Nat} {l : List V} (h : Vs w lo (some ⟨b, off, none⟩) n c l) {i : Nat} {v : V} (hi : l[i]? = some v) :
    w.cell? ⟨b, off + i * 3, none⟩ = some (.int .i64 v.k) ∧ w.cell? ⟨b, off + i * 3 + 1, none⟩ = some (.int .i64 v.n) ∧ w.cell? ⟨b, off + i * 3 + 2, none⟩ = some (.string v.s) :=
  ⟨h.1.at_ (flatK_at encV 3 kV l i v 0 _ hi rfl), h.1.at_ (flatK_at encV 3 kV l i v 1 _ hi rfl), h.1.at_ (flatK_at encV 3 kV l i v 2 _ hi rfl)⟩
theorem Vs.of_own {w : World} {base : Nat} {t : TypeId} {n : Nat} {A : Option Addr} {c : Nat} {l : List V} (h : w.ownsRow base t 3 (.slice A n c) n (cellsV l)) : Vs w base A n c l :=
  ⟨Row.of_own h, by have := h.1; rw [lenV] at this; omega⟩
def OwnV (l : List V) (n : Nat) (w : World) (r : Ending) (w' : World) : Prop := ∃ A c, r = .returned (.slice A n c) ∧ w'.ownsRow w.heap.size 41 3 (.slice A n c) n (cellsV l) ∧ Below w.heap.size w w'
set_option maxHeartbeats 1000000 in
theorem cloneV (l : List V) (lo : Nat) (A : Option Addr) (n c : Nat) (w : World) (hn : n ≤ 100000) (hr : Vs w lo A n c l) :
    Calls Try.prog 38 #[.slice A n c] w (OwnV l n w) := by
  obtain ⟨hr, hl⟩ := hr
  have heq := fun W => Lib.run_eql_slice_nil (P := Try.prog) W 38 41 A n c 0 0 Try.underlying38
  have HL := Lib.hid hl
  clear hl
  cases A with
  | none =>
    have hr2 : n = 0 ∧ c = 0 := by
      rcases hr with h | ⟨_, h, _⟩ | ⟨_, _, h, _⟩
      · exact ⟨h.2.1, h.2.2.1⟩
      · cases h
      · cases h
    obtain ⟨rfl, rfl⟩ := hr2
    have hln : l = [] := List.length_eq_zero_iff.1 HL.out
    subst hln
    go_enter Try.func38, Try.ntmps38
    go_wp2
    go_ret
    exact ⟨none, 0, rfl, World.ownsRow_nil _ _ _ _, Below.refl _ _⟩
  | some ad =>
    obtain ⟨i0, hi, hz0, hz1, hz2⟩ := info_parts (P := Try.prog) (e := 41) (z := .agg #[.int .i64 0, .int .i64 0, .string ⟨#[]⟩]) (size := 3) (bytes := 32) (by kernel_rfl)
    have HC := Lib.hid hr
    clear hr
    go_enter Try.func38, Try.ntmps38
    go_wp2_with (at_builtin; refine wpList_append_own _ rfl (.tmp 5) (.tmp 6) 38 rfl w.heap.size 41 i0 _ 3 32 Try.underlying38 hi hz0 hz1 hz2 rfl (by decide) _ _ _ rfl (World.ownsRow_made w #[] 0 (Nat.le_refl _) (Nat.zero_le _) rfl) ad n c (cellsV l) rfl ?c0 ?c1 ?c2 ?c3 ?c4 ?c5 ?_)
    case c0 => rw [lenV, HL.out]
    case c1 => exact (HC.out.ext ((Below.refl _ _).alloc (Nat.le_refl _) _)).src'
    case c2 => exact oneV l
    case c3 => unfold maxLen; omega
    case c4 => omega
    case c5 => simp
    intro v' w3 hown3 hgrow3 _
    obtain ⟨A', c', rfl⟩ := own_slice hown3
    go_wp2
    go_ret
    exact ⟨A', c', by simp, by simpa using hown3, ((Below.refl _ _).alloc (Nat.le_refl _) _).grown hgrow3 (by simp) (fun k hk => by simp [Value.ownBlock] at hk; omega)⟩

theorem Cs.ext {w w' : World} {lo n c : Nat} {A : Option Addr} {l : List Col} (h : Cs w lo A n c l) (hb : Below w.heap.size w w') : Cs w' lo A n c l := ⟨h.1.ext hb, h.2⟩
theorem Cs.base {w : World} {lo lo' n c : Nat} {A : Option Addr} {l : List Col} (h : Cs w lo A n c l) (hb : lo' ≤ lo) : Cs w lo' A n c l := ⟨h.1.base hb, h.2⟩
theorem Cs.at_ {w : World} {lo n c b off : Nat} {l : List Col} (h : Cs w lo (some ⟨b, off, none⟩) n c l) {i : Nat} {v : Col} (hi : l[i]? = some v) :
    w.cell? ⟨b, off + i * 3, none⟩ = some (.string v.name) ∧ w.cell? ⟨b, off + i * 3 + 1, none⟩ = some (.int .i64 v.kind) ∧ w.cell? ⟨b, off + i * 3 + 2, none⟩ = some (.bool v.null) :=
  ⟨h.1.at_ (flatK_at encC 3 kC l i v 0 _ hi rfl), h.1.at_ (flatK_at encC 3 kC l i v 1 _ hi rfl), h.1.at_ (flatK_at encC 3 kC l i v 2 _ hi rfl)⟩
theorem Cs.of_own {w : World} {base : Nat} {t : TypeId} {n : Nat} {A : Option Addr} {c : Nat} {l : List Col} (h : w.ownsRow base t 3 (.slice A n c) n (cellsC l)) : Cs w base A n c l :=
  ⟨Row.of_own h, by have := h.1; rw [lenC] at this; omega⟩
def OwnC (l : List Col) (n : Nat) (w : World) (r : Ending) (w' : World) : Prop := ∃ A c, r = .returned (.slice A n c) ∧ w'.ownsRow w.heap.size 66 3 (.slice A n c) n (cellsC l) ∧ Below w.heap.size w w'
end Go.Proofs.Ytnlmbjmgmofeiaa.tb
