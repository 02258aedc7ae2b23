/- known. -/
import Derived.Test.YtlfonenjgchklaaM12
namespace Go.Proofs.Ytlfonenjgchklaa.lk
open Go.ChangeShapes Go.WideShapes Go.ChangeAt Go.RowKit Go.Proofs.Ytlfonenjgchklaa.lib
set_option linter.unusedVariables false

def kx : ByteArray := ⟨#[120]⟩
def ky : ByteArray := ⟨#[121]⟩
def k1 : Lk := ⟨[⟨1, kx, true⟩], []⟩
def k2 : Lk := ⟨[⟨1, kx, true⟩, ⟨2, ky, true⟩], []⟩
def k3 : Lk := ⟨[⟨1, kx, true⟩, ⟨2, ky, true⟩], [⟨1, ky, false⟩]⟩
def k4 : Lk := ⟨[⟨1, kx, true⟩, ⟨2, ky, true⟩], [⟨1, ky, false⟩, ⟨2, kx, false⟩]⟩
theorem e1 : askL ⟨[], []⟩ ⟨1, kx, true⟩ = k1 ∧ freeB ⟨[], []⟩ ⟨1, kx, true⟩ = true := ⟨rfl, rfl⟩
theorem e2 : askL k1 ⟨2, ky, true⟩ = k2 ∧ freeB k1 ⟨2, ky, true⟩ = true := ⟨rfl, rfl⟩
theorem e3 : askL k2 ⟨1, ky, false⟩ = k3 ∧ freeB k2 ⟨1, ky, false⟩ = false := ⟨rfl, rfl⟩
theorem e4 : askL k3 ⟨2, kx, false⟩ = k4 ∧ freeB k3 ⟨2, kx, false⟩ = false := ⟨rfl, rfl⟩
theorem f1 : edges k4.ws k4.hs 1 = [2] := rfl
theorem f2 : edges k4.ws k4.hs 2 = [1] := rfl
theorem vic_known {v : Int} {is : Bool} (h : VicS (edges k4.ws k4.hs) 1 v is) : v = 2 ∧ is = true := by
  have r2 : Rch (edges k4.ws k4.hs) 1 2 := .one (by rw [f1]; simp)
  have r1 : Rch (edges k4.ws k4.hs) 1 1 := .more r2 (by rw [f2]; simp)
  have r3 : Rch (edges k4.ws k4.hs) 2 1 := .one (by rw [f2]; simp)
  cases is with
  | false => exact absurd r1 (h.no rfl).1
  | true =>
    obtain ⟨_, hv, hs, hk⟩ := h.yes rfl
    have h2 := hk 2 r2 r3
    refine ⟨?_, rfl⟩
    rcases hv with h | ⟨h, _⟩
    · omega
    · have : v ∈ k4.hs.map Hd.s := by
        cases h with
        | one h => exact edges_mem h
        | more _ h => exact edges_mem h
      simp [k4] at this
      omega
set_option maxHeartbeats 2000000 in
set_option maxRecDepth 100000 in
theorem known_ (w : World) : Calls Try.prog 10 #[] w fun e w' => e = .returned (.bool true) ∧ Below w.heap.size w w' := by
  go_enter Try.func10, Try.ntmps10
  go_wp2_with fail
  obtain ⟨w0, hW_, hW0, B0⟩ : ∃ W_, W_ = (w.alloc (.cells #[.slice none 0 0, .slice none 0 0] 26)) ∧ Below w.heap.size w W_ ∧ Blk W_ (w.heap.size) 26 #[.slice none 0 0, .slice none 0 0] :=
    ⟨_, rfl, ((Below.refl _ _).alloc (Nat.le_refl _) _), (blk_new_at w (w.heap.size) _ _ (by simp))⟩
  rw [← hW_]
  clear hW_
  have L0 := LkR.none w0
  have A1 := Ask_ ⟨[], []⟩ ⟨1, kx, true⟩ _ _ L0 (by decide) (by decide)
  rw [e1.1, e1.2] at A1
  refine A1.mono ?_
  rintro e u1 ⟨v, rfl, M1, hb1⟩
  clear A1
  obtain ⟨p1, n1, c1, p1', n1', c1', rfl, M1⟩ := M1.parts
  have C1 := B0.ext hb1
  have fr0 := C1.frozen 0
  have fr1 := C1.frozen 1
  have q0 := C1.cell 0
  have q1 := C1.cell 1
  go_wp2_with fail
  clear fr0 fr1 q0 q1
  obtain ⟨w1, hw, B1, L1, hlow, -⟩ := Va.set C1 (by simp) M1
  rw [← hw]
  have hW1 : Below w.heap.size w w1 := Below.trans (Below.trans hW0 (Below.mono hb1 hW0.size)) (hlow _ (Nat.le_refl _))
  clear hw hlow C1 M1 hb1 B0 L0
  have A2 := Ask_ k1 ⟨2, ky, true⟩ _ _ L1 (by decide) (by decide)
  rw [e2.1, e2.2] at A2
  refine A2.mono ?_
  rintro e u2 ⟨v, rfl, M2, hb2⟩
  clear A2
  obtain ⟨p2, n2, c2, p2', n2', c2', rfl, M2⟩ := M2.parts
  have C2 := B1.ext hb2
  have fr0 := C2.frozen 0
  have fr1 := C2.frozen 1
  have q0 := C2.cell 0
  have q1 := C2.cell 1
  go_wp2_with fail
  clear fr0 fr1 q0 q1
  obtain ⟨w2, hw, B2, L2, hlow, -⟩ := Va.set C2 (by simp) M2
  rw [← hw]
  have hW2 : Below w.heap.size w w2 := Below.trans (Below.trans hW1 (Below.mono hb2 hW1.size)) (hlow _ (Nat.le_refl _))
  clear hw hlow C2 M2 hb2 B1 L1
  have A3 := Ask_ k2 ⟨1, ky, false⟩ _ _ L2 (by decide) (by decide)
  rw [e3.1, e3.2] at A3
  refine A3.mono ?_
  rintro e u3 ⟨v, rfl, M3, hb3⟩
  clear A3
  obtain ⟨p3, n3, c3, p3', n3', c3', rfl, M3⟩ := M3.parts
  have C3 := B2.ext hb3
  have fr0 := C3.frozen 0
  have fr1 := C3.frozen 1
  have q0 := C3.cell 0
  have q1 := C3.cell 1
  go_wp2_with fail
  clear fr0 fr1 q0 q1
  obtain ⟨w3, hw, B3, L3, hlow, -⟩ := Va.set C3 (by simp) M3
  rw [← hw]
  have hW3 : Below w.heap.size w w3 := Below.trans (Below.trans hW2 (Below.mono hb3 hW2.size)) (hlow _ (Nat.le_refl _))
  clear hw hlow C3 M3 hb3 B2 L2
  have A4 := Ask_ k3 ⟨2, kx, false⟩ _ _ L3 (by decide) (by decide)
  rw [e4.1, e4.2] at A4
  refine A4.mono ?_
  rintro e u4 ⟨v, rfl, M4, hb4⟩
  clear A4
  obtain ⟨p4, n4, c4, p4', n4', c4', rfl, M4⟩ := M4.parts
  have C4 := B3.ext hb4
  have fr0 := C4.frozen 0
  have fr1 := C4.frozen 1
  have q0 := C4.cell 0
  have q1 := C4.cell 1
  go_wp2_with fail
  clear fr0 fr1 q0 q1
  obtain ⟨w4, hw, B4, L4, hlow, -⟩ := Va.set C4 (by simp) M4
  rw [← hw]
  have hW4 : Below w.heap.size w w4 := Below.trans (Below.trans hW3 (Below.mono hb4 hW3.size)) (hlow _ (Nat.le_refl _))
  clear hw hlow C4 M4 hb4 B3 L3
  refine (Victim_ k4 1 _ _ L4 (by decide) (by decide) (by intro o ho; simp [k4] at ho; rcases ho with rfl | rfl <;> (unfold bd; constructor <;> decide)) (by intro o ho; simp [k4] at ho; rcases ho with rfl | rfl <;> (unfold bd; constructor <;> decide)) (by unfold bd; constructor <;> decide)).mono ?_
  rintro e w5 ⟨v, is, rfl, hv, hb5⟩
  obtain ⟨rfl, rfl⟩ := vic_known hv
  go_wp2
  go_ret
  exact ⟨rfl, Below.trans hW4 (Below.mono hb5 hW4.size)⟩
end Go.Proofs.Ytlfonenjgchklaa.lk
