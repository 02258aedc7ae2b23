/- Contracts: fail, is, front, put. -/
import Derived.Test.YtfnceamkephpjaaGreatK1
import Derived.Test.YtfnceamkephpjaaGreatT
import Derived.Lib.Bytealg
import Derived.Laws.RangeAny
import Derived.Laws.RangeString
import Derived.LoopTactic
namespace Go.Proofs.YtfnceamkephpjaaGreat.lx
open Go.ChangeShapes Go.WideShapes Go.ChangeAt Go.RowKit Go.Proofs.YtfnceamkephpjaaGreat.lib
set_option linter.unusedVariables false

set_option maxRecDepth 100000 in
theorem own_ne {w : World} {base size n g : Nat} {e t : TypeId} {v : Value} {xs : List Value} {cs : Array Value} (h : w.ownsRow base e size v n xs) (hb : Blk w g t cs) (hne : e ≠ t) : some g ≠ v.ownBlock := by
  intro hg
  rcases h.2 with ⟨rfl, _⟩ | ⟨g', cap, cur, rfl, _, hh, _⟩
  · cases hg
  · have : g = g' := by simpa [Value.ownBlock] using hg
    subst this
    unfold Blk at hb
    rw [hb] at hh
    injection hh with hh
    injection hh with _ h2 _
    exact hne h2.symm

set_option maxRecDepth 100000 in
theorem Blk.drew {w : World} {g : Nat} {t : TypeId} {cs : Array Value} (h : Blk w g t cs) : Blk w.drew g t cs := h
/-- the walker's cells -/
def wk (s : List UInt8) (out : Value) (d e : Int) : Array Value := #[.string ⟨s.toArray⟩, out, .int .u32 d, .int .i32 0, .int .u32 0, .int .i64 e]
set_option maxRecDepth 100000 in
theorem six {w : World} {g : Nat} {t : TypeId} {x0 x1 x2 x3 x4 x5 : Value} (h : Blk w g t #[x0, x1, x2, x3, x4, x5]) {w' : World} (hb : Below w.heap.size w w') :
    w'.cell? ⟨g, 0, none⟩ = some x0 ∧ w'.cell? ⟨g, 1, none⟩ = some x1 ∧ w'.cell? ⟨g, 2, none⟩ = some x2 ∧ w'.cell? ⟨g, 3, none⟩ = some x3 ∧ w'.cell? ⟨g, 4, none⟩ = some x4 ∧ w'.cell? ⟨g, 5, none⟩ = some x5 :=
  ⟨(h.ext hb).cell 0, (h.ext hb).cell 1, (h.ext hb).cell 2, (h.ext hb).cell 3, (h.ext hb).cell 4, (h.ext hb).cell 5⟩

set_option maxRecDepth 100000 in
theorem fail_ (g : Nat) (s : List UInt8) (out : Value) (e : Int) (w : World) (h : Blk w g 81 (wk s out 0 0)) :
    Calls Tryz.prog 20 #[.pointer (some ⟨g, 0, none⟩), .int .i64 e] w fun r w' => r = .returned (.tuple #[]) ∧ Blk w' g 81 (wk s out 1 e) ∧ ∀ B, B ≤ g → Below B w w' := by
  have hmf : ∀ (fn : Fn) (first cap : Array Value) (w : World), (Instr.makeFunc fn first cap).run Tryz.prog w = .ok (.func fn first cap) w := fun _ _ _ _ => rfl
  have hlt := h.lt
  go_enter Tryz.func20, Tryz.ntmps20
  go_wp2_with fail
  obtain ⟨W, hW_, hbW, B1, B2⟩ : ∃ W_, W_ = ((w.alloc (.cells #[.pointer (some ⟨g, 0, none⟩)] 67)).alloc (.cells #[.int .i64 e] 35)) ∧ Below w.heap.size w W_ ∧ Blk W_ (w.heap.size) 67 #[.pointer (some ⟨g, 0, none⟩)] ∧ Blk W_ (w.heap.size + 1) 35 #[.int .i64 e] :=
    ⟨_, rfl, (((Below.refl _ _).alloc (Nat.le_refl _) _).alloc (by simp; try omega) _), ((blk_new_at w (w.heap.size) _ _ (by simp)).alloc _), (blk_new_at (w.alloc (.cells #[.pointer (some ⟨g, 0, none⟩)] 67)) (w.heap.size + 1) _ _ (by simp))⟩
  rw [← hW_]
  clear hW_
  have hW := h.ext hbW
  unfold wk at hW
  have c2 := hW.cell 2
  have c3 := hW.cell 3
  have c5 := hW.cell 5
  have p1 := B1.cell 0
  have p2 := B2.cell 0
  have f2 := hW.frozen 2
  have f3 := hW.frozen 3
  have f5 := hW.frozen 5
  refine (do_first g (w.heap.size + 1) w.heap.size (by omega) (by omega) e _ W p1 p2 c2 c3 c5 f2 f3 f5).mono ?_
  rintro r w2 ⟨rfl, rfl⟩
  have hE := (((hW.set_ 3 (.int .i32 1)).set_ 5 (.int .i64 e)).set_ 2 (.int .u32 1)).set_ 3 (.int .i32 0)
  clear c2 c3 c5 p1 p2 f2 f3 f5
  go_wp2
  go_end0
  refine ⟨rfl, Blk.drew (by simpa [wk] using hE), fun B hB => ?_⟩
  exact (((((Below.mono hbW (by omega)).setCell (by exact hB) _).setCell (by exact hB) _).drew).setCell (by exact hB) _).setCell (by exact hB) _

set_option maxRecDepth 100000 in
theorem idx0 (s : ByteArray) (c : UInt8) (w : World) : Calls Tryz.prog 72 #[.string s, .int .u8 c.toNat] w fun e w' => e = .returned (.int .i64 (Lib.indexByte s.data.toList c)) ∧ w = w' := by
  have hc : ((c.toNat : Int)).toNat.toUInt8 = c := by simp
  go_enter Tryz.func72, Tryz.ntmps72
  go_wp2_with fail
  rw [run_callFunc_extern Tryz.func80 (by kernel_rfl) (by kernel_rfl) (by kernel_rfl) (e := Extern.BytealgIndexByte.indexByte) (by kernel_rfl), Lib.run_indexByteString, hc]
  simp only [Result.andThen]
  rw [Oper.upon_value]
  go_wp2
  go_ret
  exact ⟨rfl, rfl⟩
set_option maxRecDepth 100000 in
theorem idx (s : ByteArray) (c : UInt8) (w : World) : Calls Tryz.prog 61 #[.string s, .int .u8 c.toNat] w fun e w' => e = .returned (.int .i64 (Lib.indexByte s.data.toList c)) ∧ w = w' := by
  go_enter Tryz.func61, Tryz.ntmps61
  go_wp2_with (go_at_call 72; refine (idx0 _ _ _).mono ?_; rintro e w' ⟨rfl, rfl⟩)
  go_ret
  exact ⟨rfl, rfl⟩
set_option maxRecDepth 100000 in
theorem indexByte_in (l : List UInt8) (c : UInt8) : decide (0 ≤ Lib.indexByte l c) = l.contains c := by
  induction l with
  | nil => rfl
  | cons b l ih =>
    rw [List.contains_cons]
    have hg := Lib.indexByte_ge l c
    unfold Lib.indexByte
    by_cases hb : b = c
    · subst hb; simp
    · have h1 : (b == c) = false := by simpa using hb
      have h2 : (c == b) = false := by simpa using fun e => hb e.symm
      rw [h1, h2]
      simp only [Bool.false_eq_true, if_false, Bool.false_or]
      rw [← ih]
      by_cases h : Lib.indexByte l c = -1
      · rw [h]; decide
      · have e1 : (Lib.indexByte l c == -1) = false := by simpa using h
        rw [e1]
        simp only [Bool.false_eq_true, if_false]
        congr 1
        exact propext ⟨fun _ => by omega, fun _ => by omega⟩
set_option maxRecDepth 100000 in
theorem is_ (c : UInt8) (s : ByteArray) (p : Bool) (hp : s.data.toList.contains c = p) (w : World) : Calls Tryz.prog 38 #[.int .u8 c.toNat, .string s] w fun e w' => e = .returned (.bool p) ∧ w = w' := by
  have h := indexByte_in s.data.toList c
  rw [hp] at h
  go_enter Tryz.func38, Tryz.ntmps38
  go_wp2_with (go_at_call 61; refine (idx _ _ _).mono ?_; rintro e w' ⟨rfl, rfl⟩)
  go_ret
  exact ⟨ret_bool (by first | exact h | simp), rfl⟩

set_option maxRecDepth 100000 in
theorem size_mk (l : List UInt8) : (ByteArray.mk l.toArray).size = l.length := by simp [ByteArray.size]
set_option maxRecDepth 100000 in
theorem get_mk (l : List UInt8) (i : Nat) (h : i < (ByteArray.mk l.toArray).size) (h2 : i < l.length) : (ByteArray.mk l.toArray)[i]'h = l[i] := by
  simp [ByteArray.getElem_eq_getElem_data]
set_option maxRecDepth 100000 in
theorem tw_bound (p : UInt8 → Bool) : ∀ l : List UInt8, (l.takeWhile p).length ≤ l.length
  | [] => Nat.le_refl _
  | c :: l => by
    unfold List.takeWhile
    split
    · exact Nat.succ_le_succ (tw_bound p l)
    · exact Nat.zero_le _
set_option maxRecDepth 100000 in
theorem tw_at (p : UInt8 → Bool) : ∀ (l : List UInt8) (k : Nat), (∀ j (hj : j < l.length), j < k → p l[j] = true) → (∀ hk : k < l.length, p l[k] = false) → k ≤ l.length → (l.takeWhile p).length = k
  | [], k, _, _, h => by simp at h; subst h; rfl
  | c :: l, 0, _, h, _ => by
    have := h (by simp)
    simp at this
    simp [List.takeWhile, this]
  | c :: l, k + 1, h1, h2, h3 => by
    have hc := h1 0 (by simp) (by omega)
    simp at hc
    simp only [List.takeWhile, hc, List.length_cons]
    rw [tw_at p l k (fun j hj hjk => by have := h1 (j + 1) (by simpa using hj) (by omega); simpa using this) (fun hk => by have := h2 (by simpa using hk); simpa using this) (by simpa using h3)]
set_option maxRecDepth 100000 in
theorem width_pos (s : ByteArray) (pos : Nat) (h : pos < s.size) : 1 ≤ (Utf8.decode s pos).2 := by
  by_cases ha : (s[pos]'h).toNat < 128
  · rw [decode_ascii s pos h ha]
    exact Nat.le_refl _
  · exact (decode_high s pos h (by omega)).2

set_option maxRecDepth 100000 in
set_option maxHeartbeats 1000000 in
/-- front: how many of a text's first bytes are of some (all of them below 128) -/
theorem front_ (l : List UInt8) (t : ByteArray) (p : UInt8 → Bool) (hp : ∀ c, t.data.toList.contains c = p c) (hp2 : ∀ c, p c = true → c.toNat < 128) (hl : l.length ≤ 100000) (w : World) :
    Calls Tryz.prog 39 #[.string ⟨l.toArray⟩, .string t] w fun e w' => e = .returned (.int .i64 (l.takeWhile p).length) ∧ Below w.heap.size w w' := by
  obtain ⟨s, hs⟩ : ∃ s : ByteArray, s = ⟨l.toArray⟩ := ⟨_, rfl⟩
  have hz : s.size = l.length := by rw [hs]; exact size_mk l
  have hg : ∀ (i : Nat) (h : i < s.size) (h2 : i < l.length), s[i]'h = l[i] := by subst hs; exact get_mk l
  rw [← hs]
  have HZ := Lib.hid hz
  have HG := Lib.hid hg
  have HP := Lib.hid hp
  have HP2 := Lib.hid hp2
  have hsb : s.size ≤ 100000 := by omega
  clear hz hg hp hp2 hs
  have hnot : ∀ (x : Bool) (w : World), (Op.unary .not (.bool x)).run Tryz.prog w = .ok (.bool (!x)) w := fun _ _ => rfl
  go_enter Tryz.func39, Tryz.ntmps39
  go_wp2
  go_loopw [5] (fun n w' => ∃ (pos : Nat), w' = w.iter s pos ∧ pos ≤ s.size ∧ Hid (∀ j (hj : j < l.length), j < pos → p l[j] = true)) (fun _ w' => s.size - w'.iterPos w.heap.size)
  case atStart => exact ⟨0, rfl, Nat.zero_le _, Lib.hid (fun j hj h => absurd h (by omega))⟩
  case round =>
    obtain ⟨pos, rfl, hpos, HJ⟩ := hrel
    by_cases hlt : pos < s.size
    · have hl2 : pos < l.length := by rw [← HZ.out]; exact hlt
      have hb : ((s[pos]'hlt).toNat : Int) = (l[pos].toNat : Int) := by rw [HG.out pos hlt hl2]
      obtain ⟨q, hq⟩ : ∃ q, p l[pos] = q := ⟨_, rfl⟩
      have HQ := Lib.hid hq
      clear hq
      cases q with
      | true =>
        have ha : (s[pos]'hlt).toNat < 128 := by rw [HG.out pos hlt hl2]; exact HP2.out _ HQ.out
        have hnx : ∀ ty, (Instr.next (.pointer (some ⟨w.heap.size, 0, none⟩)) true ty).run Tryz.prog (w.iter s pos) = _ := fun ty => run_next_ascii w s pos ty hlt ha
        go_wp2_with (go_at_call 38; refine (is_ l[pos] t true ((HP.out _).trans HQ.out) _).mono ?_; rintro e w' ⟨rfl, rfl⟩)
        go_roundw
        case rel =>
          refine ⟨pos + 1, rfl, by omega, Lib.hid (fun j hj h => ?_)⟩
          by_cases hjp : j = pos
          · subst hjp; exact HQ.out
          · exact HJ.out j hj (by omega)
        case measure => simp; omega
      | false =>
        have hnx : ∀ ty, (Instr.next (.pointer (some ⟨w.heap.size, 0, none⟩)) true ty).run Tryz.prog (w.iter s pos) = _ := fun ty => run_next_any w s pos ty hlt
        go_wp2_with (go_at_call 38; refine (is_ l[pos] t false ((HP.out _).trans HQ.out) _).mono ?_; rintro e w' ⟨rfl, rfl⟩)
        go_ret
        refine ⟨ret_int ?_, (Below.refl _ _).alloc (Nat.le_refl _) _⟩
        rw [tw_at p l pos HJ.out (fun _ => HQ.out) (by omega)]
    · have hnx : ∀ ty, (Instr.next (.pointer (some ⟨w.heap.size, 0, none⟩)) true ty).run Tryz.prog (w.iter s pos) = _ := fun ty => run_next_end w s pos ty hlt
      go_wp2
      go_ret
      refine ⟨ret_int ?_, (Below.refl _ _).alloc (Nat.le_refl _) _⟩
      have e : pos = l.length := by have := HZ.out; omega
      rw [tw_at p l pos HJ.out (fun hk => absurd hk (by omega)) (by omega)]
      have := HZ.out
      omega
end Go.Proofs.YtfnceamkephpjaaGreat.lx
