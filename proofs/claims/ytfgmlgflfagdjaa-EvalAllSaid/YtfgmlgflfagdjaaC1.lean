/- Contracts: behind, tells (any name, any column's name). -/
import Derived.Test.YtfgmlgflfagdjaaMixedWalk
import Derived.Laws.RangeAny
import Derived.Laws.RangeString
namespace Go.Proofs.Ytfgmlgflfagdjaa.ev
open Go.ChangeShapes Go.WideShapes Go.ChangeAt Go.RowKit Go.Proofs.Ytfgmlgflfagdjaa.lib Go.Proofs.Ytfgmlgflfagdjaa.val
set_option linter.unusedVariables false

theorem size_mk (l : List UInt8) : (ByteArray.mk l.toArray).size = l.length := by simp [ByteArray.size]
theorem get_mk (l : List UInt8) (i : Nat) (h : i < (ByteArray.mk l.toArray).size) (h2 : i < l.length) : (ByteArray.mk l.toArray)[i]'h = l[i] := by
  simp [ByteArray.getElem_eq_getElem_data]
theorem drop_mk (l : List UInt8) (n : Nat) (h : n ≤ l.length) : (ByteArray.mk l.toArray).extract n l.length = ⟨(l.drop n).toArray⟩ := by
  apply ByteArray.ext
  rw [ByteArray.data_extract]
  simp
  exact List.take_of_length_le (by simp)
structure Str (s : ByteArray) (l : List UInt8) : Prop where
  eq : s = ⟨l.toArray⟩
theorem Str.size {s : ByteArray} {l : List UInt8} (h : Str s l) : s.size = l.length := by rw [h.eq]; exact size_mk l
theorem Str.get {s : ByteArray} {l : List UInt8} (h : Str s l) (i : Nat) (h1 : i < s.size) (h2 : i < l.length) : s[i]'h1 = l[i] := by
  obtain ⟨rfl⟩ := h
  exact get_mk l i h1 h2
theorem Str.of (s : ByteArray) : Str s s.data.toList := ⟨rfl⟩
theorem decode_in (s : ByteArray) (i : Nat) (h : i < s.size) : i + (Utf8.decode s i).2 ≤ s.size ∧ ∀ j, 1 ≤ j → j < (Utf8.decode s i).2 → 128 ≤ (s.get! (i + j)).toNat := by
  simp only [Utf8.decode]
  repeat' split
  all_goals
    simp_all
    try omega
    try (refine ⟨by omega, fun j h1 h2 => ?_⟩)
    try (have hj : j = 1 ∨ j = 2 ∨ j = 3 := by omega)
    try (rcases hj with rfl | rfl | rfl <;> omega)
theorem width_pos (s : ByteArray) (pos : Nat) (h : pos < s.size) : 1 ≤ (Utf8.decode s pos).2 := by
  by_cases ha : (s[pos]'h).toNat < 128
  · rw [decode_ascii s pos h ha]
    exact Nat.le_refl _
  · exact (decode_high s pos h (by omega)).2

/-- what stands behind the first point -/
def behL : List UInt8 → Option (List UInt8)
  | [] => none
  | c :: r => if c = 46 then some r else behL r
theorem behL_at : ∀ (l : List UInt8) (k : Nat), k ≤ l.length → (∀ j (hj : j < l.length), j < k → l[j] ≠ 46) → behL l = behL (l.drop k)
  | l, 0, _, _ => by rw [List.drop_zero]
  | [], k + 1, h, _ => by simp at h
  | c :: l, k + 1, h, hj => by
    have hc := hj 0 (by simp) (by omega)
    simp only [List.getElem_cons_zero] at hc
    rw [behL, if_neg hc, List.drop_succ_cons]
    exact behL_at l k (by simpa using h) (fun j h1 h2 => by have := hj (j + 1) (by simpa using h1) (by omega); simpa using this)
def BehV (o : Option (List UInt8)) : Value := match o with
  | some r => .tuple #[.string ⟨r.toArray⟩, .bool true]
  | none => .tuple #[.string ⟨#[]⟩, .bool false]

set_option maxHeartbeats 2000000 in
theorem behind_ (s : ByteArray) (l : List UInt8) (hs : Str s l) (hl : l.length ≤ 100000) (w : World) :
    Calls Try.prog 75 #[.string s] w fun e w' => e = .returned (BehV (behL l)) ∧ Below w.heap.size w w' := by
  have HS := Lib.hid hs
  have hz := hs.size
  have HZ := Lib.hid hz
  have hsb : s.size ≤ 100000 := by omega
  clear hs hz
  go_enter Try.func75, Try.ntmps75
  go_wp2
  go_loopw [4, 5] (fun _ _ w' => ∃ (pos : Nat), w' = w.iter s pos ∧ pos ≤ s.size ∧ Hid (∀ j (hj : j < l.length), j < pos → l[j] ≠ 46)) (fun _ _ w' => s.size - w'.iterPos w.heap.size)
  case atStart => exact ⟨0, rfl, Nat.zero_le _, Lib.hid (fun j hj h => absurd h (by omega))⟩
  case round =>
    obtain ⟨pos, rfl, hpos, HJ⟩ := hrel
    by_cases hlt : pos < s.size
    · have hl2 : pos < l.length := by rw [← HZ.out]; exact hlt
      have hg := HS.out.get pos hlt hl2
      have hnx : ∀ ty, (Instr.next (.pointer (some ⟨w.heap.size, 0, none⟩)) true ty).run Try.prog (w.iter s pos) = _ := fun ty => run_next_any w s pos ty hlt
      have hwd := width_pos s pos hlt
      have hin := decode_in s pos hlt
      by_cases h46 : (s[pos]'hlt) = 46
      · have hdc : (Utf8.decode s pos).1 = 46 := by rw [decode_ascii s pos hlt (by rw [h46]; decide), h46]; rfl
        have hd : (((Utf8.decode s pos).1 : Int) == 46) = true := by rw [hdc]; rfl
        have h47 : l[pos] = 46 := by rw [← hg, h46]
        have HB := Lib.hid (show behL l = some (l.drop (pos + 1)) by
          rw [behL_at l pos (by omega) HJ.out, List.drop_eq_getElem_cons hl2, h47, behL, if_pos rfl])
        have HX := Lib.hid (show s.extract (pos + 1) s.size = ⟨(l.drop (pos + 1)).toArray⟩ by
          rw [HZ.out, HS.out.eq]; exact drop_mk l (pos + 1) (by omega))
        clear hdc h46 h47 hg hin hwd
        go_wp2
        go_ret2
        refine ⟨?_, (Below.refl _ _).alloc (Nat.le_refl _) _⟩
        rw [HB.out]
        exact congrArg (fun b => Ending.returned (.tuple #[.string b, .bool true])) HX.out
      · have hdc : (Utf8.decode s pos).1 ≠ 46 := by
          by_cases ha : (s[pos]'hlt).toNat < 128
          · rw [decode_ascii s pos hlt ha]
            intro e
            exact h46 (UInt8.toNat_inj.1 e)
          · have := (decode_high s pos hlt (by omega)).1
            omega
        have hd : (((Utf8.decode s pos).1 : Int) == 46) = false := by
          rw [Bool.eq_false_iff]
          intro e
          rw [beq_iff_eq] at e
          exact hdc (by omega)
        have HIN := Lib.hid hin.2
        have hin1 := hin.1
        have H46 := Lib.hid (show l[pos] ≠ 46 by rw [← hg]; exact h46)
        clear hdc h46 hg hin
        go_wp2
        go_roundw
        case rel =>
          refine ⟨pos + (Utf8.decode s pos).2, rfl, hin1, Lib.hid (fun j hj h => ?_)⟩
          by_cases h1 : j < pos
          · exact HJ.out j hj h1
          · by_cases h2 : j = pos
            · subst h2; exact H46.out
            · have h3 := HIN.out (j - pos) (by omega) (by omega)
              rw [show pos + (j - pos) = j by omega] at h3
              have hjs : j < s.size := by rw [HZ.out]; exact hj
              have e : s.get! j = s[j]'hjs := by have := get_at s j hjs; simpa using this
              rw [e, HS.out.get j hjs hj] at h3
              intro e
              rw [e] at h3
              exact absurd h3 (by decide)
        case measure => simp; omega
    · have hnx : ∀ ty, (Instr.next (.pointer (some ⟨w.heap.size, 0, none⟩)) true ty).run Try.prog (w.iter s pos) = _ := fun ty => run_next_end w s pos ty hlt
      have HB := Lib.hid (show behL l = none by
        rw [behL_at l pos (by have := HZ.out; omega) HJ.out, List.drop_of_length_le (by have := HZ.out; omega)]; rfl)
      go_wp2
      go_ret2
      rw [HB.out]
      exact ⟨rfl, (Below.refl _ _).alloc (Nat.le_refl _) _⟩

theorem beqBA' (a b : ByteArray) : (a == b) = true ↔ a = b := by
  constructor
  · intro h
    apply ByteArray.ext
    exact eq_of_beq (α := Array UInt8) h
  · rintro rfl
    exact beq_self_eq_true a.data
theorem tl_eq {s t : ByteArray} {l m : List UInt8} (hs : Str s l) (ht : Str t m) : (s.toList == t.toList) = (l == m) := by
  obtain ⟨rfl⟩ := hs
  obtain ⟨rfl⟩ := ht
  rw [ByteArray.toList_eq, ByteArray.toList_eq]
/-- does a name tell a column's? -/
def sameO (n : List UInt8) : Option (List UInt8) → Bool
  | some r => n == r
  | none => false
def tellsL (n c : List UInt8) : Bool := n == c || ((behL n).isNone && sameO n (behL c))

set_option maxHeartbeats 2000000 in
theorem tells_ (s t : ByteArray) (l m : List UInt8) (hs : Str s l) (ht : Str t m) (hl : l.length ≤ 100000) (hm : m.length ≤ 100000) (k : Int) (z : Bool) (w : World) :
    Calls Try.prog 67 #[.string s, .agg #[.string t, .int .i64 k, .bool z]] w fun e w' => e = .returned (.bool (tellsL l m)) ∧ Below w.heap.size w w' := by
  have h0 := tl_eq hs ht
  obtain ⟨b0, hb0⟩ : ∃ b, (l == m) = b := ⟨_, rfl⟩
  rw [hb0] at h0
  obtain ⟨o1, ho1⟩ : ∃ o, behL l = o := ⟨_, rfl⟩
  obtain ⟨o2, ho2⟩ : ∃ o, behL m = o := ⟨_, rfl⟩
  have HR : Hid (tellsL l m = (b0 || (o1.isNone && sameO l o2))) := Lib.hid (by unfold tellsL; rw [hb0, ho1, ho2])
  have HB1 := Lib.hid (show ∀ W, Calls Try.prog 75 #[.string s] W fun e w' => e = .returned (BehV o1) ∧ Below W.heap.size W w' by intro W; rw [← ho1]; exact behind_ s l hs hl W)
  have HB2 := Lib.hid (show ∀ W, Calls Try.prog 75 #[.string t] W fun e w' => e = .returned (BehV o2) ∧ Below W.heap.size W w' by intro W; rw [← ho2]; exact behind_ t m ht hm W)
  have HE : Hid (s.toList = l) := Lib.hid (by rw [ByteArray.toList_eq, hs.eq])
  clear hb0 ho1 ho2 hs ht
  cases b0 with
  | true =>
    go_enter Try.func67, Try.ntmps67
    go_wp2
    go_ret
    rw [HR.out]
    exact ⟨rfl, (Below.refl _ _).alloc (Nat.le_refl _) _⟩
  | false =>
    go_enter Try.func67, Try.ntmps67
    go_wp2_with fail
    obtain ⟨W, hW_, hbW, B1⟩ : ∃ W_, W_ = (w.alloc (.cells #[.string t, .int .i64 k, .bool z] 77)) ∧ Below w.heap.size w W_ ∧ Blk W_ (w.heap.size) 77 #[.string t, .int .i64 k, .bool z] :=
      ⟨_, rfl, ((Below.refl _ _).alloc (Nat.le_refl _) _), (blk_new_at w (w.heap.size) _ _ (by simp))⟩
    rw [← hW_]
    clear hW_
    have q := B1.cell 0
    go_wp2_with fail
    refine (HB1.out _).mono ?_
    rintro e w1 ⟨rfl, hb1⟩
    have q1 := (B1.ext hb1).cell 0
    clear q
    cases o1 with
    | some r1 =>
      unfold BehV
      go_wp2_with fail
      refine (HB2.out _).mono ?_
      rintro e w2 ⟨rfl, hb2⟩
      unfold BehV
      cases o2 with
      | some r2 =>
        go_wp2
        go_ret
        rw [HR.out]
        exact ⟨rfl, bch0 hbW (bch0 hb1 hb2)⟩
      | none =>
        go_wp2
        go_ret
        rw [HR.out]
        exact ⟨rfl, bch0 hbW (bch0 hb1 hb2)⟩
    | none =>
      unfold BehV
      go_wp2_with fail
      refine (HB2.out _).mono ?_
      rintro e w2 ⟨rfl, hb2⟩
      unfold BehV
      cases o2 with
      | some r2 =>
        go_wp2
        go_ret
        rw [HR.out]
        exact ⟨ret_bool (by rw [HE.out]; rfl), bch0 hbW (bch0 hb1 hb2)⟩
      | none =>
        go_wp2
        go_ret
        rw [HR.out]
        exact ⟨rfl, bch0 hbW (bch0 hb1 hb2)⟩
end Go.Proofs.Ytfgmlgflfagdjaa.ev
