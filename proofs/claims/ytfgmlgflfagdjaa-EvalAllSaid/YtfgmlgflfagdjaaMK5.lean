/- Contract: number. -/
import Derived.Test.YtfgmlgflfagdjaaK4
import Derived.Laws.BytesString
import Derived.Laws.Cells
namespace Go.Proofs.Ytfgmlgflfagdjaa.lx
open Go.ChangeShapes Go.WideShapes Go.ChangeAt Go.RowKit Go.Proofs.Ytfgmlgflfagdjaa.lib
set_option linter.unusedVariables false

theorem tw_take (p : UInt8 → Bool) : ∀ l : List UInt8, l.take (l.takeWhile p).length = l.takeWhile p ∧ l.drop (l.takeWhile p).length = l.dropWhile p
  | [] => ⟨rfl, rfl⟩
  | c :: l => by
    have ih := tw_take p l
    cases hp : p c with
    | true => simp only [List.takeWhile, List.dropWhile, hp, List.length_cons, List.take_succ_cons, List.drop_succ_cons]; exact ⟨by rw [ih.1], ih.2⟩
    | false => simp [List.takeWhile, List.dropWhile, hp]
theorem digits_has (c : UInt8) : (⟨#[48, 49, 50, 51, 52, 53, 54, 55, 56, 57]⟩ : ByteArray).data.toList.contains c = digB c := by
  have h := all_bytes (fun c => (⟨#[48, 49, 50, 51, 52, 53, 54, 55, 56, 57]⟩ : ByteArray).data.toList.contains c == digB c) (by decide +kernel) c
  simpa using h
theorem numL_step (T : List UInt8) (pos : Nat) (y : Int) (h : pos < T.length) : numL (T.drop pos) y = if (9223372036854775807 - ((T[pos].toNat : Int) - 48)) / 10 < y then none else numL (T.drop (pos + 1)) (10 * y + ((T[pos].toNat : Int) - 48)) := by
  rw [List.drop_eq_getElem_cons h, numL]

end Go.Proofs.Ytfgmlgflfagdjaa.lx

/- Contract: text. -/
namespace Go.Proofs.Ytfgmlgflfagdjaa.lx
open Go.ChangeShapes Go.WideShapes Go.ChangeAt Go.RowKit Go.Proofs.Ytfgmlgflfagdjaa.lib
set_option linter.unusedVariables false

def u8s (l : List UInt8) : List Value := (l.map fun c => (c.toNat : Int)).map (Value.int .u8)
theorem u8s_len (l : List UInt8) : (u8s l).length = l.length := by simp [u8s]
theorem u8s_snoc (l : List UInt8) (c : UInt8) : u8s (l ++ [c]) = u8s l ++ [.int .u8 c.toNat] := by simp [u8s]
theorem fold_push : ∀ (l : List UInt8) (s : ByteArray), (l.map fun c => (c.toNat : Int)).foldl (fun r n => r.push (UInt8.ofNat n.toNat)) s = ⟨(s.data.toList ++ l).toArray⟩
  | [], s => by simp
  | c :: l, s => by
    simp only [List.map_cons, List.foldl_cons]
    rw [fold_push l]
    apply ByteArray.ext
    simp
theorem own_slice {w : World} {base size n : Nat} {e : TypeId} {v : Value} {xs : List Value} (h : w.ownsRow base e size v n xs) : ∃ A c, v = .slice A n c := by
  rcases h.2 with ⟨rfl, rfl⟩ | ⟨g, cap, cur, rfl, _⟩
  · exact ⟨_, _, rfl⟩
  · exact ⟨_, _, rfl⟩
theorem conv_ {w : World} {base n c : Nat} {A : Option Addr} {l : List UInt8} (h : w.ownsRow base 5 1 (.slice A n c) n (u8s l)) :
    (convert 99 9 (.slice A n c)).run Try.prog w = .ok (.string ⟨l.toArray⟩) w := by
  rw [run_convert_bytes_string w 99 9 5 A n c Try.underlying99 Try.underlying5 Try.underlying9]
  have hl : l.length = n := by have := h.1; rw [u8s_len] at this; omega
  rcases h.2 with ⟨e, rfl⟩ | ⟨g, cap, cur, e, _⟩
  · injection e with e1
    subst e1
    have : l = [] := List.eq_nil_of_length_eq_zero hl
    subst this
    rfl
  · injection e with e1 _ e3
    subst e1 e3
    have hc := h.cells (g := g) rfl
    have := run_loadCells_list (P := Try.prog) (w := w) ⟨g, 0, none⟩ (u8s l) hc
    rw [u8s_len, hl] at this
    rw [run_bytesToString w _ n _ (l.map fun c => (c.toNat : Int)) this, fold_push]
    rfl
theorem one_at (w : World) (x : Value) (t : TypeId) : ∀ (j : Nat) (u : Value), [x][j]? = some u → (w.alloc (.cells #[x] t)).cell? ((⟨w.heap.size, 0, none⟩ : Addr).add j) = some u := by
  intro j u hj
  match j, hj with
  | 0, hj => simp at hj; subst hj; simp [Addr.add]
theorem textL_nil (acc : List UInt8) : textL [] acc = (6, [], []) := by unfold textL; rfl
theorem textL_other (c : UInt8) (r acc : List UInt8) (h : c ≠ 39) : textL (c :: r) acc = textL r (acc ++ [c]) := by
  cases r with
  | nil => unfold textL; rw [if_neg h]
  | cons d r => conv => lhs; unfold textL
                rw [if_neg h]
theorem textL_twice (r acc : List UInt8) : textL (39 :: 39 :: r) acc = textL r (acc ++ [39]) := by
  conv => lhs; unfold textL
  rw [if_pos rfl, if_pos rfl]
theorem textL_end (r acc : List UInt8) (h : ∀ d q, r = d :: q → d ≠ 39) : textL (39 :: r) acc = if 60 < acc.length then (5, [], []) else (0, acc, r) := by
  cases r with
  | nil => unfold textL; rw [if_pos rfl]
  | cons d r => conv => lhs; unfold textL
                rw [if_pos rfl, if_neg (h d r rfl)]

end Go.Proofs.Ytfgmlgflfagdjaa.lx

/- Contract: word. -/
namespace Go.Proofs.Ytfgmlgflfagdjaa.lx
open Go.ChangeShapes Go.WideShapes Go.ChangeAt Go.RowKit Go.Proofs.Ytfgmlgflfagdjaa.lib
set_option linter.unusedVariables false

theorem blank_has (c : UInt8) : (⟨#[32, 9, 10]⟩ : ByteArray).data.toList.contains c = blankB c := by
  have h := all_bytes (fun c => (⟨#[32, 9, 10]⟩ : ByteArray).data.toList.contains c == blankB c) (by decide +kernel) c
  simpa using h
theorem letters_has (c : UInt8) : (⟨#[97, 98, 99, 100, 101, 102, 103, 104, 105, 106, 107, 108, 109, 110, 111, 112, 113, 114, 115, 116, 117, 118, 119, 120, 121, 122]⟩ : ByteArray).data.toList.contains c = letB c := by
  have h := all_bytes (fun c => (⟨#[97, 98, 99, 100, 101, 102, 103, 104, 105, 106, 107, 108, 109, 110, 111, 112, 113, 114, 115, 116, 117, 118, 119, 120, 121, 122]⟩ : ByteArray).data.toList.contains c == letB c) (by decide +kernel) c
  simpa using h
theorem names_has (c : UInt8) : (⟨#[97, 98, 99, 100, 101, 102, 103, 104, 105, 106, 107, 108, 109, 110, 111, 112, 113, 114, 115, 116, 117, 118, 119, 120, 121, 122, 48, 49, 50, 51, 52, 53, 54, 55, 56, 57, 95]⟩ : ByteArray).data.toList.contains c = nameB c := by
  have h := all_bytes (fun c => (⟨#[97, 98, 99, 100, 101, 102, 103, 104, 105, 106, 107, 108, 109, 110, 111, 112, 113, 114, 115, 116, 117, 118, 119, 120, 121, 122, 48, 49, 50, 51, 52, 53, 54, 55, 56, 57, 95]⟩ : ByteArray).data.toList.contains c == nameB c) (by decide +kernel) c
  simpa using h
theorem name_low (c : UInt8) (h : nameB c = true) : c.toNat < 128 := by
  have h2 := all_bytes (fun c => !nameB c || decide (c.toNat < 128)) (by decide +kernel) c
  rw [h] at h2
  simpa using h2
theorem signs_has (c : UInt8) : (⟨#[40, 41, 44, 46, 42, 61, 60, 62, 43, 45]⟩ : ByteArray).data.toList.contains c = signB c := rfl
theorem two_only (c : UInt8) (r : List UInt8) (h : twoB (c :: r) = true) : signB c = true := by
  cases r with
  | nil => cases h
  | cons d r => exact two_sign (a := c) (b := d) h

end Go.Proofs.Ytfgmlgflfagdjaa.lx
