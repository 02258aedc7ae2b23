/- Contract: word. -/
import Derived.Test.YtfgmlgflfagdjaaK6
namespace Go.Proofs.Ytfgmlgflfagdjaa.lx
open Go.ChangeShapes Go.WideShapes Go.ChangeAt Go.RowKit Go.Proofs.Ytfgmlgflfagdjaa.lib
set_option linter.unusedVariables false

theorem blank_has (c : UInt8) : (⟨#[32, 9, 10]⟩ : ByteArray).data.toList.contains c = blankB c := by
  have h := all_bytes (fun c => (⟨#[32, 9, 10]⟩ : ByteArray).data.toList.contains c == blankB c) (by decide +kernel) c
  simpa using h
theorem letters_has (c : UInt8) : (⟨#[97, 98, 99, 100, 101, 102, 103, 104, 105, 106, 107, 108, 109, 110, 111, 112, 113, 114, 115, 116, 117, 118, 119, 120, 121, 122]⟩ : ByteArray).data.toList.contains c = letB c := by
  have h := all_bytes (fun c => (⟨#[97, 98, 99, 100, 101, 102, 103, 104, 105, 106, 107, 108, 109, 110, 111, 112, 113, 114, 115, 116, 117, 118, 119, 120, 121, 122]⟩ : ByteArray).data.toList.contains c == letB c) (by decide +kernel) c
  simpa using h
theorem names_has (c : UInt8) : (⟨#[97, 98, 99, 100, 101, 102, 103, 104, 105, 106, 107, 108, 109, 110, 111, 112, 113, 114, 115, 116, 117, 118, 119, 120, 121, 122, 48, 49, 50, 51, 52, 53, 54, 55, 56, 57, 95]⟩ : ByteArray).data.toList.contains c = nameB c := by
  have h := all_bytes (fun c => (⟨#[97, 98, 99, 100, 101, 102, 103, 104, 105, 106, 107, 108, 109, 110, 111, 112, 113, 114, 115, 116, 117, 118, 119, 120, 121, 122, 48, 49, 50, 51, 52, 53, 54, 55, 56, 57, 95]⟩ : ByteArray).data.toList.contains c == nameB c) (by decide +kernel) c
  simpa using h
theorem name_low (c : UInt8) (h : nameB c = true) : c.toNat < 128 := by
  have h2 := all_bytes (fun c => !nameB c || decide (c.toNat < 128)) (by decide +kernel) c
  rw [h] at h2
  simpa using h2
theorem signs_has (c : UInt8) : (⟨#[40, 41, 44, 46, 42, 61, 60, 62, 43, 45]⟩ : ByteArray).data.toList.contains c = signB c := rfl
theorem two_only (c : UInt8) (r : List UInt8) (h : twoB (c :: r) = true) : signB c = true := by
  cases r with
  | nil => cases h
  | cons d r => exact two_sign (a := c) (b := d) h

end Go.Proofs.Ytfgmlgflfagdjaa.lx
