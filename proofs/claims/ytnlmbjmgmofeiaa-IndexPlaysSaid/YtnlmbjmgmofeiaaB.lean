/- Contracts of the value seat, second part: bare, Check, known. -/
import Derived.Test.YtnlmbjmgmofeiaaA
namespace Go.Proofs.Ytnlmbjmgmofeiaa.val
open Go.ChangeShapes Go.WideShapes Go.ChangeAt Go.RowKit Go.Proofs.Ytnlmbjmgmofeiaa.lib
set_option linter.unusedVariables false

def bareN (k n : Int) : Int := if k = 1 ∨ k = 2 then n else 0
def bareS (k : Int) (s : ByteArray) : ByteArray := if k = 3 then s else ByteArray.empty

/-- are two values the same? -/
def vEq (k n : Int) (s : ByteArray) (k' n' : Int) (s' : ByteArray) : Bool := k == k' && (n == n' && s == s')
theorem eqlV (k n : Int) (s : ByteArray) (k' n' : Int) (s' : ByteArray) (w : World) :
    (binOp .eql 41 (.agg #[.int .i64 k, .int .i64 n, .string s]) (.agg #[.int .i64 k', .int .i64 n', .string s'])).run Try.prog w = .ok (.bool (vEq k n s k' n' s')) w := by
  unfold vEq
  rw [beq_toListBytes]
  cases h1 : k == k' <;> cases h2 : n == n' <;> cases h3 : s.toList == s'.toList <;> go_simp
theorem neqV (k n : Int) (s : ByteArray) (k' n' : Int) (s' : ByteArray) (w : World) :
    (binOp .neq 41 (.agg #[.int .i64 k, .int .i64 n, .string s]) (.agg #[.int .i64 k', .int .i64 n', .string s'])).run Try.prog w = .ok (.bool (!vEq k n s k' n' s')) w := by
  unfold vEq
  rw [beq_toListBytes]
  cases h1 : k == k' <;> cases h2 : n == n' <;> cases h3 : s.toList == s'.toList <;> go_simp

/-- what Check says -/
def chk (k n : Int) (s : ByteArray) : Int := if k < 0 ∨ 3 < k then 3 else if vEq k n s k (bareN k n) (bareS k s) = false ∨ (k = 1 ∧ n ≠ 0 ∧ n ≠ 1) then 1 else if 60 < s.size then 5 else 0

end Go.Proofs.Ytnlmbjmgmofeiaa.val
