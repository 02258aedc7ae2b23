/-
  No cell of these rows narrows 'for every input' (looked for: loops, veiled, ifaces, maps, wideKeys, modest, calm, conditions, laid).
  DERIVED. THE GIVEN ROWS OF THIS SEAT. 9 by the template 'for every input the law returns true; each argument reads behind the call as it read before'; 0 by the template 'total and deterministic' (their statements: YtfgmlgflfagdjaaTotals.lean).
  GIVEN WITH THE SEED: the statements are not yours to turn. If you find one false, say at which input.
  Laid BY PROGRAM, IN A SANDBOX (cutbox-rows.mjs): the forced cells as the released guide's own fill.sh prints them over the translation eaf73b29f0bcf397… (all of the seat's roots in one cut). By AI agents, Wed Nov 11 2026. No macro, syntax, notation, axiom, sorry.
-/
import Derived.Test.YtfgmlgflfagdjaaChecked
import GoSem.Claim
import GoSem.ClaimJoined
import GoSem.ClaimMapViews
import Derived.JoinedTies
import Derived.KernelRfl
namespace Go.Proofs.Ytfgmlgflfagdjaa
/- THE CELL 'sum', in the pinned program and in every row, IS THE sha256 OF THE DUMP (.gsa) THAT YtfgmlgflfagdjaaProg.lean LOADS. Nothing in Lean hashes anything: it is a label: what it is worth is what the hold of that sum in a sandbox is worth. -/
noncomputable def Try.pinned : Pinned := { name := "ytfgmlgflfagdjaa", sum := "eaf73b29f0bcf397389de73f7898f48cfac9d88dd44f3e928e764cb8119d8d79", checked := Try.checked }
namespace Rows
def none {H : Type} : Left H := { results := [], args := [] }

/-- 'ledgerlinelaw19.EvalAll': WHATEVER THE INPUT: true; the input reads as it did. -/
def evalAllSpec : ChangeSpec := { name := "evalAll", fn := fun _ => fun
  | [d1, d2, d3, d4] => { results := [.lit (.bool true)], args := [d1, d2, d3, d4] }
  | _ => none }
def evalAllRow : OpenClaim := { program := "ytfgmlgflfagdjaa", sum := "eaf73b29f0bcf397389de73f7898f48cfac9d88dd44f3e928e764cb8119d8d79", func := "ledgerline/ledgerlinelaw19.EvalAll", spec := "evalAll", inPlace := ["internal/bytealg.abigen_runtime_cmpstring"], unfollowed := true, recurses := true, apart := false }
def EvalAllSaid : Prop := evalAllRow.holds Try.pinned (OpenSpec.ofChange evalAllSpec)

/-- ITS FALSE NEIGHBOUR: 'it returns false'. Refute it at one input. -/
def evalAllWrong : ChangeSpec := { name := "evalAll", fn := fun _ => fun
  | [d1, d2, d3, d4] => { results := [.lit (.bool false)], args := [d1, d2, d3, d4] }
  | _ => none }
def EvalAllWrongFalsely : Prop := evalAllRow.holds Try.pinned (OpenSpec.ofChange evalAllWrong)

/-- 'ledgerlinelaw19.EvalKinds': WHATEVER THE INPUT: true; the input reads as it did. -/
def evalKindsSpec : ChangeSpec := { name := "evalKinds", fn := fun _ => fun
  | [d1, d2, d3] => { results := [.lit (.bool true)], args := [d1, d2, d3] }
  | _ => none }
def evalKindsRow : OpenClaim := { program := "ytfgmlgflfagdjaa", sum := "eaf73b29f0bcf397389de73f7898f48cfac9d88dd44f3e928e764cb8119d8d79", func := "ledgerline/ledgerlinelaw19.EvalKinds", spec := "evalKinds", inPlace := ["internal/bytealg.abigen_runtime_cmpstring"], unfollowed := true, recurses := true, apart := false }
def EvalKindsSaid : Prop := evalKindsRow.holds Try.pinned (OpenSpec.ofChange evalKindsSpec)

/-- ITS FALSE NEIGHBOUR: 'it returns false'. Refute it at one input. -/
def evalKindsWrong : ChangeSpec := { name := "evalKinds", fn := fun _ => fun
  | [d1, d2, d3] => { results := [.lit (.bool false)], args := [d1, d2, d3] }
  | _ => none }
def EvalKindsWrongFalsely : Prop := evalKindsRow.holds Try.pinned (OpenSpec.ofChange evalKindsWrong)

/-- 'ledgerlinelaw19.EvalThree': WHATEVER THE INPUT: true; the input reads as it did. -/
def evalThreeSpec : ChangeSpec := { name := "evalThree", fn := fun _ => fun
  | [d1, d2] => { results := [.lit (.bool true)], args := [d1, d2] }
  | _ => none }
def evalThreeRow : OpenClaim := { program := "ytfgmlgflfagdjaa", sum := "eaf73b29f0bcf397389de73f7898f48cfac9d88dd44f3e928e764cb8119d8d79", func := "ledgerline/ledgerlinelaw19.EvalThree", spec := "evalThree", inPlace := ["internal/bytealg.abigen_runtime_cmpstring"], unfollowed := true, recurses := true, apart := false }
def EvalThreeSaid : Prop := evalThreeRow.holds Try.pinned (OpenSpec.ofChange evalThreeSpec)

/-- ITS FALSE NEIGHBOUR: 'it returns false'. Refute it at one input. -/
def evalThreeWrong : ChangeSpec := { name := "evalThree", fn := fun _ => fun
  | [d1, d2] => { results := [.lit (.bool false)], args := [d1, d2] }
  | _ => none }
def EvalThreeWrongFalsely : Prop := evalThreeRow.holds Try.pinned (OpenSpec.ofChange evalThreeWrong)

/-- 'ledgerlinelaw19.EvalOver': WHATEVER THE INPUT: true; the input reads as it did. -/
def evalOverSpec : ChangeSpec := { name := "evalOver", fn := fun _ => fun
  | [d1, d2, d3] => { results := [.lit (.bool true)], args := [d1, d2, d3] }
  | _ => none }
def evalOverRow : OpenClaim := { program := "ytfgmlgflfagdjaa", sum := "eaf73b29f0bcf397389de73f7898f48cfac9d88dd44f3e928e764cb8119d8d79", func := "ledgerline/ledgerlinelaw19.EvalOver", spec := "evalOver", inPlace := ["internal/bytealg.abigen_runtime_cmpstring"], unfollowed := true, recurses := true, apart := false }
def EvalOverSaid : Prop := evalOverRow.holds Try.pinned (OpenSpec.ofChange evalOverSpec)

/-- ITS FALSE NEIGHBOUR: 'it returns false'. Refute it at one input. -/
def evalOverWrong : ChangeSpec := { name := "evalOver", fn := fun _ => fun
  | [d1, d2, d3] => { results := [.lit (.bool false)], args := [d1, d2, d3] }
  | _ => none }
def EvalOverWrongFalsely : Prop := evalOverRow.holds Try.pinned (OpenSpec.ofChange evalOverWrong)

/-- 'ledgerlinelaw19.EvalNames': WHATEVER THE INPUT: true; the input reads as it did. -/
def evalNamesSpec : ChangeSpec := { name := "evalNames", fn := fun _ => fun
  | [d] => { results := [.lit (.bool true)], args := [d] }
  | _ => none }
def evalNamesRow : OpenClaim := { program := "ytfgmlgflfagdjaa", sum := "eaf73b29f0bcf397389de73f7898f48cfac9d88dd44f3e928e764cb8119d8d79", func := "ledgerline/ledgerlinelaw19.EvalNames", spec := "evalNames", inPlace := ["internal/bytealg.abigen_runtime_cmpstring"], unfollowed := true, recurses := true, apart := false }
def EvalNamesSaid : Prop := evalNamesRow.holds Try.pinned (OpenSpec.ofChange evalNamesSpec)

/-- ITS FALSE NEIGHBOUR: 'it returns false'. Refute it at one input. -/
def evalNamesWrong : ChangeSpec := { name := "evalNames", fn := fun _ => fun
  | [d] => { results := [.lit (.bool false)], args := [d] }
  | _ => none }
def EvalNamesWrongFalsely : Prop := evalNamesRow.holds Try.pinned (OpenSpec.ofChange evalNamesWrong)

/-- 'ledgerlinelaw19.EvalCompares': WHATEVER THE INPUT: true; the input reads as it did. -/
def evalComparesSpec : ChangeSpec := { name := "evalCompares", fn := fun _ => fun
  | [d1, d2, d3, d4, d5] => { results := [.lit (.bool true)], args := [d1, d2, d3, d4, d5] }
  | _ => none }
def evalComparesRow : OpenClaim := { program := "ytfgmlgflfagdjaa", sum := "eaf73b29f0bcf397389de73f7898f48cfac9d88dd44f3e928e764cb8119d8d79", func := "ledgerline/ledgerlinelaw19.EvalCompares", spec := "evalCompares", inPlace := ["internal/bytealg.abigen_runtime_cmpstring"], unfollowed := true, recurses := true, apart := false }
def EvalComparesSaid : Prop := evalComparesRow.holds Try.pinned (OpenSpec.ofChange evalComparesSpec)

/-- ITS FALSE NEIGHBOUR: 'it returns false'. Refute it at one input. -/
def evalComparesWrong : ChangeSpec := { name := "evalCompares", fn := fun _ => fun
  | [d1, d2, d3, d4, d5] => { results := [.lit (.bool false)], args := [d1, d2, d3, d4, d5] }
  | _ => none }
def EvalComparesWrongFalsely : Prop := evalComparesRow.holds Try.pinned (OpenSpec.ofChange evalComparesWrong)

/-- 'ledgerlinelaw19.EvalMixed': WHATEVER THE INPUT: true; the input reads as it did. -/
def evalMixedSpec : ChangeSpec := { name := "evalMixed", fn := fun _ => fun
  | [d1, d2, d3] => { results := [.lit (.bool true)], args := [d1, d2, d3] }
  | _ => none }
def evalMixedRow : OpenClaim := { program := "ytfgmlgflfagdjaa", sum := "eaf73b29f0bcf397389de73f7898f48cfac9d88dd44f3e928e764cb8119d8d79", func := "ledgerline/ledgerlinelaw19.EvalMixed", spec := "evalMixed", inPlace := ["internal/bytealg.abigen_runtime_cmpstring"], unfollowed := true, recurses := true, apart := false }
def EvalMixedSaid : Prop := evalMixedRow.holds Try.pinned (OpenSpec.ofChange evalMixedSpec)

/-- ITS FALSE NEIGHBOUR: 'it returns false'. Refute it at one input. -/
def evalMixedWrong : ChangeSpec := { name := "evalMixed", fn := fun _ => fun
  | [d1, d2, d3] => { results := [.lit (.bool false)], args := [d1, d2, d3] }
  | _ => none }
def EvalMixedWrongFalsely : Prop := evalMixedRow.holds Try.pinned (OpenSpec.ofChange evalMixedWrong)

/-- 'ledgerlinelaw19.EvalSums': WHATEVER THE INPUT: true; the input reads as it did. -/
def evalSumsSpec : ChangeSpec := { name := "evalSums", fn := fun _ => fun
  | [d1, d2, d3] => { results := [.lit (.bool true)], args := [d1, d2, d3] }
  | _ => none }
def evalSumsRow : OpenClaim := { program := "ytfgmlgflfagdjaa", sum := "eaf73b29f0bcf397389de73f7898f48cfac9d88dd44f3e928e764cb8119d8d79", func := "ledgerline/ledgerlinelaw19.EvalSums", spec := "evalSums", inPlace := ["internal/bytealg.abigen_runtime_cmpstring"], unfollowed := true, recurses := true, apart := false }
def EvalSumsSaid : Prop := evalSumsRow.holds Try.pinned (OpenSpec.ofChange evalSumsSpec)

/-- ITS FALSE NEIGHBOUR: 'it returns false'. Refute it at one input. -/
def evalSumsWrong : ChangeSpec := { name := "evalSums", fn := fun _ => fun
  | [d1, d2, d3] => { results := [.lit (.bool false)], args := [d1, d2, d3] }
  | _ => none }
def EvalSumsWrongFalsely : Prop := evalSumsRow.holds Try.pinned (OpenSpec.ofChange evalSumsWrong)

/-- 'ledgerlinelaw19.EvalLong': WHATEVER THE INPUT: true; the input reads as it did. -/
def evalLongSpec : ChangeSpec := { name := "evalLong", fn := fun _ => fun
  | [d] => { results := [.lit (.bool true)], args := [d] }
  | _ => none }
def evalLongRow : OpenClaim := { program := "ytfgmlgflfagdjaa", sum := "eaf73b29f0bcf397389de73f7898f48cfac9d88dd44f3e928e764cb8119d8d79", func := "ledgerline/ledgerlinelaw19.EvalLong", spec := "evalLong", inPlace := ["internal/bytealg.abigen_runtime_cmpstring"], unfollowed := true, recurses := true, apart := false }
def EvalLongSaid : Prop := evalLongRow.holds Try.pinned (OpenSpec.ofChange evalLongSpec)

/-- ITS FALSE NEIGHBOUR: 'it returns false'. Refute it at one input. -/
def evalLongWrong : ChangeSpec := { name := "evalLong", fn := fun _ => fun
  | [d] => { results := [.lit (.bool false)], args := [d] }
  | _ => none }
def EvalLongWrongFalsely : Prop := evalLongRow.holds Try.pinned (OpenSpec.ofChange evalLongWrong)

/- THE SECOND FORM. 'bulk': how many values and letters a reading holds, each counted each time it is reached (what is shared counts as often as it is met; a slice's spare places count too). A statement '..UptoSaid' is the law's where the arguments, and the package variables that the reading takes, are together of bulk at most 1048576: NARROWER than '..Said'. Prove '..Said' where nothing that the law and all that it calls make is longer than what came in: it says more and counts as full. Else prove '..UptoSaid'. A law counts once. -/
mutual
def uptoBulk {H : Type} : DataW H → Nat
  | .lit (.string bytes) => bytes.length + 1
  | .lit _ => 1
  | .nil => 1
  | .ptr d => uptoBulk d + 1
  | .slice elems spare => uptoBulkAll elems + uptoBulkAll spare + 1
  | .agg parts => uptoBulkAll parts + 1
  | .iface _ d => uptoBulk d + 1
  | .map entries => uptoBulkEntries entries + 1
  | .held _ => 1
def uptoBulkAll {H : Type} : List (DataW H) → Nat
  | [] => 0
  | d :: r => uptoBulk d + uptoBulkAll r
def uptoBulkEntries {H : Type} : List (Lit × DataW H) → Nat
  | [] => 0
  | x :: r => uptoBulkEntry x + uptoBulkEntries r
def uptoBulkEntry {H : Type} : Lit × DataW H → Nat
  | (.string bytes, d) => bytes.length + uptoBulk d + 1
  | (_, d) => uptoBulk d + 1
 end
def uptoSmall : (H : Type) → List (DataW H) → Bool := fun _ ds => decide (uptoBulkAll ds ≤ 1048576)
def OpenSpec.upto (s : _root_.Go.ChangeSpec) : _root_.Go.OpenSpec := { _root_.Go.OpenSpec.ofChange s with cond := some uptoSmall }

/-- 'ledgerlinelaw19.EvalAll', WHERE WHAT IT READS IS OF BULK AT MOST 1048576: true; the input reads as it did. -/
def evalAllUptoRow : OpenClaim := { program := "ytfgmlgflfagdjaa", sum := "eaf73b29f0bcf397389de73f7898f48cfac9d88dd44f3e928e764cb8119d8d79", func := "ledgerline/ledgerlinelaw19.EvalAll", spec := "evalAll", inPlace := ["internal/bytealg.abigen_runtime_cmpstring"], unfollowed := true, recurses := true, apart := false, narrowed := true }
def EvalAllUptoSaid : Prop := evalAllUptoRow.holds Try.pinned (OpenSpec.upto evalAllSpec)

/-- 'ledgerlinelaw19.EvalKinds', WHERE WHAT IT READS IS OF BULK AT MOST 1048576: true; the input reads as it did. -/
def evalKindsUptoRow : OpenClaim := { program := "ytfgmlgflfagdjaa", sum := "eaf73b29f0bcf397389de73f7898f48cfac9d88dd44f3e928e764cb8119d8d79", func := "ledgerline/ledgerlinelaw19.EvalKinds", spec := "evalKinds", inPlace := ["internal/bytealg.abigen_runtime_cmpstring"], unfollowed := true, recurses := true, apart := false, narrowed := true }
def EvalKindsUptoSaid : Prop := evalKindsUptoRow.holds Try.pinned (OpenSpec.upto evalKindsSpec)

/-- 'ledgerlinelaw19.EvalThree', WHERE WHAT IT READS IS OF BULK AT MOST 1048576: true; the input reads as it did. -/
def evalThreeUptoRow : OpenClaim := { program := "ytfgmlgflfagdjaa", sum := "eaf73b29f0bcf397389de73f7898f48cfac9d88dd44f3e928e764cb8119d8d79", func := "ledgerline/ledgerlinelaw19.EvalThree", spec := "evalThree", inPlace := ["internal/bytealg.abigen_runtime_cmpstring"], unfollowed := true, recurses := true, apart := false, narrowed := true }
def EvalThreeUptoSaid : Prop := evalThreeUptoRow.holds Try.pinned (OpenSpec.upto evalThreeSpec)

/-- 'ledgerlinelaw19.EvalOver', WHERE WHAT IT READS IS OF BULK AT MOST 1048576: true; the input reads as it did. -/
def evalOverUptoRow : OpenClaim := { program := "ytfgmlgflfagdjaa", sum := "eaf73b29f0bcf397389de73f7898f48cfac9d88dd44f3e928e764cb8119d8d79", func := "ledgerline/ledgerlinelaw19.EvalOver", spec := "evalOver", inPlace := ["internal/bytealg.abigen_runtime_cmpstring"], unfollowed := true, recurses := true, apart := false, narrowed := true }
def EvalOverUptoSaid : Prop := evalOverUptoRow.holds Try.pinned (OpenSpec.upto evalOverSpec)

/-- 'ledgerlinelaw19.EvalNames', WHERE WHAT IT READS IS OF BULK AT MOST 1048576: true; the input reads as it did. -/
def evalNamesUptoRow : OpenClaim := { program := "ytfgmlgflfagdjaa", sum := "eaf73b29f0bcf397389de73f7898f48cfac9d88dd44f3e928e764cb8119d8d79", func := "ledgerline/ledgerlinelaw19.EvalNames", spec := "evalNames", inPlace := ["internal/bytealg.abigen_runtime_cmpstring"], unfollowed := true, recurses := true, apart := false, narrowed := true }
def EvalNamesUptoSaid : Prop := evalNamesUptoRow.holds Try.pinned (OpenSpec.upto evalNamesSpec)

/-- 'ledgerlinelaw19.EvalCompares', WHERE WHAT IT READS IS OF BULK AT MOST 1048576: true; the input reads as it did. -/
def evalComparesUptoRow : OpenClaim := { program := "ytfgmlgflfagdjaa", sum := "eaf73b29f0bcf397389de73f7898f48cfac9d88dd44f3e928e764cb8119d8d79", func := "ledgerline/ledgerlinelaw19.EvalCompares", spec := "evalCompares", inPlace := ["internal/bytealg.abigen_runtime_cmpstring"], unfollowed := true, recurses := true, apart := false, narrowed := true }
def EvalComparesUptoSaid : Prop := evalComparesUptoRow.holds Try.pinned (OpenSpec.upto evalComparesSpec)

/-- 'ledgerlinelaw19.EvalMixed', WHERE WHAT IT READS IS OF BULK AT MOST 1048576: true; the input reads as it did. -/
def evalMixedUptoRow : OpenClaim := { program := "ytfgmlgflfagdjaa", sum := "eaf73b29f0bcf397389de73f7898f48cfac9d88dd44f3e928e764cb8119d8d79", func := "ledgerline/ledgerlinelaw19.EvalMixed", spec := "evalMixed", inPlace := ["internal/bytealg.abigen_runtime_cmpstring"], unfollowed := true, recurses := true, apart := false, narrowed := true }
def EvalMixedUptoSaid : Prop := evalMixedUptoRow.holds Try.pinned (OpenSpec.upto evalMixedSpec)

/-- 'ledgerlinelaw19.EvalSums', WHERE WHAT IT READS IS OF BULK AT MOST 1048576: true; the input reads as it did. -/
def evalSumsUptoRow : OpenClaim := { program := "ytfgmlgflfagdjaa", sum := "eaf73b29f0bcf397389de73f7898f48cfac9d88dd44f3e928e764cb8119d8d79", func := "ledgerline/ledgerlinelaw19.EvalSums", spec := "evalSums", inPlace := ["internal/bytealg.abigen_runtime_cmpstring"], unfollowed := true, recurses := true, apart := false, narrowed := true }
def EvalSumsUptoSaid : Prop := evalSumsUptoRow.holds Try.pinned (OpenSpec.upto evalSumsSpec)

/-- 'ledgerlinelaw19.EvalLong', WHERE WHAT IT READS IS OF BULK AT MOST 1048576: true; the input reads as it did. -/
def evalLongUptoRow : OpenClaim := { program := "ytfgmlgflfagdjaa", sum := "eaf73b29f0bcf397389de73f7898f48cfac9d88dd44f3e928e764cb8119d8d79", func := "ledgerline/ledgerlinelaw19.EvalLong", spec := "evalLong", inPlace := ["internal/bytealg.abigen_runtime_cmpstring"], unfollowed := true, recurses := true, apart := false, narrowed := true }
def EvalLongUptoSaid : Prop := evalLongUptoRow.holds Try.pinned (OpenSpec.upto evalLongSpec)

end Rows
end Go.Proofs.Ytfgmlgflfagdjaa
