/-
  No cell of these rows narrows 'for every input' (looked for: loops, veiled, ifaces, maps, wideKeys, modest, calm, conditions, laid).
  DERIVED. THE GIVEN ROWS OF THIS SEAT. 6 by the template 'for every input the law returns true; each argument reads behind the call as it read before'; 0 by the template 'total and deterministic' (their statements: YtnlmbjmgmofeiaaTotals.lean).
  GIVEN WITH THE SEED: the statements are not yours to turn. If you find one false, say at which input.
  Laid BY PROGRAM, IN A SANDBOX (cutbox-rows.mjs): the forced cells as the released guide's own fill.sh prints them over the translation 5b815b1f539dbae8… (all of the seat's roots in one cut). By AI agents, Wed Nov 11 2026. No macro, syntax, notation, axiom, sorry.
-/
import Derived.Test.YtnlmbjmgmofeiaaChecked
import GoSem.Claim
import GoSem.ClaimJoined
import GoSem.ClaimMapViews
import Derived.JoinedTies
import Derived.KernelRfl
namespace Go.Proofs.Ytnlmbjmgmofeiaa
/- THE CELL 'sum', in the pinned program and in every row, IS THE sha256 OF THE DUMP (.gsa) THAT YtnlmbjmgmofeiaaProg.lean LOADS. Nothing in Lean hashes anything: it is a label: what it is worth is what the hold of that sum in a sandbox is worth. -/
noncomputable def Try.pinned : Pinned := { name := "ytnlmbjmgmofeiaa", sum := "5b815b1f539dbae892f9dcf1746c762a749d8ab07b115b2243dd65a0a2958d3a", checked := Try.checked }
namespace Rows
def none {H : Type} : Left H := { results := [], args := [] }

/-- 'ledgerlinelaw11.IndexAll': WHATEVER THE INPUT: true; the input reads as it did. -/
def indexAllSpec : ChangeSpec := { name := "indexAll", fn := fun _ => fun
  | [d1, d2, d3] => { results := [.lit (.bool true)], args := [d1, d2, d3] }
  | _ => none }
def indexAllRow : OpenClaim := { program := "ytnlmbjmgmofeiaa", sum := "5b815b1f539dbae892f9dcf1746c762a749d8ab07b115b2243dd65a0a2958d3a", func := "ledgerline/ledgerlinelaw11.IndexAll", spec := "indexAll", inPlace := ["internal/bytealg.Compare", "slices.overlaps[ledgerline/index.entry]", "sync/atomic.AddInt64", "sync/atomic.LoadInt64", "internal/bytealg.abigen_runtime_cmpstring"], unfollowed := true, recurses := true, apart := false }
def IndexAllSaid : Prop := indexAllRow.holds Try.pinned (OpenSpec.ofChange indexAllSpec)

/-- ITS FALSE NEIGHBOUR: 'it returns false'. Refute it at one input. -/
def indexAllWrong : ChangeSpec := { name := "indexAll", fn := fun _ => fun
  | [d1, d2, d3] => { results := [.lit (.bool false)], args := [d1, d2, d3] }
  | _ => none }
def IndexAllWrongFalsely : Prop := indexAllRow.holds Try.pinned (OpenSpec.ofChange indexAllWrong)

/-- 'ledgerlinelaw11.IndexFrom': WHATEVER THE INPUT: true; the input reads as it did. -/
def indexFromSpec : ChangeSpec := { name := "indexFrom", fn := fun _ => fun
  | [d1, d2, d3, d4, d5] => { results := [.lit (.bool true)], args := [d1, d2, d3, d4, d5] }
  | _ => none }
def indexFromRow : OpenClaim := { program := "ytnlmbjmgmofeiaa", sum := "5b815b1f539dbae892f9dcf1746c762a749d8ab07b115b2243dd65a0a2958d3a", func := "ledgerline/ledgerlinelaw11.IndexFrom", spec := "indexFrom", inPlace := ["internal/bytealg.Compare", "slices.overlaps[ledgerline/index.entry]", "sync/atomic.AddInt64", "sync/atomic.LoadInt64", "internal/bytealg.abigen_runtime_cmpstring"], unfollowed := true, recurses := true, apart := false }
def IndexFromSaid : Prop := indexFromRow.holds Try.pinned (OpenSpec.ofChange indexFromSpec)

/-- ITS FALSE NEIGHBOUR: 'it returns false'. Refute it at one input. -/
def indexFromWrong : ChangeSpec := { name := "indexFrom", fn := fun _ => fun
  | [d1, d2, d3, d4, d5] => { results := [.lit (.bool false)], args := [d1, d2, d3, d4, d5] }
  | _ => none }
def IndexFromWrongFalsely : Prop := indexFromRow.holds Try.pinned (OpenSpec.ofChange indexFromWrong)

/-- 'ledgerlinelaw11.IndexNone': WHATEVER THE INPUT: true; the input reads as it did. -/
def indexNoneSpec : ChangeSpec := { name := "indexNone", fn := fun _ => fun
  | [d1, d2, d3] => { results := [.lit (.bool true)], args := [d1, d2, d3] }
  | _ => none }
def indexNoneRow : OpenClaim := { program := "ytnlmbjmgmofeiaa", sum := "5b815b1f539dbae892f9dcf1746c762a749d8ab07b115b2243dd65a0a2958d3a", func := "ledgerline/ledgerlinelaw11.IndexNone", spec := "indexNone", inPlace := ["internal/bytealg.Compare", "slices.overlaps[ledgerline/index.entry]", "sync/atomic.AddInt64", "sync/atomic.LoadInt64", "internal/bytealg.abigen_runtime_cmpstring"], unfollowed := true, recurses := true, apart := false }
def IndexNoneSaid : Prop := indexNoneRow.holds Try.pinned (OpenSpec.ofChange indexNoneSpec)

/-- ITS FALSE NEIGHBOUR: 'it returns false'. Refute it at one input. -/
def indexNoneWrong : ChangeSpec := { name := "indexNone", fn := fun _ => fun
  | [d1, d2, d3] => { results := [.lit (.bool false)], args := [d1, d2, d3] }
  | _ => none }
def IndexNoneWrongFalsely : Prop := indexNoneRow.holds Try.pinned (OpenSpec.ofChange indexNoneWrong)

/-- 'ledgerlinelaw11.IndexPlays': WHATEVER THE INPUT: true; the input reads as it did. -/
def indexPlaysSpec : ChangeSpec := { name := "indexPlays", fn := fun _ => fun
  | [d1, d2, d3, d4, d5, d6] => { results := [.lit (.bool true)], args := [d1, d2, d3, d4, d5, d6] }
  | _ => none }
def indexPlaysRow : OpenClaim := { program := "ytnlmbjmgmofeiaa", sum := "5b815b1f539dbae892f9dcf1746c762a749d8ab07b115b2243dd65a0a2958d3a", func := "ledgerline/ledgerlinelaw11.IndexPlays", spec := "indexPlays", inPlace := ["internal/bytealg.Compare", "slices.overlaps[ledgerline/index.entry]", "sync/atomic.AddInt64", "sync/atomic.LoadInt64", "internal/bytealg.abigen_runtime_cmpstring"], unfollowed := true, recurses := true, apart := false }
def IndexPlaysSaid : Prop := indexPlaysRow.holds Try.pinned (OpenSpec.ofChange indexPlaysSpec)

/-- ITS FALSE NEIGHBOUR: 'it returns false'. Refute it at one input. -/
def indexPlaysWrong : ChangeSpec := { name := "indexPlays", fn := fun _ => fun
  | [d1, d2, d3, d4, d5, d6] => { results := [.lit (.bool false)], args := [d1, d2, d3, d4, d5, d6] }
  | _ => none }
def IndexPlaysWrongFalsely : Prop := indexPlaysRow.holds Try.pinned (OpenSpec.ofChange indexPlaysWrong)

/-- 'ledgerlinelaw11.IndexOrder': WHATEVER THE INPUT: true; the input reads as it did. -/
def indexOrderSpec : ChangeSpec := { name := "indexOrder", fn := fun _ => fun
  | [d1, d2, d3, d4] => { results := [.lit (.bool true)], args := [d1, d2, d3, d4] }
  | _ => none }
def indexOrderRow : OpenClaim := { program := "ytnlmbjmgmofeiaa", sum := "5b815b1f539dbae892f9dcf1746c762a749d8ab07b115b2243dd65a0a2958d3a", func := "ledgerline/ledgerlinelaw11.IndexOrder", spec := "indexOrder", inPlace := ["internal/bytealg.Compare", "slices.overlaps[ledgerline/index.entry]", "sync/atomic.AddInt64", "sync/atomic.LoadInt64", "internal/bytealg.abigen_runtime_cmpstring"], unfollowed := true, recurses := true, apart := false }
def IndexOrderSaid : Prop := indexOrderRow.holds Try.pinned (OpenSpec.ofChange indexOrderSpec)

/-- ITS FALSE NEIGHBOUR: 'it returns false'. Refute it at one input. -/
def indexOrderWrong : ChangeSpec := { name := "indexOrder", fn := fun _ => fun
  | [d1, d2, d3, d4] => { results := [.lit (.bool false)], args := [d1, d2, d3, d4] }
  | _ => none }
def IndexOrderWrongFalsely : Prop := indexOrderRow.holds Try.pinned (OpenSpec.ofChange indexOrderWrong)

/-- 'ledgerlinelaw11.IndexTwo': WHATEVER THE INPUT: true; the input reads as it did. -/
def indexTwoSpec : ChangeSpec := { name := "indexTwo", fn := fun _ => fun
  | [d1, d2, d3] => { results := [.lit (.bool true)], args := [d1, d2, d3] }
  | _ => none }
def indexTwoRow : OpenClaim := { program := "ytnlmbjmgmofeiaa", sum := "5b815b1f539dbae892f9dcf1746c762a749d8ab07b115b2243dd65a0a2958d3a", func := "ledgerline/ledgerlinelaw11.IndexTwo", spec := "indexTwo", inPlace := ["internal/bytealg.Compare", "slices.overlaps[ledgerline/index.entry]", "sync/atomic.AddInt64", "sync/atomic.LoadInt64", "internal/bytealg.abigen_runtime_cmpstring"], unfollowed := true, recurses := true, apart := false }
def IndexTwoSaid : Prop := indexTwoRow.holds Try.pinned (OpenSpec.ofChange indexTwoSpec)

/-- ITS FALSE NEIGHBOUR: 'it returns false'. Refute it at one input. -/
def indexTwoWrong : ChangeSpec := { name := "indexTwo", fn := fun _ => fun
  | [d1, d2, d3] => { results := [.lit (.bool false)], args := [d1, d2, d3] }
  | _ => none }
def IndexTwoWrongFalsely : Prop := indexTwoRow.holds Try.pinned (OpenSpec.ofChange indexTwoWrong)

/- THE SECOND FORM. 'bulk': how many values and letters a reading holds, each counted each time it is reached (what is shared counts as often as it is met; a slice's spare places count too). A statement '..UptoSaid' is the law's where the arguments, and the package variables that the reading takes, are together of bulk at most 1048576: NARROWER than '..Said'. Prove '..Said' where nothing that the law and all that it calls make is longer than what came in: it says more and counts as full. Else prove '..UptoSaid'. A law counts once. -/
mutual
def uptoBulk {H : Type} : DataW H → Nat
  | .lit (.string bytes) => bytes.length + 1
  | .lit _ => 1
  | .nil => 1
  | .ptr d => uptoBulk d + 1
  | .slice elems spare => uptoBulkAll elems + uptoBulkAll spare + 1
  | .agg parts => uptoBulkAll parts + 1
  | .iface _ d => uptoBulk d + 1
  | .map entries => uptoBulkEntries entries + 1
  | .held _ => 1
def uptoBulkAll {H : Type} : List (DataW H) → Nat
  | [] => 0
  | d :: r => uptoBulk d + uptoBulkAll r
def uptoBulkEntries {H : Type} : List (Lit × DataW H) → Nat
  | [] => 0
  | x :: r => uptoBulkEntry x + uptoBulkEntries r
def uptoBulkEntry {H : Type} : Lit × DataW H → Nat
  | (.string bytes, d) => bytes.length + uptoBulk d + 1
  | (_, d) => uptoBulk d + 1
 end
def uptoSmall : (H : Type) → List (DataW H) → Bool := fun _ ds => decide (uptoBulkAll ds ≤ 1048576)
def OpenSpec.upto (s : _root_.Go.ChangeSpec) : _root_.Go.OpenSpec := { _root_.Go.OpenSpec.ofChange s with cond := some uptoSmall }

/-- 'ledgerlinelaw11.IndexAll', WHERE WHAT IT READS IS OF BULK AT MOST 1048576: true; the input reads as it did. -/
def indexAllUptoRow : OpenClaim := { program := "ytnlmbjmgmofeiaa", sum := "5b815b1f539dbae892f9dcf1746c762a749d8ab07b115b2243dd65a0a2958d3a", func := "ledgerline/ledgerlinelaw11.IndexAll", spec := "indexAll", inPlace := ["internal/bytealg.Compare", "slices.overlaps[ledgerline/index.entry]", "sync/atomic.AddInt64", "sync/atomic.LoadInt64", "internal/bytealg.abigen_runtime_cmpstring"], unfollowed := true, recurses := true, apart := false, narrowed := true }
def IndexAllUptoSaid : Prop := indexAllUptoRow.holds Try.pinned (OpenSpec.upto indexAllSpec)

/-- 'ledgerlinelaw11.IndexFrom', WHERE WHAT IT READS IS OF BULK AT MOST 1048576: true; the input reads as it did. -/
def indexFromUptoRow : OpenClaim := { program := "ytnlmbjmgmofeiaa", sum := "5b815b1f539dbae892f9dcf1746c762a749d8ab07b115b2243dd65a0a2958d3a", func := "ledgerline/ledgerlinelaw11.IndexFrom", spec := "indexFrom", inPlace := ["internal/bytealg.Compare", "slices.overlaps[ledgerline/index.entry]", "sync/atomic.AddInt64", "sync/atomic.LoadInt64", "internal/bytealg.abigen_runtime_cmpstring"], unfollowed := true, recurses := true, apart := false, narrowed := true }
def IndexFromUptoSaid : Prop := indexFromUptoRow.holds Try.pinned (OpenSpec.upto indexFromSpec)

/-- 'ledgerlinelaw11.IndexNone', WHERE WHAT IT READS IS OF BULK AT MOST 1048576: true; the input reads as it did. -/
def indexNoneUptoRow : OpenClaim := { program := "ytnlmbjmgmofeiaa", sum := "5b815b1f539dbae892f9dcf1746c762a749d8ab07b115b2243dd65a0a2958d3a", func := "ledgerline/ledgerlinelaw11.IndexNone", spec := "indexNone", inPlace := ["internal/bytealg.Compare", "slices.overlaps[ledgerline/index.entry]", "sync/atomic.AddInt64", "sync/atomic.LoadInt64", "internal/bytealg.abigen_runtime_cmpstring"], unfollowed := true, recurses := true, apart := false, narrowed := true }
def IndexNoneUptoSaid : Prop := indexNoneUptoRow.holds Try.pinned (OpenSpec.upto indexNoneSpec)

/-- 'ledgerlinelaw11.IndexPlays', WHERE WHAT IT READS IS OF BULK AT MOST 1048576: true; the input reads as it did. -/
def indexPlaysUptoRow : OpenClaim := { program := "ytnlmbjmgmofeiaa", sum := "5b815b1f539dbae892f9dcf1746c762a749d8ab07b115b2243dd65a0a2958d3a", func := "ledgerline/ledgerlinelaw11.IndexPlays", spec := "indexPlays", inPlace := ["internal/bytealg.Compare", "slices.overlaps[ledgerline/index.entry]", "sync/atomic.AddInt64", "sync/atomic.LoadInt64", "internal/bytealg.abigen_runtime_cmpstring"], unfollowed := true, recurses := true, apart := false, narrowed := true }
def IndexPlaysUptoSaid : Prop := indexPlaysUptoRow.holds Try.pinned (OpenSpec.upto indexPlaysSpec)

/-- 'ledgerlinelaw11.IndexOrder', WHERE WHAT IT READS IS OF BULK AT MOST 1048576: true; the input reads as it did. -/
def indexOrderUptoRow : OpenClaim := { program := "ytnlmbjmgmofeiaa", sum := "5b815b1f539dbae892f9dcf1746c762a749d8ab07b115b2243dd65a0a2958d3a", func := "ledgerline/ledgerlinelaw11.IndexOrder", spec := "indexOrder", inPlace := ["internal/bytealg.Compare", "slices.overlaps[ledgerline/index.entry]", "sync/atomic.AddInt64", "sync/atomic.LoadInt64", "internal/bytealg.abigen_runtime_cmpstring"], unfollowed := true, recurses := true, apart := false, narrowed := true }
def IndexOrderUptoSaid : Prop := indexOrderUptoRow.holds Try.pinned (OpenSpec.upto indexOrderSpec)

/-- 'ledgerlinelaw11.IndexTwo', WHERE WHAT IT READS IS OF BULK AT MOST 1048576: true; the input reads as it did. -/
def indexTwoUptoRow : OpenClaim := { program := "ytnlmbjmgmofeiaa", sum := "5b815b1f539dbae892f9dcf1746c762a749d8ab07b115b2243dd65a0a2958d3a", func := "ledgerline/ledgerlinelaw11.IndexTwo", spec := "indexTwo", inPlace := ["internal/bytealg.Compare", "slices.overlaps[ledgerline/index.entry]", "sync/atomic.AddInt64", "sync/atomic.LoadInt64", "internal/bytealg.abigen_runtime_cmpstring"], unfollowed := true, recurses := true, apart := false, narrowed := true }
def IndexTwoUptoSaid : Prop := indexTwoUptoRow.holds Try.pinned (OpenSpec.upto indexTwoSpec)

end Rows
end Go.Proofs.Ytnlmbjmgmofeiaa
