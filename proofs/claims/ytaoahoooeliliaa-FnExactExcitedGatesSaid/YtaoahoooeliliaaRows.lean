/-
  No cell of these rows narrows 'for every input' (looked for: loops, veiled, ifaces, maps, wideKeys, modest, calm, conditions, laid).
  DERIVED. THE GIVEN ROWS OF THIS SEAT. 10 by the template 'for every input the law returns true; each argument reads behind the call as it read before'; 0 by the template 'total and deterministic' (their statements: YtaoahoooeliliaaTotals.lean).
  GIVEN WITH THE SEED: the statements are not yours to turn. If you find one false, say at which input.
  Laid BY PROGRAM, IN A SANDBOX (cutbox-rows.mjs): the forced cells as the released guide's own fill.sh prints them over the translation 39e61a0ddc3bd9df… (all of the seat's roots in one cut). By AI agents, Wed Nov 11 2026. No macro, syntax, notation, axiom, sorry.
-/
import Derived.Test.YtaoahoooeliliaaChecked
import GoSem.Claim
import GoSem.ClaimJoined
import GoSem.ClaimMapViews
import Derived.JoinedTies
import Derived.KernelRfl
namespace Go.Proofs.Ytaoahoooeliliaa
/- THE CELL 'sum', in the pinned program and in every row, IS THE sha256 OF THE DUMP (.gsa) THAT YtaoahoooeliliaaProg.lean LOADS. Nothing in Lean hashes anything: it is a label: what it is worth is what the hold of that sum in a sandbox is worth. -/
noncomputable def Try.pinned : Pinned := { name := "ytaoahoooeliliaa", sum := "39e61a0ddc3bd9df18c8b12bab790b6cdf849f976b0e21e50cfe18d8ed5f09d4", checked := Try.checked }
namespace Rows
def none {H : Type} : Left H := { results := [], args := [] }

/-- 'laws.FnExactNextGateValue': WHATEVER THE INPUT: true; the input reads as it did. -/
def fnExactNextGateValueSpec : ChangeSpec := { name := "fnExactNextGateValue", fn := fun _ => fun
  | [d1, d2, d3] => { results := [.lit (.bool true)], args := [d1, d2, d3] }
  | _ => none }
def fnExactNextGateValueRow : OpenClaim := { program := "ytaoahoooeliliaa", sum := "39e61a0ddc3bd9df18c8b12bab790b6cdf849f976b0e21e50cfe18d8ed5f09d4", func := "loop.example/g00862/laws.FnExactNextGateValue", spec := "fnExactNextGateValue", inPlace := ["internal/bytealg.IndexByteString", "internal/bytealg.IndexString"], unfollowed := true, recurses := true, named := ["internal/bytealg.MaxLen"], apart := false }
def FnExactNextGateValueSaid : Prop := fnExactNextGateValueRow.holds Try.pinned (OpenSpec.ofChange fnExactNextGateValueSpec)

/-- ITS FALSE NEIGHBOUR: 'it returns false'. Refute it at one input. -/
def fnExactNextGateValueWrong : ChangeSpec := { name := "fnExactNextGateValue", fn := fun _ => fun
  | [d1, d2, d3] => { results := [.lit (.bool false)], args := [d1, d2, d3] }
  | _ => none }
def FnExactNextGateValueWrongFalsely : Prop := fnExactNextGateValueRow.holds Try.pinned (OpenSpec.ofChange fnExactNextGateValueWrong)

/-- 'laws.FnExactExcitedGates': WHATEVER THE INPUT: true; the input reads as it did. -/
def fnExactExcitedGatesSpec : ChangeSpec := { name := "fnExactExcitedGates", fn := fun _ => fun
  | [d1, d2] => { results := [.lit (.bool true)], args := [d1, d2] }
  | _ => none }
def fnExactExcitedGatesRow : OpenClaim := { program := "ytaoahoooeliliaa", sum := "39e61a0ddc3bd9df18c8b12bab790b6cdf849f976b0e21e50cfe18d8ed5f09d4", func := "loop.example/g00862/laws.FnExactExcitedGates", spec := "fnExactExcitedGates", inPlace := ["internal/bytealg.IndexByteString", "internal/bytealg.IndexString"], unfollowed := true, recurses := true, named := ["internal/bytealg.MaxLen"], apart := false }
def FnExactExcitedGatesSaid : Prop := fnExactExcitedGatesRow.holds Try.pinned (OpenSpec.ofChange fnExactExcitedGatesSpec)

/-- ITS FALSE NEIGHBOUR: 'it returns false'. Refute it at one input. -/
def fnExactExcitedGatesWrong : ChangeSpec := { name := "fnExactExcitedGates", fn := fun _ => fun
  | [d1, d2] => { results := [.lit (.bool false)], args := [d1, d2] }
  | _ => none }
def FnExactExcitedGatesWrongFalsely : Prop := fnExactExcitedGatesRow.holds Try.pinned (OpenSpec.ofChange fnExactExcitedGatesWrong)

/-- 'laws.FnExactSignalPartition': WHATEVER THE INPUT: true; the input reads as it did. -/
def fnExactSignalPartitionSpec : ChangeSpec := { name := "fnExactSignalPartition", fn := fun _ => fun
  | [d1, d2] => { results := [.lit (.bool true)], args := [d1, d2] }
  | _ => none }
def fnExactSignalPartitionRow : OpenClaim := { program := "ytaoahoooeliliaa", sum := "39e61a0ddc3bd9df18c8b12bab790b6cdf849f976b0e21e50cfe18d8ed5f09d4", func := "loop.example/g00862/laws.FnExactSignalPartition", spec := "fnExactSignalPartition", unfollowed := true, recurses := true, apart := false }
def FnExactSignalPartitionSaid : Prop := fnExactSignalPartitionRow.holds Try.pinned (OpenSpec.ofChange fnExactSignalPartitionSpec)

/-- ITS FALSE NEIGHBOUR: 'it returns false'. Refute it at one input. -/
def fnExactSignalPartitionWrong : ChangeSpec := { name := "fnExactSignalPartition", fn := fun _ => fun
  | [d1, d2] => { results := [.lit (.bool false)], args := [d1, d2] }
  | _ => none }
def FnExactSignalPartitionWrongFalsely : Prop := fnExactSignalPartitionRow.holds Try.pinned (OpenSpec.ofChange fnExactSignalPartitionWrong)

/-- 'laws.FnExactIsValidPartition': WHATEVER THE INPUT: true; the input reads as it did. -/
def fnExactIsValidPartitionSpec : ChangeSpec := { name := "fnExactIsValidPartition", fn := fun _ => fun
  | [d1, d2] => { results := [.lit (.bool true)], args := [d1, d2] }
  | _ => none }
def fnExactIsValidPartitionRow : OpenClaim := { program := "ytaoahoooeliliaa", sum := "39e61a0ddc3bd9df18c8b12bab790b6cdf849f976b0e21e50cfe18d8ed5f09d4", func := "loop.example/g00862/laws.FnExactIsValidPartition", spec := "fnExactIsValidPartition", unfollowed := true, recurses := true, apart := false }
def FnExactIsValidPartitionSaid : Prop := fnExactIsValidPartitionRow.holds Try.pinned (OpenSpec.ofChange fnExactIsValidPartitionSpec)

/-- ITS FALSE NEIGHBOUR: 'it returns false'. Refute it at one input. -/
def fnExactIsValidPartitionWrong : ChangeSpec := { name := "fnExactIsValidPartition", fn := fun _ => fun
  | [d1, d2] => { results := [.lit (.bool false)], args := [d1, d2] }
  | _ => none }
def FnExactIsValidPartitionWrongFalsely : Prop := fnExactIsValidPartitionRow.holds Try.pinned (OpenSpec.ofChange fnExactIsValidPartitionWrong)

/-- 'laws.FnExactHasCSC': WHATEVER THE INPUT: true; the input reads as it did. -/
def fnExactHasCSCSpec : ChangeSpec := { name := "fnExactHasCSC", fn := fun _ => fun
  | [d] => { results := [.lit (.bool true)], args := [d] }
  | _ => none }
def fnExactHasCSCRow : OpenClaim := { program := "ytaoahoooeliliaa", sum := "39e61a0ddc3bd9df18c8b12bab790b6cdf849f976b0e21e50cfe18d8ed5f09d4", func := "loop.example/g00862/laws.FnExactHasCSC", spec := "fnExactHasCSC", unfollowed := true, recurses := true, apart := false }
def FnExactHasCSCSaid : Prop := fnExactHasCSCRow.holds Try.pinned (OpenSpec.ofChange fnExactHasCSCSpec)

/-- ITS FALSE NEIGHBOUR: 'it returns false'. Refute it at one input. -/
def fnExactHasCSCWrong : ChangeSpec := { name := "fnExactHasCSC", fn := fun _ => fun
  | [d] => { results := [.lit (.bool false)], args := [d] }
  | _ => none }
def FnExactHasCSCWrongFalsely : Prop := fnExactHasCSCRow.holds Try.pinned (OpenSpec.ofChange fnExactHasCSCWrong)

/-- 'laws.FnExactCountDisablings': WHATEVER THE INPUT: true; the input reads as it did. -/
def fnExactCountDisablingsSpec : ChangeSpec := { name := "fnExactCountDisablings", fn := fun _ => fun
  | [d] => { results := [.lit (.bool true)], args := [d] }
  | _ => none }
def fnExactCountDisablingsRow : OpenClaim := { program := "ytaoahoooeliliaa", sum := "39e61a0ddc3bd9df18c8b12bab790b6cdf849f976b0e21e50cfe18d8ed5f09d4", func := "loop.example/g00862/laws.FnExactCountDisablings", spec := "fnExactCountDisablings", unfollowed := true, recurses := true, apart := false }
def FnExactCountDisablingsSaid : Prop := fnExactCountDisablingsRow.holds Try.pinned (OpenSpec.ofChange fnExactCountDisablingsSpec)

/-- ITS FALSE NEIGHBOUR: 'it returns false'. Refute it at one input. -/
def fnExactCountDisablingsWrong : ChangeSpec := { name := "fnExactCountDisablings", fn := fun _ => fun
  | [d] => { results := [.lit (.bool false)], args := [d] }
  | _ => none }
def FnExactCountDisablingsWrongFalsely : Prop := fnExactCountDisablingsRow.holds Try.pinned (OpenSpec.ofChange fnExactCountDisablingsWrong)

/-- 'laws.FnExactInputsUndelayed': WHATEVER THE INPUT: true; the input reads as it did. -/
def fnExactInputsUndelayedSpec : ChangeSpec := { name := "fnExactInputsUndelayed", fn := fun _ => fun
  | [d1, d2] => { results := [.lit (.bool true)], args := [d1, d2] }
  | _ => none }
def fnExactInputsUndelayedRow : OpenClaim := { program := "ytaoahoooeliliaa", sum := "39e61a0ddc3bd9df18c8b12bab790b6cdf849f976b0e21e50cfe18d8ed5f09d4", func := "loop.example/g00862/laws.FnExactInputsUndelayed", spec := "fnExactInputsUndelayed", unfollowed := true, recurses := true, apart := false }
def FnExactInputsUndelayedSaid : Prop := fnExactInputsUndelayedRow.holds Try.pinned (OpenSpec.ofChange fnExactInputsUndelayedSpec)

/-- ITS FALSE NEIGHBOUR: 'it returns false'. Refute it at one input. -/
def fnExactInputsUndelayedWrong : ChangeSpec := { name := "fnExactInputsUndelayed", fn := fun _ => fun
  | [d1, d2] => { results := [.lit (.bool false)], args := [d1, d2] }
  | _ => none }
def FnExactInputsUndelayedWrongFalsely : Prop := fnExactInputsUndelayedRow.holds Try.pinned (OpenSpec.ofChange fnExactInputsUndelayedWrong)

/-- 'laws.FnExactUnreachableCodes': WHATEVER THE INPUT: true; the input reads as it did. -/
def fnExactUnreachableCodesSpec : ChangeSpec := { name := "fnExactUnreachableCodes", fn := fun _ => fun
  | [d] => { results := [.lit (.bool true)], args := [d] }
  | _ => none }
def fnExactUnreachableCodesRow : OpenClaim := { program := "ytaoahoooeliliaa", sum := "39e61a0ddc3bd9df18c8b12bab790b6cdf849f976b0e21e50cfe18d8ed5f09d4", func := "loop.example/g00862/laws.FnExactUnreachableCodes", spec := "fnExactUnreachableCodes", unfollowed := true, recurses := true, apart := false }
def FnExactUnreachableCodesSaid : Prop := fnExactUnreachableCodesRow.holds Try.pinned (OpenSpec.ofChange fnExactUnreachableCodesSpec)

/-- ITS FALSE NEIGHBOUR: 'it returns false'. Refute it at one input. -/
def fnExactUnreachableCodesWrong : ChangeSpec := { name := "fnExactUnreachableCodes", fn := fun _ => fun
  | [d] => { results := [.lit (.bool false)], args := [d] }
  | _ => none }
def FnExactUnreachableCodesWrongFalsely : Prop := fnExactUnreachableCodesRow.holds Try.pinned (OpenSpec.ofChange fnExactUnreachableCodesWrong)

/-- 'laws.FnExactDelayedArcs': WHATEVER THE INPUT: true; the input reads as it did. -/
def fnExactDelayedArcsSpec : ChangeSpec := { name := "fnExactDelayedArcs", fn := fun _ => fun
  | [d1, d2] => { results := [.lit (.bool true)], args := [d1, d2] }
  | _ => none }
def fnExactDelayedArcsRow : OpenClaim := { program := "ytaoahoooeliliaa", sum := "39e61a0ddc3bd9df18c8b12bab790b6cdf849f976b0e21e50cfe18d8ed5f09d4", func := "loop.example/g00862/laws.FnExactDelayedArcs", spec := "fnExactDelayedArcs", unfollowed := true, recurses := true, apart := false }
def FnExactDelayedArcsSaid : Prop := fnExactDelayedArcsRow.holds Try.pinned (OpenSpec.ofChange fnExactDelayedArcsSpec)

/-- ITS FALSE NEIGHBOUR: 'it returns false'. Refute it at one input. -/
def fnExactDelayedArcsWrong : ChangeSpec := { name := "fnExactDelayedArcs", fn := fun _ => fun
  | [d1, d2] => { results := [.lit (.bool false)], args := [d1, d2] }
  | _ => none }
def FnExactDelayedArcsWrongFalsely : Prop := fnExactDelayedArcsRow.holds Try.pinned (OpenSpec.ofChange fnExactDelayedArcsWrong)

/-- 'laws.FnExactImplements': WHATEVER THE INPUT: true; the input reads as it did. -/
def fnExactImplementsSpec : ChangeSpec := { name := "fnExactImplements", fn := fun _ => fun
  | [d1, d2] => { results := [.lit (.bool true)], args := [d1, d2] }
  | _ => none }
def fnExactImplementsRow : OpenClaim := { program := "ytaoahoooeliliaa", sum := "39e61a0ddc3bd9df18c8b12bab790b6cdf849f976b0e21e50cfe18d8ed5f09d4", func := "loop.example/g00862/laws.FnExactImplements", spec := "fnExactImplements", unfollowed := true, recurses := true, apart := false }
def FnExactImplementsSaid : Prop := fnExactImplementsRow.holds Try.pinned (OpenSpec.ofChange fnExactImplementsSpec)

/-- ITS FALSE NEIGHBOUR: 'it returns false'. Refute it at one input. -/
def fnExactImplementsWrong : ChangeSpec := { name := "fnExactImplements", fn := fun _ => fun
  | [d1, d2] => { results := [.lit (.bool false)], args := [d1, d2] }
  | _ => none }
def FnExactImplementsWrongFalsely : Prop := fnExactImplementsRow.holds Try.pinned (OpenSpec.ofChange fnExactImplementsWrong)

/- THE SECOND FORM. 'bulk': how many values and letters a reading holds, each counted each time it is reached (what is shared counts as often as it is met; a slice's spare places count too). A statement '..UptoSaid' is the law's where the arguments, and the package variables that the reading takes, are together of bulk at most 1048576: NARROWER than '..Said'. Prove '..Said' where nothing that the law and all that it calls make is longer than what came in: it says more and counts as full. Else prove '..UptoSaid'. A law counts once. -/
mutual
def uptoBulk {H : Type} : DataW H → Nat
  | .lit (.string bytes) => bytes.length + 1
  | .lit _ => 1
  | .nil => 1
  | .ptr d => uptoBulk d + 1
  | .slice elems spare => uptoBulkAll elems + uptoBulkAll spare + 1
  | .agg parts => uptoBulkAll parts + 1
  | .iface _ d => uptoBulk d + 1
  | .map entries => uptoBulkEntries entries + 1
  | .held _ => 1
def uptoBulkAll {H : Type} : List (DataW H) → Nat
  | [] => 0
  | d :: r => uptoBulk d + uptoBulkAll r
def uptoBulkEntries {H : Type} : List (Lit × DataW H) → Nat
  | [] => 0
  | x :: r => uptoBulkEntry x + uptoBulkEntries r
def uptoBulkEntry {H : Type} : Lit × DataW H → Nat
  | (.string bytes, d) => bytes.length + uptoBulk d + 1
  | (_, d) => uptoBulk d + 1
 end
def uptoSmall : (H : Type) → List (DataW H) → Bool := fun _ ds => decide (uptoBulkAll ds ≤ 1048576)
def OpenSpec.upto (s : _root_.Go.ChangeSpec) : _root_.Go.OpenSpec := { _root_.Go.OpenSpec.ofChange s with cond := some uptoSmall }

/-- 'laws.FnExactNextGateValue', WHERE WHAT IT READS IS OF BULK AT MOST 1048576: true; the input reads as it did. -/
def fnExactNextGateValueUptoRow : OpenClaim := { program := "ytaoahoooeliliaa", sum := "39e61a0ddc3bd9df18c8b12bab790b6cdf849f976b0e21e50cfe18d8ed5f09d4", func := "loop.example/g00862/laws.FnExactNextGateValue", spec := "fnExactNextGateValue", inPlace := ["internal/bytealg.IndexByteString", "internal/bytealg.IndexString"], unfollowed := true, recurses := true, named := ["internal/bytealg.MaxLen"], apart := false, narrowed := true }
def FnExactNextGateValueUptoSaid : Prop := fnExactNextGateValueUptoRow.holds Try.pinned (OpenSpec.upto fnExactNextGateValueSpec)

/-- 'laws.FnExactExcitedGates', WHERE WHAT IT READS IS OF BULK AT MOST 1048576: true; the input reads as it did. -/
def fnExactExcitedGatesUptoRow : OpenClaim := { program := "ytaoahoooeliliaa", sum := "39e61a0ddc3bd9df18c8b12bab790b6cdf849f976b0e21e50cfe18d8ed5f09d4", func := "loop.example/g00862/laws.FnExactExcitedGates", spec := "fnExactExcitedGates", inPlace := ["internal/bytealg.IndexByteString", "internal/bytealg.IndexString"], unfollowed := true, recurses := true, named := ["internal/bytealg.MaxLen"], apart := false, narrowed := true }
def FnExactExcitedGatesUptoSaid : Prop := fnExactExcitedGatesUptoRow.holds Try.pinned (OpenSpec.upto fnExactExcitedGatesSpec)

/-- 'laws.FnExactSignalPartition', WHERE WHAT IT READS IS OF BULK AT MOST 1048576: true; the input reads as it did. -/
def fnExactSignalPartitionUptoRow : OpenClaim := { program := "ytaoahoooeliliaa", sum := "39e61a0ddc3bd9df18c8b12bab790b6cdf849f976b0e21e50cfe18d8ed5f09d4", func := "loop.example/g00862/laws.FnExactSignalPartition", spec := "fnExactSignalPartition", unfollowed := true, recurses := true, apart := false, narrowed := true }
def FnExactSignalPartitionUptoSaid : Prop := fnExactSignalPartitionUptoRow.holds Try.pinned (OpenSpec.upto fnExactSignalPartitionSpec)

/-- 'laws.FnExactIsValidPartition', WHERE WHAT IT READS IS OF BULK AT MOST 1048576: true; the input reads as it did. -/
def fnExactIsValidPartitionUptoRow : OpenClaim := { program := "ytaoahoooeliliaa", sum := "39e61a0ddc3bd9df18c8b12bab790b6cdf849f976b0e21e50cfe18d8ed5f09d4", func := "loop.example/g00862/laws.FnExactIsValidPartition", spec := "fnExactIsValidPartition", unfollowed := true, recurses := true, apart := false, narrowed := true }
def FnExactIsValidPartitionUptoSaid : Prop := fnExactIsValidPartitionUptoRow.holds Try.pinned (OpenSpec.upto fnExactIsValidPartitionSpec)

/-- 'laws.FnExactHasCSC', WHERE WHAT IT READS IS OF BULK AT MOST 1048576: true; the input reads as it did. -/
def fnExactHasCSCUptoRow : OpenClaim := { program := "ytaoahoooeliliaa", sum := "39e61a0ddc3bd9df18c8b12bab790b6cdf849f976b0e21e50cfe18d8ed5f09d4", func := "loop.example/g00862/laws.FnExactHasCSC", spec := "fnExactHasCSC", unfollowed := true, recurses := true, apart := false, narrowed := true }
def FnExactHasCSCUptoSaid : Prop := fnExactHasCSCUptoRow.holds Try.pinned (OpenSpec.upto fnExactHasCSCSpec)

/-- 'laws.FnExactCountDisablings', WHERE WHAT IT READS IS OF BULK AT MOST 1048576: true; the input reads as it did. -/
def fnExactCountDisablingsUptoRow : OpenClaim := { program := "ytaoahoooeliliaa", sum := "39e61a0ddc3bd9df18c8b12bab790b6cdf849f976b0e21e50cfe18d8ed5f09d4", func := "loop.example/g00862/laws.FnExactCountDisablings", spec := "fnExactCountDisablings", unfollowed := true, recurses := true, apart := false, narrowed := true }
def FnExactCountDisablingsUptoSaid : Prop := fnExactCountDisablingsUptoRow.holds Try.pinned (OpenSpec.upto fnExactCountDisablingsSpec)

/-- 'laws.FnExactInputsUndelayed', WHERE WHAT IT READS IS OF BULK AT MOST 1048576: true; the input reads as it did. -/
def fnExactInputsUndelayedUptoRow : OpenClaim := { program := "ytaoahoooeliliaa", sum := "39e61a0ddc3bd9df18c8b12bab790b6cdf849f976b0e21e50cfe18d8ed5f09d4", func := "loop.example/g00862/laws.FnExactInputsUndelayed", spec := "fnExactInputsUndelayed", unfollowed := true, recurses := true, apart := false, narrowed := true }
def FnExactInputsUndelayedUptoSaid : Prop := fnExactInputsUndelayedUptoRow.holds Try.pinned (OpenSpec.upto fnExactInputsUndelayedSpec)

/-- 'laws.FnExactUnreachableCodes', WHERE WHAT IT READS IS OF BULK AT MOST 1048576: true; the input reads as it did. -/
def fnExactUnreachableCodesUptoRow : OpenClaim := { program := "ytaoahoooeliliaa", sum := "39e61a0ddc3bd9df18c8b12bab790b6cdf849f976b0e21e50cfe18d8ed5f09d4", func := "loop.example/g00862/laws.FnExactUnreachableCodes", spec := "fnExactUnreachableCodes", unfollowed := true, recurses := true, apart := false, narrowed := true }
def FnExactUnreachableCodesUptoSaid : Prop := fnExactUnreachableCodesUptoRow.holds Try.pinned (OpenSpec.upto fnExactUnreachableCodesSpec)

/-- 'laws.FnExactDelayedArcs', WHERE WHAT IT READS IS OF BULK AT MOST 1048576: true; the input reads as it did. -/
def fnExactDelayedArcsUptoRow : OpenClaim := { program := "ytaoahoooeliliaa", sum := "39e61a0ddc3bd9df18c8b12bab790b6cdf849f976b0e21e50cfe18d8ed5f09d4", func := "loop.example/g00862/laws.FnExactDelayedArcs", spec := "fnExactDelayedArcs", unfollowed := true, recurses := true, apart := false, narrowed := true }
def FnExactDelayedArcsUptoSaid : Prop := fnExactDelayedArcsUptoRow.holds Try.pinned (OpenSpec.upto fnExactDelayedArcsSpec)

/-- 'laws.FnExactImplements', WHERE WHAT IT READS IS OF BULK AT MOST 1048576: true; the input reads as it did. -/
def fnExactImplementsUptoRow : OpenClaim := { program := "ytaoahoooeliliaa", sum := "39e61a0ddc3bd9df18c8b12bab790b6cdf849f976b0e21e50cfe18d8ed5f09d4", func := "loop.example/g00862/laws.FnExactImplements", spec := "fnExactImplements", unfollowed := true, recurses := true, apart := false, narrowed := true }
def FnExactImplementsUptoSaid : Prop := fnExactImplementsUptoRow.holds Try.pinned (OpenSpec.upto fnExactImplementsSpec)

end Rows
end Go.Proofs.Ytaoahoooeliliaa
