/-
  No cell of these rows narrows 'for every input' (looked for: loops, veiled, ifaces, maps, wideKeys, modest, calm, conditions, laid).
  DERIVED. THE GIVEN ROWS OF THIS SEAT. 7 by the template 'for every input the law returns true; each argument reads behind the call as it read before'; 0 by the template 'total and deterministic' (their statements: YtogmlhclonlnpaaGreatTotals.lean).
  GIVEN WITH THE SEED: the statements are not yours to turn. If you find one false, say at which input.
  Laid BY PROGRAM, IN A SANDBOX (cutbox-rows.mjs): the forced cells as the released guide's own fill.sh prints them over the translation a29f0af2a609352b… (all of the seat's roots in one cut). By AI agents, Wed Nov 11 2026. No macro, syntax, notation, axiom, sorry.
-/
import Derived.Test.YtogmlhclonlnpaaGreatChecked
import GoSem.Claim
import GoSem.ClaimJoined
import GoSem.ClaimMapViews
import Derived.JoinedTies
import Derived.KernelRfl
namespace Go.Proofs.YtogmlhclonlnpaaGreat
/- THE CELL 'sum', in the pinned program and in every row, IS THE sha256 OF THE DUMP (.gsa) THAT YtogmlhclonlnpaaGreatProg.lean LOADS. Nothing in Lean hashes anything: it is a label: what it is worth is what the hold of that sum in a sandbox is worth. -/
noncomputable def Tryz.pinned : Pinned := { name := "ytogmlhclonlnpaagreat", sum := "a29f0af2a609352b1d80ce67a3a4da555351e5bf6271d415a7d6eaaae42d98a3", checked := Tryz.checked }
namespace Rows
def none {H : Type} : Left H := { results := [], args := [] }

/-- 'laws.FnExactNextStateSets': WHATEVER THE INPUT: true; the input reads as it did. -/
def fnExactNextStateSetsSpec : ChangeSpec := { name := "fnExactNextStateSets", fn := fun _ => fun
  | [d1, d2] => { results := [.lit (.bool true)], args := [d1, d2] }
  | _ => none }
def fnExactNextStateSetsRow : OpenClaim := { program := "ytogmlhclonlnpaagreat", sum := "a29f0af2a609352b1d80ce67a3a4da555351e5bf6271d415a7d6eaaae42d98a3", func := "loop.example/g00862/laws.FnExactNextStateSets", spec := "fnExactNextStateSets", inPlace := ["internal/bytealg.IndexByteString", "internal/bytealg.IndexString"], unfollowed := true, recurses := true, named := ["internal/bytealg.MaxLen"], apart := false }
def FnExactNextStateSetsSaid : Prop := fnExactNextStateSetsRow.holds Tryz.pinned (OpenSpec.ofChange fnExactNextStateSetsSpec)

/-- ITS FALSE NEIGHBOUR: 'it returns false'. Refute it at one input. -/
def fnExactNextStateSetsWrong : ChangeSpec := { name := "fnExactNextStateSets", fn := fun _ => fun
  | [d1, d2] => { results := [.lit (.bool false)], args := [d1, d2] }
  | _ => none }
def FnExactNextStateSetsWrongFalsely : Prop := fnExactNextStateSetsRow.holds Tryz.pinned (OpenSpec.ofChange fnExactNextStateSetsWrong)

/-- 'laws.FnExactSetFunctionSets': WHATEVER THE INPUT: true; the input reads as it did. -/
def fnExactSetFunctionSetsSpec : ChangeSpec := { name := "fnExactSetFunctionSets", fn := fun _ => fun
  | [d1, d2] => { results := [.lit (.bool true)], args := [d1, d2] }
  | _ => none }
def fnExactSetFunctionSetsRow : OpenClaim := { program := "ytogmlhclonlnpaagreat", sum := "a29f0af2a609352b1d80ce67a3a4da555351e5bf6271d415a7d6eaaae42d98a3", func := "loop.example/g00862/laws.FnExactSetFunctionSets", spec := "fnExactSetFunctionSets", inPlace := ["internal/bytealg.IndexByteString", "internal/bytealg.IndexString"], unfollowed := true, recurses := true, named := ["internal/bytealg.MaxLen"], apart := false }
def FnExactSetFunctionSetsSaid : Prop := fnExactSetFunctionSetsRow.holds Tryz.pinned (OpenSpec.ofChange fnExactSetFunctionSetsSpec)

/-- ITS FALSE NEIGHBOUR: 'it returns false'. Refute it at one input. -/
def fnExactSetFunctionSetsWrong : ChangeSpec := { name := "fnExactSetFunctionSets", fn := fun _ => fun
  | [d1, d2] => { results := [.lit (.bool false)], args := [d1, d2] }
  | _ => none }
def FnExactSetFunctionSetsWrongFalsely : Prop := fnExactSetFunctionSetsRow.holds Tryz.pinned (OpenSpec.ofChange fnExactSetFunctionSetsWrong)

/-- 'laws.FnExactResetFunctionSets': WHATEVER THE INPUT: true; the input reads as it did. -/
def fnExactResetFunctionSetsSpec : ChangeSpec := { name := "fnExactResetFunctionSets", fn := fun _ => fun
  | [d1, d2] => { results := [.lit (.bool true)], args := [d1, d2] }
  | _ => none }
def fnExactResetFunctionSetsRow : OpenClaim := { program := "ytogmlhclonlnpaagreat", sum := "a29f0af2a609352b1d80ce67a3a4da555351e5bf6271d415a7d6eaaae42d98a3", func := "loop.example/g00862/laws.FnExactResetFunctionSets", spec := "fnExactResetFunctionSets", inPlace := ["internal/bytealg.IndexByteString", "internal/bytealg.IndexString"], unfollowed := true, recurses := true, named := ["internal/bytealg.MaxLen"], apart := false }
def FnExactResetFunctionSetsSaid : Prop := fnExactResetFunctionSetsRow.holds Tryz.pinned (OpenSpec.ofChange fnExactResetFunctionSetsSpec)

/-- ITS FALSE NEIGHBOUR: 'it returns false'. Refute it at one input. -/
def fnExactResetFunctionSetsWrong : ChangeSpec := { name := "fnExactResetFunctionSets", fn := fun _ => fun
  | [d1, d2] => { results := [.lit (.bool false)], args := [d1, d2] }
  | _ => none }
def FnExactResetFunctionSetsWrongFalsely : Prop := fnExactResetFunctionSetsRow.holds Tryz.pinned (OpenSpec.ofChange fnExactResetFunctionSetsWrong)

/-- 'laws.FnExactNextValue': WHATEVER THE INPUT: true; the input reads as it did. -/
def fnExactNextValueSpec : ChangeSpec := { name := "fnExactNextValue", fn := fun _ => fun
  | [d1, d2, d3] => { results := [.lit (.bool true)], args := [d1, d2, d3] }
  | _ => none }
def fnExactNextValueRow : OpenClaim := { program := "ytogmlhclonlnpaagreat", sum := "a29f0af2a609352b1d80ce67a3a4da555351e5bf6271d415a7d6eaaae42d98a3", func := "loop.example/g00862/laws.FnExactNextValue", spec := "fnExactNextValue", inPlace := ["internal/bytealg.IndexByteString", "internal/bytealg.IndexString"], unfollowed := true, recurses := true, named := ["internal/bytealg.MaxLen"], apart := false }
def FnExactNextValueSaid : Prop := fnExactNextValueRow.holds Tryz.pinned (OpenSpec.ofChange fnExactNextValueSpec)

/-- ITS FALSE NEIGHBOUR: 'it returns false'. Refute it at one input. -/
def fnExactNextValueWrong : ChangeSpec := { name := "fnExactNextValue", fn := fun _ => fun
  | [d1, d2, d3] => { results := [.lit (.bool false)], args := [d1, d2, d3] }
  | _ => none }
def FnExactNextValueWrongFalsely : Prop := fnExactNextValueRow.holds Tryz.pinned (OpenSpec.ofChange fnExactNextValueWrong)

/-- 'laws.FnExactNextStateFunction': WHATEVER THE INPUT: true; the input reads as it did. -/
def fnExactNextStateFunctionSpec : ChangeSpec := { name := "fnExactNextStateFunction", fn := fun _ => fun
  | [d1, d2] => { results := [.lit (.bool true)], args := [d1, d2] }
  | _ => none }
def fnExactNextStateFunctionRow : OpenClaim := { program := "ytogmlhclonlnpaagreat", sum := "a29f0af2a609352b1d80ce67a3a4da555351e5bf6271d415a7d6eaaae42d98a3", func := "loop.example/g00862/laws.FnExactNextStateFunction", spec := "fnExactNextStateFunction", inPlace := ["internal/bytealg.IndexByteString", "internal/bytealg.IndexString"], unfollowed := true, recurses := true, named := ["internal/bytealg.MaxLen"], apart := false }
def FnExactNextStateFunctionSaid : Prop := fnExactNextStateFunctionRow.holds Tryz.pinned (OpenSpec.ofChange fnExactNextStateFunctionSpec)

/-- ITS FALSE NEIGHBOUR: 'it returns false'. Refute it at one input. -/
def fnExactNextStateFunctionWrong : ChangeSpec := { name := "fnExactNextStateFunction", fn := fun _ => fun
  | [d1, d2] => { results := [.lit (.bool false)], args := [d1, d2] }
  | _ => none }
def FnExactNextStateFunctionWrongFalsely : Prop := fnExactNextStateFunctionRow.holds Tryz.pinned (OpenSpec.ofChange fnExactNextStateFunctionWrong)

/-- 'laws.FnExactComplexGateCircuit': WHATEVER THE INPUT: true; the input reads as it did. -/
def fnExactComplexGateCircuitSpec : ChangeSpec := { name := "fnExactComplexGateCircuit", fn := fun _ => fun
  | [d] => { results := [.lit (.bool true)], args := [d] }
  | _ => none }
def fnExactComplexGateCircuitRow : OpenClaim := { program := "ytogmlhclonlnpaagreat", sum := "a29f0af2a609352b1d80ce67a3a4da555351e5bf6271d415a7d6eaaae42d98a3", func := "loop.example/g00862/laws.FnExactComplexGateCircuit", spec := "fnExactComplexGateCircuit", inPlace := ["internal/bytealg.IndexByteString", "internal/bytealg.IndexString"], unfollowed := true, recurses := true, named := ["internal/bytealg.MaxLen"], apart := false }
def FnExactComplexGateCircuitSaid : Prop := fnExactComplexGateCircuitRow.holds Tryz.pinned (OpenSpec.ofChange fnExactComplexGateCircuitSpec)

/-- ITS FALSE NEIGHBOUR: 'it returns false'. Refute it at one input. -/
def fnExactComplexGateCircuitWrong : ChangeSpec := { name := "fnExactComplexGateCircuit", fn := fun _ => fun
  | [d] => { results := [.lit (.bool false)], args := [d] }
  | _ => none }
def FnExactComplexGateCircuitWrongFalsely : Prop := fnExactComplexGateCircuitRow.holds Tryz.pinned (OpenSpec.ofChange fnExactComplexGateCircuitWrong)

/-- 'laws.FnExactGeneralizedCCircuit': WHATEVER THE INPUT: true; the input reads as it did. -/
def fnExactGeneralizedCCircuitSpec : ChangeSpec := { name := "fnExactGeneralizedCCircuit", fn := fun _ => fun
  | [d] => { results := [.lit (.bool true)], args := [d] }
  | _ => none }
def fnExactGeneralizedCCircuitRow : OpenClaim := { program := "ytogmlhclonlnpaagreat", sum := "a29f0af2a609352b1d80ce67a3a4da555351e5bf6271d415a7d6eaaae42d98a3", func := "loop.example/g00862/laws.FnExactGeneralizedCCircuit", spec := "fnExactGeneralizedCCircuit", inPlace := ["internal/bytealg.IndexByteString", "internal/bytealg.IndexString"], unfollowed := true, recurses := true, named := ["internal/bytealg.MaxLen"], apart := false }
def FnExactGeneralizedCCircuitSaid : Prop := fnExactGeneralizedCCircuitRow.holds Tryz.pinned (OpenSpec.ofChange fnExactGeneralizedCCircuitSpec)

/-- ITS FALSE NEIGHBOUR: 'it returns false'. Refute it at one input. -/
def fnExactGeneralizedCCircuitWrong : ChangeSpec := { name := "fnExactGeneralizedCCircuit", fn := fun _ => fun
  | [d] => { results := [.lit (.bool false)], args := [d] }
  | _ => none }
def FnExactGeneralizedCCircuitWrongFalsely : Prop := fnExactGeneralizedCCircuitRow.holds Tryz.pinned (OpenSpec.ofChange fnExactGeneralizedCCircuitWrong)

/- THE SECOND FORM. 'bulk': how many values and letters a reading holds, each counted each time it is reached (what is shared counts as often as it is met; a slice's spare places count too). A statement '..UptoSaid' is the law's where the arguments, and the package variables that the reading takes, are together of bulk at most 1048576: NARROWER than '..Said'. Prove '..Said' where nothing that the law and all that it calls make is longer than what came in: it says more and counts as full. Else prove '..UptoSaid'. A law counts once. -/
mutual
def uptoBulk {H : Type} : DataW H → Nat
  | .lit (.string bytes) => bytes.length + 1
  | .lit _ => 1
  | .nil => 1
  | .ptr d => uptoBulk d + 1
  | .slice elems spare => uptoBulkAll elems + uptoBulkAll spare + 1
  | .agg parts => uptoBulkAll parts + 1
  | .iface _ d => uptoBulk d + 1
  | .map entries => uptoBulkEntries entries + 1
  | .held _ => 1
def uptoBulkAll {H : Type} : List (DataW H) → Nat
  | [] => 0
  | d :: r => uptoBulk d + uptoBulkAll r
def uptoBulkEntries {H : Type} : List (Lit × DataW H) → Nat
  | [] => 0
  | x :: r => uptoBulkEntry x + uptoBulkEntries r
def uptoBulkEntry {H : Type} : Lit × DataW H → Nat
  | (.string bytes, d) => bytes.length + uptoBulk d + 1
  | (_, d) => uptoBulk d + 1
 end
def uptoSmall : (H : Type) → List (DataW H) → Bool := fun _ ds => decide (uptoBulkAll ds ≤ 1048576)
def OpenSpec.upto (s : _root_.Go.ChangeSpec) : _root_.Go.OpenSpec := { _root_.Go.OpenSpec.ofChange s with cond := some uptoSmall }

/-- 'laws.FnExactNextStateSets', WHERE WHAT IT READS IS OF BULK AT MOST 1048576: true; the input reads as it did. -/
def fnExactNextStateSetsUptoRow : OpenClaim := { program := "ytogmlhclonlnpaagreat", sum := "a29f0af2a609352b1d80ce67a3a4da555351e5bf6271d415a7d6eaaae42d98a3", func := "loop.example/g00862/laws.FnExactNextStateSets", spec := "fnExactNextStateSets", inPlace := ["internal/bytealg.IndexByteString", "internal/bytealg.IndexString"], unfollowed := true, recurses := true, named := ["internal/bytealg.MaxLen"], apart := false, narrowed := true }
def FnExactNextStateSetsUptoSaid : Prop := fnExactNextStateSetsUptoRow.holds Tryz.pinned (OpenSpec.upto fnExactNextStateSetsSpec)

/-- 'laws.FnExactSetFunctionSets', WHERE WHAT IT READS IS OF BULK AT MOST 1048576: true; the input reads as it did. -/
def fnExactSetFunctionSetsUptoRow : OpenClaim := { program := "ytogmlhclonlnpaagreat", sum := "a29f0af2a609352b1d80ce67a3a4da555351e5bf6271d415a7d6eaaae42d98a3", func := "loop.example/g00862/laws.FnExactSetFunctionSets", spec := "fnExactSetFunctionSets", inPlace := ["internal/bytealg.IndexByteString", "internal/bytealg.IndexString"], unfollowed := true, recurses := true, named := ["internal/bytealg.MaxLen"], apart := false, narrowed := true }
def FnExactSetFunctionSetsUptoSaid : Prop := fnExactSetFunctionSetsUptoRow.holds Tryz.pinned (OpenSpec.upto fnExactSetFunctionSetsSpec)

/-- 'laws.FnExactResetFunctionSets', WHERE WHAT IT READS IS OF BULK AT MOST 1048576: true; the input reads as it did. -/
def fnExactResetFunctionSetsUptoRow : OpenClaim := { program := "ytogmlhclonlnpaagreat", sum := "a29f0af2a609352b1d80ce67a3a4da555351e5bf6271d415a7d6eaaae42d98a3", func := "loop.example/g00862/laws.FnExactResetFunctionSets", spec := "fnExactResetFunctionSets", inPlace := ["internal/bytealg.IndexByteString", "internal/bytealg.IndexString"], unfollowed := true, recurses := true, named := ["internal/bytealg.MaxLen"], apart := false, narrowed := true }
def FnExactResetFunctionSetsUptoSaid : Prop := fnExactResetFunctionSetsUptoRow.holds Tryz.pinned (OpenSpec.upto fnExactResetFunctionSetsSpec)

/-- 'laws.FnExactNextValue', WHERE WHAT IT READS IS OF BULK AT MOST 1048576: true; the input reads as it did. -/
def fnExactNextValueUptoRow : OpenClaim := { program := "ytogmlhclonlnpaagreat", sum := "a29f0af2a609352b1d80ce67a3a4da555351e5bf6271d415a7d6eaaae42d98a3", func := "loop.example/g00862/laws.FnExactNextValue", spec := "fnExactNextValue", inPlace := ["internal/bytealg.IndexByteString", "internal/bytealg.IndexString"], unfollowed := true, recurses := true, named := ["internal/bytealg.MaxLen"], apart := false, narrowed := true }
def FnExactNextValueUptoSaid : Prop := fnExactNextValueUptoRow.holds Tryz.pinned (OpenSpec.upto fnExactNextValueSpec)

/-- 'laws.FnExactNextStateFunction', WHERE WHAT IT READS IS OF BULK AT MOST 1048576: true; the input reads as it did. -/
def fnExactNextStateFunctionUptoRow : OpenClaim := { program := "ytogmlhclonlnpaagreat", sum := "a29f0af2a609352b1d80ce67a3a4da555351e5bf6271d415a7d6eaaae42d98a3", func := "loop.example/g00862/laws.FnExactNextStateFunction", spec := "fnExactNextStateFunction", inPlace := ["internal/bytealg.IndexByteString", "internal/bytealg.IndexString"], unfollowed := true, recurses := true, named := ["internal/bytealg.MaxLen"], apart := false, narrowed := true }
def FnExactNextStateFunctionUptoSaid : Prop := fnExactNextStateFunctionUptoRow.holds Tryz.pinned (OpenSpec.upto fnExactNextStateFunctionSpec)

/-- 'laws.FnExactComplexGateCircuit', WHERE WHAT IT READS IS OF BULK AT MOST 1048576: true; the input reads as it did. -/
def fnExactComplexGateCircuitUptoRow : OpenClaim := { program := "ytogmlhclonlnpaagreat", sum := "a29f0af2a609352b1d80ce67a3a4da555351e5bf6271d415a7d6eaaae42d98a3", func := "loop.example/g00862/laws.FnExactComplexGateCircuit", spec := "fnExactComplexGateCircuit", inPlace := ["internal/bytealg.IndexByteString", "internal/bytealg.IndexString"], unfollowed := true, recurses := true, named := ["internal/bytealg.MaxLen"], apart := false, narrowed := true }
def FnExactComplexGateCircuitUptoSaid : Prop := fnExactComplexGateCircuitUptoRow.holds Tryz.pinned (OpenSpec.upto fnExactComplexGateCircuitSpec)

/-- 'laws.FnExactGeneralizedCCircuit', WHERE WHAT IT READS IS OF BULK AT MOST 1048576: true; the input reads as it did. -/
def fnExactGeneralizedCCircuitUptoRow : OpenClaim := { program := "ytogmlhclonlnpaagreat", sum := "a29f0af2a609352b1d80ce67a3a4da555351e5bf6271d415a7d6eaaae42d98a3", func := "loop.example/g00862/laws.FnExactGeneralizedCCircuit", spec := "fnExactGeneralizedCCircuit", inPlace := ["internal/bytealg.IndexByteString", "internal/bytealg.IndexString"], unfollowed := true, recurses := true, named := ["internal/bytealg.MaxLen"], apart := false, narrowed := true }
def FnExactGeneralizedCCircuitUptoSaid : Prop := fnExactGeneralizedCCircuitUptoRow.holds Tryz.pinned (OpenSpec.upto fnExactGeneralizedCCircuitSpec)

end Rows
end Go.Proofs.YtogmlhclonlnpaaGreat
