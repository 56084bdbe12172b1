/-
  No cell of these rows narrows 'for every input' (looked for: loops, veiled, ifaces, maps, wideKeys, modest, calm, conditions, laid).
  DERIVED. THE GIVEN ROWS OF THIS SEAT. 13 by the template 'for every input the law returns true; each argument reads behind the call as it read before'; 0 by the template 'total and deterministic' (their statements: YtnmlcebejnlikaaGreatTotals.lean).
  GIVEN WITH THE SEED: the statements are not yours to turn. If you find one false, say at which input.
  Laid BY PROGRAM, IN A SANDBOX (cutbox-rows.mjs): the forced cells as the released guide's own fill.sh prints them over the translation 0c82135995a17ff2… (all of the seat's roots in one cut). By AI agents, Wed Nov 11 2026. No macro, syntax, notation, axiom, sorry.
-/
import Derived.Test.YtnmlcebejnlikaaGreatChecked
import GoSem.Claim
import GoSem.ClaimJoined
import GoSem.ClaimMapViews
import Derived.JoinedTies
import Derived.KernelRfl
namespace Go.Proofs.YtnmlcebejnlikaaGreat
/- THE CELL 'sum', in the pinned program and in every row, IS THE sha256 OF THE DUMP (.gsa) THAT YtnmlcebejnlikaaGreatProg.lean LOADS. Nothing in Lean hashes anything: it is a label: what it is worth is what the hold of that sum in a sandbox is worth. -/
noncomputable def Tryz.pinned : Pinned := { name := "ytnmlcebejnlikaagreat", sum := "0c82135995a17ff28043bb5942b326ab52aa750f5bf396ebd3551687170a3fa4", checked := Tryz.checked }
namespace Rows
def none {H : Type} : Left H := { results := [], args := [] }

/-- 'laws.FnExactResetFunctionSets': WHATEVER THE INPUT: true; the input reads as it did. -/
def fnExactResetFunctionSetsSpec : ChangeSpec := { name := "fnExactResetFunctionSets", fn := fun _ => fun
  | [d1, d2] => { results := [.lit (.bool true)], args := [d1, d2] }
  | _ => none }
def fnExactResetFunctionSetsRow : OpenClaim := { program := "ytnmlcebejnlikaagreat", sum := "0c82135995a17ff28043bb5942b326ab52aa750f5bf396ebd3551687170a3fa4", func := "loop.example/g00862/laws.FnExactResetFunctionSets", spec := "fnExactResetFunctionSets", inPlace := ["internal/bytealg.IndexByteString", "internal/bytealg.IndexString"], unfollowed := true, recurses := true, named := ["internal/bytealg.MaxLen"], apart := false }
def FnExactResetFunctionSetsSaid : Prop := fnExactResetFunctionSetsRow.holds Tryz.pinned (OpenSpec.ofChange fnExactResetFunctionSetsSpec)

/-- ITS FALSE NEIGHBOUR: 'it returns false'. Refute it at one input. -/
def fnExactResetFunctionSetsWrong : ChangeSpec := { name := "fnExactResetFunctionSets", fn := fun _ => fun
  | [d1, d2] => { results := [.lit (.bool false)], args := [d1, d2] }
  | _ => none }
def FnExactResetFunctionSetsWrongFalsely : Prop := fnExactResetFunctionSetsRow.holds Tryz.pinned (OpenSpec.ofChange fnExactResetFunctionSetsWrong)

/-- 'laws.FnExactNextValue': WHATEVER THE INPUT: true; the input reads as it did. -/
def fnExactNextValueSpec : ChangeSpec := { name := "fnExactNextValue", fn := fun _ => fun
  | [d1, d2, d3] => { results := [.lit (.bool true)], args := [d1, d2, d3] }
  | _ => none }
def fnExactNextValueRow : OpenClaim := { program := "ytnmlcebejnlikaagreat", sum := "0c82135995a17ff28043bb5942b326ab52aa750f5bf396ebd3551687170a3fa4", func := "loop.example/g00862/laws.FnExactNextValue", spec := "fnExactNextValue", inPlace := ["internal/bytealg.IndexByteString", "internal/bytealg.IndexString"], unfollowed := true, recurses := true, named := ["internal/bytealg.MaxLen"], apart := false }
def FnExactNextValueSaid : Prop := fnExactNextValueRow.holds Tryz.pinned (OpenSpec.ofChange fnExactNextValueSpec)

/-- ITS FALSE NEIGHBOUR: 'it returns false'. Refute it at one input. -/
def fnExactNextValueWrong : ChangeSpec := { name := "fnExactNextValue", fn := fun _ => fun
  | [d1, d2, d3] => { results := [.lit (.bool false)], args := [d1, d2, d3] }
  | _ => none }
def FnExactNextValueWrongFalsely : Prop := fnExactNextValueRow.holds Tryz.pinned (OpenSpec.ofChange fnExactNextValueWrong)

/-- 'laws.FnExactNextStateFunction': WHATEVER THE INPUT: true; the input reads as it did. -/
def fnExactNextStateFunctionSpec : ChangeSpec := { name := "fnExactNextStateFunction", fn := fun _ => fun
  | [d1, d2] => { results := [.lit (.bool true)], args := [d1, d2] }
  | _ => none }
def fnExactNextStateFunctionRow : OpenClaim := { program := "ytnmlcebejnlikaagreat", sum := "0c82135995a17ff28043bb5942b326ab52aa750f5bf396ebd3551687170a3fa4", func := "loop.example/g00862/laws.FnExactNextStateFunction", spec := "fnExactNextStateFunction", inPlace := ["internal/bytealg.IndexByteString", "internal/bytealg.IndexString"], unfollowed := true, recurses := true, named := ["internal/bytealg.MaxLen"], apart := false }
def FnExactNextStateFunctionSaid : Prop := fnExactNextStateFunctionRow.holds Tryz.pinned (OpenSpec.ofChange fnExactNextStateFunctionSpec)

/-- ITS FALSE NEIGHBOUR: 'it returns false'. Refute it at one input. -/
def fnExactNextStateFunctionWrong : ChangeSpec := { name := "fnExactNextStateFunction", fn := fun _ => fun
  | [d1, d2] => { results := [.lit (.bool false)], args := [d1, d2] }
  | _ => none }
def FnExactNextStateFunctionWrongFalsely : Prop := fnExactNextStateFunctionRow.holds Tryz.pinned (OpenSpec.ofChange fnExactNextStateFunctionWrong)

/-- 'laws.FnExactExcitationRegions': WHATEVER THE INPUT: true; the input reads as it did. -/
def fnExactExcitationRegionsSpec : ChangeSpec := { name := "fnExactExcitationRegions", fn := fun _ => fun
  | [d1, d2, d3] => { results := [.lit (.bool true)], args := [d1, d2, d3] }
  | _ => none }
def fnExactExcitationRegionsRow : OpenClaim := { program := "ytnmlcebejnlikaagreat", sum := "0c82135995a17ff28043bb5942b326ab52aa750f5bf396ebd3551687170a3fa4", func := "loop.example/g00862/laws.FnExactExcitationRegions", spec := "fnExactExcitationRegions", unfollowed := true, recurses := true, apart := false }
def FnExactExcitationRegionsSaid : Prop := fnExactExcitationRegionsRow.holds Tryz.pinned (OpenSpec.ofChange fnExactExcitationRegionsSpec)

/-- ITS FALSE NEIGHBOUR: 'it returns false'. Refute it at one input. -/
def fnExactExcitationRegionsWrong : ChangeSpec := { name := "fnExactExcitationRegions", fn := fun _ => fun
  | [d1, d2, d3] => { results := [.lit (.bool false)], args := [d1, d2, d3] }
  | _ => none }
def FnExactExcitationRegionsWrongFalsely : Prop := fnExactExcitationRegionsRow.holds Tryz.pinned (OpenSpec.ofChange fnExactExcitationRegionsWrong)

/-- 'laws.FnExactQuiescentRegion': WHATEVER THE INPUT: true; the input reads as it did. -/
def fnExactQuiescentRegionSpec : ChangeSpec := { name := "fnExactQuiescentRegion", fn := fun _ => fun
  | [d1, d2, d3, d4] => { results := [.lit (.bool true)], args := [d1, d2, d3, d4] }
  | _ => none }
def fnExactQuiescentRegionRow : OpenClaim := { program := "ytnmlcebejnlikaagreat", sum := "0c82135995a17ff28043bb5942b326ab52aa750f5bf396ebd3551687170a3fa4", func := "loop.example/g00862/laws.FnExactQuiescentRegion", spec := "fnExactQuiescentRegion", unfollowed := true, recurses := true, apart := false }
def FnExactQuiescentRegionSaid : Prop := fnExactQuiescentRegionRow.holds Tryz.pinned (OpenSpec.ofChange fnExactQuiescentRegionSpec)

/-- ITS FALSE NEIGHBOUR: 'it returns false'. Refute it at one input. -/
def fnExactQuiescentRegionWrong : ChangeSpec := { name := "fnExactQuiescentRegion", fn := fun _ => fun
  | [d1, d2, d3, d4] => { results := [.lit (.bool false)], args := [d1, d2, d3, d4] }
  | _ => none }
def FnExactQuiescentRegionWrongFalsely : Prop := fnExactQuiescentRegionRow.holds Tryz.pinned (OpenSpec.ofChange fnExactQuiescentRegionWrong)

/-- 'laws.FnExactComplexGateCircuit': WHATEVER THE INPUT: true; the input reads as it did. -/
def fnExactComplexGateCircuitSpec : ChangeSpec := { name := "fnExactComplexGateCircuit", fn := fun _ => fun
  | [d] => { results := [.lit (.bool true)], args := [d] }
  | _ => none }
def fnExactComplexGateCircuitRow : OpenClaim := { program := "ytnmlcebejnlikaagreat", sum := "0c82135995a17ff28043bb5942b326ab52aa750f5bf396ebd3551687170a3fa4", func := "loop.example/g00862/laws.FnExactComplexGateCircuit", spec := "fnExactComplexGateCircuit", inPlace := ["internal/bytealg.IndexByteString", "internal/bytealg.IndexString"], unfollowed := true, recurses := true, named := ["internal/bytealg.MaxLen"], apart := false }
def FnExactComplexGateCircuitSaid : Prop := fnExactComplexGateCircuitRow.holds Tryz.pinned (OpenSpec.ofChange fnExactComplexGateCircuitSpec)

/-- ITS FALSE NEIGHBOUR: 'it returns false'. Refute it at one input. -/
def fnExactComplexGateCircuitWrong : ChangeSpec := { name := "fnExactComplexGateCircuit", fn := fun _ => fun
  | [d] => { results := [.lit (.bool false)], args := [d] }
  | _ => none }
def FnExactComplexGateCircuitWrongFalsely : Prop := fnExactComplexGateCircuitRow.holds Tryz.pinned (OpenSpec.ofChange fnExactComplexGateCircuitWrong)

/-- 'laws.FnExactGeneralizedCCircuit': WHATEVER THE INPUT: true; the input reads as it did. -/
def fnExactGeneralizedCCircuitSpec : ChangeSpec := { name := "fnExactGeneralizedCCircuit", fn := fun _ => fun
  | [d] => { results := [.lit (.bool true)], args := [d] }
  | _ => none }
def fnExactGeneralizedCCircuitRow : OpenClaim := { program := "ytnmlcebejnlikaagreat", sum := "0c82135995a17ff28043bb5942b326ab52aa750f5bf396ebd3551687170a3fa4", func := "loop.example/g00862/laws.FnExactGeneralizedCCircuit", spec := "fnExactGeneralizedCCircuit", inPlace := ["internal/bytealg.IndexByteString", "internal/bytealg.IndexString"], unfollowed := true, recurses := true, named := ["internal/bytealg.MaxLen"], apart := false }
def FnExactGeneralizedCCircuitSaid : Prop := fnExactGeneralizedCCircuitRow.holds Tryz.pinned (OpenSpec.ofChange fnExactGeneralizedCCircuitSpec)

/-- ITS FALSE NEIGHBOUR: 'it returns false'. Refute it at one input. -/
def fnExactGeneralizedCCircuitWrong : ChangeSpec := { name := "fnExactGeneralizedCCircuit", fn := fun _ => fun
  | [d] => { results := [.lit (.bool false)], args := [d] }
  | _ => none }
def FnExactGeneralizedCCircuitWrongFalsely : Prop := fnExactGeneralizedCCircuitRow.holds Tryz.pinned (OpenSpec.ofChange fnExactGeneralizedCCircuitWrong)

/-- 'laws.FnExactFormatRegionCovers': WHATEVER THE INPUT: true; the input reads as it did. -/
def fnExactFormatRegionCoversSpec : ChangeSpec := { name := "fnExactFormatRegionCovers", fn := fun _ => fun
  | [d1, d2] => { results := [.lit (.bool true)], args := [d1, d2] }
  | _ => none }
def fnExactFormatRegionCoversRow : OpenClaim := { program := "ytnmlcebejnlikaagreat", sum := "0c82135995a17ff28043bb5942b326ab52aa750f5bf396ebd3551687170a3fa4", func := "loop.example/g00862/laws.FnExactFormatRegionCovers", spec := "fnExactFormatRegionCovers", inPlace := ["internal/abi.NoEscape", "internal/bytealg.MakeNoZero"], unfollowed := true, recurses := true, apart := false }
def FnExactFormatRegionCoversSaid : Prop := fnExactFormatRegionCoversRow.holds Tryz.pinned (OpenSpec.ofChange fnExactFormatRegionCoversSpec)

/-- ITS FALSE NEIGHBOUR: 'it returns false'. Refute it at one input. -/
def fnExactFormatRegionCoversWrong : ChangeSpec := { name := "fnExactFormatRegionCovers", fn := fun _ => fun
  | [d1, d2] => { results := [.lit (.bool false)], args := [d1, d2] }
  | _ => none }
def FnExactFormatRegionCoversWrongFalsely : Prop := fnExactFormatRegionCoversRow.holds Tryz.pinned (OpenSpec.ofChange fnExactFormatRegionCoversWrong)

/-- 'laws.FnExactTraces': WHATEVER THE INPUT: true; the input reads as it did. -/
def fnExactTracesSpec : ChangeSpec := { name := "fnExactTraces", fn := fun _ => fun
  | [d1, d2, d3] => { results := [.lit (.bool true)], args := [d1, d2, d3] }
  | _ => none }
def fnExactTracesRow : OpenClaim := { program := "ytnmlcebejnlikaagreat", sum := "0c82135995a17ff28043bb5942b326ab52aa750f5bf396ebd3551687170a3fa4", func := "loop.example/g00862/laws.FnExactTraces", spec := "fnExactTraces", unfollowed := true, recurses := true, apart := false }
def FnExactTracesSaid : Prop := fnExactTracesRow.holds Tryz.pinned (OpenSpec.ofChange fnExactTracesSpec)

/-- ITS FALSE NEIGHBOUR: 'it returns false'. Refute it at one input. -/
def fnExactTracesWrong : ChangeSpec := { name := "fnExactTraces", fn := fun _ => fun
  | [d1, d2, d3] => { results := [.lit (.bool false)], args := [d1, d2, d3] }
  | _ => none }
def FnExactTracesWrongFalsely : Prop := fnExactTracesRow.holds Tryz.pinned (OpenSpec.ofChange fnExactTracesWrong)

/-- 'laws.FnExactCheckMonotonous': WHATEVER THE INPUT: true; the input reads as it did. -/
def fnExactCheckMonotonousSpec : ChangeSpec := { name := "fnExactCheckMonotonous", fn := fun _ => fun
  | [d1, d2, d3, d4, d5] => { results := [.lit (.bool true)], args := [d1, d2, d3, d4, d5] }
  | _ => none }
def fnExactCheckMonotonousRow : OpenClaim := { program := "ytnmlcebejnlikaagreat", sum := "0c82135995a17ff28043bb5942b326ab52aa750f5bf396ebd3551687170a3fa4", func := "loop.example/g00862/laws.FnExactCheckMonotonous", spec := "fnExactCheckMonotonous", unfollowed := true, recurses := true, apart := false }
def FnExactCheckMonotonousSaid : Prop := fnExactCheckMonotonousRow.holds Tryz.pinned (OpenSpec.ofChange fnExactCheckMonotonousSpec)

/-- ITS FALSE NEIGHBOUR: 'it returns false'. Refute it at one input. -/
def fnExactCheckMonotonousWrong : ChangeSpec := { name := "fnExactCheckMonotonous", fn := fun _ => fun
  | [d1, d2, d3, d4, d5] => { results := [.lit (.bool false)], args := [d1, d2, d3, d4, d5] }
  | _ => none }
def FnExactCheckMonotonousWrongFalsely : Prop := fnExactCheckMonotonousRow.holds Tryz.pinned (OpenSpec.ofChange fnExactCheckMonotonousWrong)

/-- 'laws.FnExactFindMonotonousCube': WHATEVER THE INPUT: true; the input reads as it did. -/
def fnExactFindMonotonousCubeSpec : ChangeSpec := { name := "fnExactFindMonotonousCube", fn := fun _ => fun
  | [d1, d2, d3, d4] => { results := [.lit (.bool true)], args := [d1, d2, d3, d4] }
  | _ => none }
def fnExactFindMonotonousCubeRow : OpenClaim := { program := "ytnmlcebejnlikaagreat", sum := "0c82135995a17ff28043bb5942b326ab52aa750f5bf396ebd3551687170a3fa4", func := "loop.example/g00862/laws.FnExactFindMonotonousCube", spec := "fnExactFindMonotonousCube", unfollowed := true, recurses := true, apart := false }
def FnExactFindMonotonousCubeSaid : Prop := fnExactFindMonotonousCubeRow.holds Tryz.pinned (OpenSpec.ofChange fnExactFindMonotonousCubeSpec)

/-- ITS FALSE NEIGHBOUR: 'it returns false'. Refute it at one input. -/
def fnExactFindMonotonousCubeWrong : ChangeSpec := { name := "fnExactFindMonotonousCube", fn := fun _ => fun
  | [d1, d2, d3, d4] => { results := [.lit (.bool false)], args := [d1, d2, d3, d4] }
  | _ => none }
def FnExactFindMonotonousCubeWrongFalsely : Prop := fnExactFindMonotonousCubeRow.holds Tryz.pinned (OpenSpec.ofChange fnExactFindMonotonousCubeWrong)

/-- 'laws.FnExactAreMonotonous': WHATEVER THE INPUT: true; the input reads as it did. -/
def fnExactAreMonotonousSpec : ChangeSpec := { name := "fnExactAreMonotonous", fn := fun _ => fun
  | [d1, d2] => { results := [.lit (.bool true)], args := [d1, d2] }
  | _ => none }
def fnExactAreMonotonousRow : OpenClaim := { program := "ytnmlcebejnlikaagreat", sum := "0c82135995a17ff28043bb5942b326ab52aa750f5bf396ebd3551687170a3fa4", func := "loop.example/g00862/laws.FnExactAreMonotonous", spec := "fnExactAreMonotonous", unfollowed := true, recurses := true, apart := false }
def FnExactAreMonotonousSaid : Prop := fnExactAreMonotonousRow.holds Tryz.pinned (OpenSpec.ofChange fnExactAreMonotonousSpec)

/-- ITS FALSE NEIGHBOUR: 'it returns false'. Refute it at one input. -/
def fnExactAreMonotonousWrong : ChangeSpec := { name := "fnExactAreMonotonous", fn := fun _ => fun
  | [d1, d2] => { results := [.lit (.bool false)], args := [d1, d2] }
  | _ => none }
def FnExactAreMonotonousWrongFalsely : Prop := fnExactAreMonotonousRow.holds Tryz.pinned (OpenSpec.ofChange fnExactAreMonotonousWrong)

/-- 'laws.FnExactMonotonousCovers': WHATEVER THE INPUT: true; the input reads as it did. -/
def fnExactMonotonousCoversSpec : ChangeSpec := { name := "fnExactMonotonousCovers", fn := fun _ => fun
  | [d] => { results := [.lit (.bool true)], args := [d] }
  | _ => none }
def fnExactMonotonousCoversRow : OpenClaim := { program := "ytnmlcebejnlikaagreat", sum := "0c82135995a17ff28043bb5942b326ab52aa750f5bf396ebd3551687170a3fa4", func := "loop.example/g00862/laws.FnExactMonotonousCovers", spec := "fnExactMonotonousCovers", unfollowed := true, recurses := true, apart := false }
def FnExactMonotonousCoversSaid : Prop := fnExactMonotonousCoversRow.holds Tryz.pinned (OpenSpec.ofChange fnExactMonotonousCoversSpec)

/-- ITS FALSE NEIGHBOUR: 'it returns false'. Refute it at one input. -/
def fnExactMonotonousCoversWrong : ChangeSpec := { name := "fnExactMonotonousCovers", fn := fun _ => fun
  | [d] => { results := [.lit (.bool false)], args := [d] }
  | _ => none }
def FnExactMonotonousCoversWrongFalsely : Prop := fnExactMonotonousCoversRow.holds Tryz.pinned (OpenSpec.ofChange fnExactMonotonousCoversWrong)

/- THE SECOND FORM. 'bulk': how many values and letters a reading holds, each counted each time it is reached (what is shared counts as often as it is met; a slice's spare places count too). A statement '..UptoSaid' is the law's where the arguments, and the package variables that the reading takes, are together of bulk at most 1048576: NARROWER than '..Said'. Prove '..Said' where nothing that the law and all that it calls make is longer than what came in: it says more and counts as full. Else prove '..UptoSaid'. A law counts once. -/
mutual
def uptoBulk {H : Type} : DataW H → Nat
  | .lit (.string bytes) => bytes.length + 1
  | .lit _ => 1
  | .nil => 1
  | .ptr d => uptoBulk d + 1
  | .slice elems spare => uptoBulkAll elems + uptoBulkAll spare + 1
  | .agg parts => uptoBulkAll parts + 1
  | .iface _ d => uptoBulk d + 1
  | .map entries => uptoBulkEntries entries + 1
  | .held _ => 1
def uptoBulkAll {H : Type} : List (DataW H) → Nat
  | [] => 0
  | d :: r => uptoBulk d + uptoBulkAll r
def uptoBulkEntries {H : Type} : List (Lit × DataW H) → Nat
  | [] => 0
  | x :: r => uptoBulkEntry x + uptoBulkEntries r
def uptoBulkEntry {H : Type} : Lit × DataW H → Nat
  | (.string bytes, d) => bytes.length + uptoBulk d + 1
  | (_, d) => uptoBulk d + 1
 end
def uptoSmall : (H : Type) → List (DataW H) → Bool := fun _ ds => decide (uptoBulkAll ds ≤ 1048576)
def OpenSpec.upto (s : _root_.Go.ChangeSpec) : _root_.Go.OpenSpec := { _root_.Go.OpenSpec.ofChange s with cond := some uptoSmall }

/-- 'laws.FnExactResetFunctionSets', WHERE WHAT IT READS IS OF BULK AT MOST 1048576: true; the input reads as it did. -/
def fnExactResetFunctionSetsUptoRow : OpenClaim := { program := "ytnmlcebejnlikaagreat", sum := "0c82135995a17ff28043bb5942b326ab52aa750f5bf396ebd3551687170a3fa4", func := "loop.example/g00862/laws.FnExactResetFunctionSets", spec := "fnExactResetFunctionSets", inPlace := ["internal/bytealg.IndexByteString", "internal/bytealg.IndexString"], unfollowed := true, recurses := true, named := ["internal/bytealg.MaxLen"], apart := false, narrowed := true }
def FnExactResetFunctionSetsUptoSaid : Prop := fnExactResetFunctionSetsUptoRow.holds Tryz.pinned (OpenSpec.upto fnExactResetFunctionSetsSpec)

/-- 'laws.FnExactNextValue', WHERE WHAT IT READS IS OF BULK AT MOST 1048576: true; the input reads as it did. -/
def fnExactNextValueUptoRow : OpenClaim := { program := "ytnmlcebejnlikaagreat", sum := "0c82135995a17ff28043bb5942b326ab52aa750f5bf396ebd3551687170a3fa4", func := "loop.example/g00862/laws.FnExactNextValue", spec := "fnExactNextValue", inPlace := ["internal/bytealg.IndexByteString", "internal/bytealg.IndexString"], unfollowed := true, recurses := true, named := ["internal/bytealg.MaxLen"], apart := false, narrowed := true }
def FnExactNextValueUptoSaid : Prop := fnExactNextValueUptoRow.holds Tryz.pinned (OpenSpec.upto fnExactNextValueSpec)

/-- 'laws.FnExactNextStateFunction', WHERE WHAT IT READS IS OF BULK AT MOST 1048576: true; the input reads as it did. -/
def fnExactNextStateFunctionUptoRow : OpenClaim := { program := "ytnmlcebejnlikaagreat", sum := "0c82135995a17ff28043bb5942b326ab52aa750f5bf396ebd3551687170a3fa4", func := "loop.example/g00862/laws.FnExactNextStateFunction", spec := "fnExactNextStateFunction", inPlace := ["internal/bytealg.IndexByteString", "internal/bytealg.IndexString"], unfollowed := true, recurses := true, named := ["internal/bytealg.MaxLen"], apart := false, narrowed := true }
def FnExactNextStateFunctionUptoSaid : Prop := fnExactNextStateFunctionUptoRow.holds Tryz.pinned (OpenSpec.upto fnExactNextStateFunctionSpec)

/-- 'laws.FnExactExcitationRegions', WHERE WHAT IT READS IS OF BULK AT MOST 1048576: true; the input reads as it did. -/
def fnExactExcitationRegionsUptoRow : OpenClaim := { program := "ytnmlcebejnlikaagreat", sum := "0c82135995a17ff28043bb5942b326ab52aa750f5bf396ebd3551687170a3fa4", func := "loop.example/g00862/laws.FnExactExcitationRegions", spec := "fnExactExcitationRegions", unfollowed := true, recurses := true, apart := false, narrowed := true }
def FnExactExcitationRegionsUptoSaid : Prop := fnExactExcitationRegionsUptoRow.holds Tryz.pinned (OpenSpec.upto fnExactExcitationRegionsSpec)

/-- 'laws.FnExactQuiescentRegion', WHERE WHAT IT READS IS OF BULK AT MOST 1048576: true; the input reads as it did. -/
def fnExactQuiescentRegionUptoRow : OpenClaim := { program := "ytnmlcebejnlikaagreat", sum := "0c82135995a17ff28043bb5942b326ab52aa750f5bf396ebd3551687170a3fa4", func := "loop.example/g00862/laws.FnExactQuiescentRegion", spec := "fnExactQuiescentRegion", unfollowed := true, recurses := true, apart := false, narrowed := true }
def FnExactQuiescentRegionUptoSaid : Prop := fnExactQuiescentRegionUptoRow.holds Tryz.pinned (OpenSpec.upto fnExactQuiescentRegionSpec)

/-- 'laws.FnExactComplexGateCircuit', WHERE WHAT IT READS IS OF BULK AT MOST 1048576: true; the input reads as it did. -/
def fnExactComplexGateCircuitUptoRow : OpenClaim := { program := "ytnmlcebejnlikaagreat", sum := "0c82135995a17ff28043bb5942b326ab52aa750f5bf396ebd3551687170a3fa4", func := "loop.example/g00862/laws.FnExactComplexGateCircuit", spec := "fnExactComplexGateCircuit", inPlace := ["internal/bytealg.IndexByteString", "internal/bytealg.IndexString"], unfollowed := true, recurses := true, named := ["internal/bytealg.MaxLen"], apart := false, narrowed := true }
def FnExactComplexGateCircuitUptoSaid : Prop := fnExactComplexGateCircuitUptoRow.holds Tryz.pinned (OpenSpec.upto fnExactComplexGateCircuitSpec)

/-- 'laws.FnExactGeneralizedCCircuit', WHERE WHAT IT READS IS OF BULK AT MOST 1048576: true; the input reads as it did. -/
def fnExactGeneralizedCCircuitUptoRow : OpenClaim := { program := "ytnmlcebejnlikaagreat", sum := "0c82135995a17ff28043bb5942b326ab52aa750f5bf396ebd3551687170a3fa4", func := "loop.example/g00862/laws.FnExactGeneralizedCCircuit", spec := "fnExactGeneralizedCCircuit", inPlace := ["internal/bytealg.IndexByteString", "internal/bytealg.IndexString"], unfollowed := true, recurses := true, named := ["internal/bytealg.MaxLen"], apart := false, narrowed := true }
def FnExactGeneralizedCCircuitUptoSaid : Prop := fnExactGeneralizedCCircuitUptoRow.holds Tryz.pinned (OpenSpec.upto fnExactGeneralizedCCircuitSpec)

/-- 'laws.FnExactFormatRegionCovers', WHERE WHAT IT READS IS OF BULK AT MOST 1048576: true; the input reads as it did. -/
def fnExactFormatRegionCoversUptoRow : OpenClaim := { program := "ytnmlcebejnlikaagreat", sum := "0c82135995a17ff28043bb5942b326ab52aa750f5bf396ebd3551687170a3fa4", func := "loop.example/g00862/laws.FnExactFormatRegionCovers", spec := "fnExactFormatRegionCovers", inPlace := ["internal/abi.NoEscape", "internal/bytealg.MakeNoZero"], unfollowed := true, recurses := true, apart := false, narrowed := true }
def FnExactFormatRegionCoversUptoSaid : Prop := fnExactFormatRegionCoversUptoRow.holds Tryz.pinned (OpenSpec.upto fnExactFormatRegionCoversSpec)

/-- 'laws.FnExactTraces', WHERE WHAT IT READS IS OF BULK AT MOST 1048576: true; the input reads as it did. -/
def fnExactTracesUptoRow : OpenClaim := { program := "ytnmlcebejnlikaagreat", sum := "0c82135995a17ff28043bb5942b326ab52aa750f5bf396ebd3551687170a3fa4", func := "loop.example/g00862/laws.FnExactTraces", spec := "fnExactTraces", unfollowed := true, recurses := true, apart := false, narrowed := true }
def FnExactTracesUptoSaid : Prop := fnExactTracesUptoRow.holds Tryz.pinned (OpenSpec.upto fnExactTracesSpec)

/-- 'laws.FnExactCheckMonotonous', WHERE WHAT IT READS IS OF BULK AT MOST 1048576: true; the input reads as it did. -/
def fnExactCheckMonotonousUptoRow : OpenClaim := { program := "ytnmlcebejnlikaagreat", sum := "0c82135995a17ff28043bb5942b326ab52aa750f5bf396ebd3551687170a3fa4", func := "loop.example/g00862/laws.FnExactCheckMonotonous", spec := "fnExactCheckMonotonous", unfollowed := true, recurses := true, apart := false, narrowed := true }
def FnExactCheckMonotonousUptoSaid : Prop := fnExactCheckMonotonousUptoRow.holds Tryz.pinned (OpenSpec.upto fnExactCheckMonotonousSpec)

/-- 'laws.FnExactFindMonotonousCube', WHERE WHAT IT READS IS OF BULK AT MOST 1048576: true; the input reads as it did. -/
def fnExactFindMonotonousCubeUptoRow : OpenClaim := { program := "ytnmlcebejnlikaagreat", sum := "0c82135995a17ff28043bb5942b326ab52aa750f5bf396ebd3551687170a3fa4", func := "loop.example/g00862/laws.FnExactFindMonotonousCube", spec := "fnExactFindMonotonousCube", unfollowed := true, recurses := true, apart := false, narrowed := true }
def FnExactFindMonotonousCubeUptoSaid : Prop := fnExactFindMonotonousCubeUptoRow.holds Tryz.pinned (OpenSpec.upto fnExactFindMonotonousCubeSpec)

/-- 'laws.FnExactAreMonotonous', WHERE WHAT IT READS IS OF BULK AT MOST 1048576: true; the input reads as it did. -/
def fnExactAreMonotonousUptoRow : OpenClaim := { program := "ytnmlcebejnlikaagreat", sum := "0c82135995a17ff28043bb5942b326ab52aa750f5bf396ebd3551687170a3fa4", func := "loop.example/g00862/laws.FnExactAreMonotonous", spec := "fnExactAreMonotonous", unfollowed := true, recurses := true, apart := false, narrowed := true }
def FnExactAreMonotonousUptoSaid : Prop := fnExactAreMonotonousUptoRow.holds Tryz.pinned (OpenSpec.upto fnExactAreMonotonousSpec)

/-- 'laws.FnExactMonotonousCovers', WHERE WHAT IT READS IS OF BULK AT MOST 1048576: true; the input reads as it did. -/
def fnExactMonotonousCoversUptoRow : OpenClaim := { program := "ytnmlcebejnlikaagreat", sum := "0c82135995a17ff28043bb5942b326ab52aa750f5bf396ebd3551687170a3fa4", func := "loop.example/g00862/laws.FnExactMonotonousCovers", spec := "fnExactMonotonousCovers", unfollowed := true, recurses := true, apart := false, narrowed := true }
def FnExactMonotonousCoversUptoSaid : Prop := fnExactMonotonousCoversUptoRow.holds Tryz.pinned (OpenSpec.upto fnExactMonotonousCoversSpec)

end Rows
end Go.Proofs.YtnmlcebejnlikaaGreat
