/-
  No cell of these rows narrows 'for every input' (looked for: loops, veiled, ifaces, maps, wideKeys, modest, calm, conditions, laid).
  DERIVED. THE GIVEN ROWS OF THIS SEAT. 14 by the template 'for every input the law returns true; each argument reads behind the call as it read before'; 0 by the template 'total and deterministic' (their statements: YtfnomecncgejbaaTotals.lean).
  GIVEN WITH THE SEED: the statements are not yours to turn. If you find one false, say at which input.
  Laid BY PROGRAM, IN A SANDBOX (cutbox-rows.mjs): the forced cells as the released guide's own fill.sh prints them over the translation 4503a3ae3ec6476f… (all of the seat's roots in one cut). By AI agents, Wed Nov 11 2026. No macro, syntax, notation, axiom, sorry.
-/
import Derived.Test.YtfnomecncgejbaaChecked
import GoSem.Claim
import GoSem.ClaimJoined
import GoSem.ClaimMapViews
import Derived.JoinedTies
import Derived.KernelRfl
namespace Go.Proofs.Ytfnomecncgejbaa
/- THE CELL 'sum', in the pinned program and in every row, IS THE sha256 OF THE DUMP (.gsa) THAT YtfnomecncgejbaaProg.lean LOADS. Nothing in Lean hashes anything: it is a label: what it is worth is what the hold of that sum in a sandbox is worth. -/
noncomputable def Try.pinned : Pinned := { name := "ytfnomecncgejbaa", sum := "4503a3ae3ec6476f399b79c53a1c5a39bc43b7067ee04bc46452bf7f6bf56b1a", checked := Try.checked }
namespace Rows
def none {H : Type} : Left H := { results := [], args := [] }

/-- 'laws.FnExactIsTautology': WHATEVER THE INPUT: true; the input reads as it did. -/
def fnExactIsTautologySpec : ChangeSpec := { name := "fnExactIsTautology", fn := fun _ => fun
  | [d1, d2] => { results := [.lit (.bool true)], args := [d1, d2] }
  | _ => none }
def fnExactIsTautologyRow : OpenClaim := { program := "ytfnomecncgejbaa", sum := "4503a3ae3ec6476f399b79c53a1c5a39bc43b7067ee04bc46452bf7f6bf56b1a", func := "loop.example/g00862/laws.FnExactIsTautology", spec := "fnExactIsTautology", unfollowed := true, recurses := true, apart := false }
def FnExactIsTautologySaid : Prop := fnExactIsTautologyRow.holds Try.pinned (OpenSpec.ofChange fnExactIsTautologySpec)

/-- ITS FALSE NEIGHBOUR: 'it returns false'. Refute it at one input. -/
def fnExactIsTautologyWrong : ChangeSpec := { name := "fnExactIsTautology", fn := fun _ => fun
  | [d1, d2] => { results := [.lit (.bool false)], args := [d1, d2] }
  | _ => none }
def FnExactIsTautologyWrongFalsely : Prop := fnExactIsTautologyRow.holds Try.pinned (OpenSpec.ofChange fnExactIsTautologyWrong)

/-- 'laws.FnExactAreEquivalent': WHATEVER THE INPUT: true; the input reads as it did. -/
def fnExactAreEquivalentSpec : ChangeSpec := { name := "fnExactAreEquivalent", fn := fun _ => fun
  | [d1, d2, d3] => { results := [.lit (.bool true)], args := [d1, d2, d3] }
  | _ => none }
def fnExactAreEquivalentRow : OpenClaim := { program := "ytfnomecncgejbaa", sum := "4503a3ae3ec6476f399b79c53a1c5a39bc43b7067ee04bc46452bf7f6bf56b1a", func := "loop.example/g00862/laws.FnExactAreEquivalent", spec := "fnExactAreEquivalent", unfollowed := true, recurses := true, apart := false }
def FnExactAreEquivalentSaid : Prop := fnExactAreEquivalentRow.holds Try.pinned (OpenSpec.ofChange fnExactAreEquivalentSpec)

/-- ITS FALSE NEIGHBOUR: 'it returns false'. Refute it at one input. -/
def fnExactAreEquivalentWrong : ChangeSpec := { name := "fnExactAreEquivalent", fn := fun _ => fun
  | [d1, d2, d3] => { results := [.lit (.bool false)], args := [d1, d2, d3] }
  | _ => none }
def FnExactAreEquivalentWrongFalsely : Prop := fnExactAreEquivalentRow.holds Try.pinned (OpenSpec.ofChange fnExactAreEquivalentWrong)

/-- 'laws.FnExactMinterms': WHATEVER THE INPUT: true; the input reads as it did. -/
def fnExactMintermsSpec : ChangeSpec := { name := "fnExactMinterms", fn := fun _ => fun
  | [d1, d2] => { results := [.lit (.bool true)], args := [d1, d2] }
  | _ => none }
def fnExactMintermsRow : OpenClaim := { program := "ytfnomecncgejbaa", sum := "4503a3ae3ec6476f399b79c53a1c5a39bc43b7067ee04bc46452bf7f6bf56b1a", func := "loop.example/g00862/laws.FnExactMinterms", spec := "fnExactMinterms", unfollowed := true, recurses := true, apart := false }
def FnExactMintermsSaid : Prop := fnExactMintermsRow.holds Try.pinned (OpenSpec.ofChange fnExactMintermsSpec)

/-- ITS FALSE NEIGHBOUR: 'it returns false'. Refute it at one input. -/
def fnExactMintermsWrong : ChangeSpec := { name := "fnExactMinterms", fn := fun _ => fun
  | [d1, d2] => { results := [.lit (.bool false)], args := [d1, d2] }
  | _ => none }
def FnExactMintermsWrongFalsely : Prop := fnExactMintermsRow.holds Try.pinned (OpenSpec.ofChange fnExactMintermsWrong)

/-- 'laws.FnExactIsCoverOf': WHATEVER THE INPUT: true; the input reads as it did. -/
def fnExactIsCoverOfSpec : ChangeSpec := { name := "fnExactIsCoverOf", fn := fun _ => fun
  | [d1, d2, d3, d4] => { results := [.lit (.bool true)], args := [d1, d2, d3, d4] }
  | _ => none }
def fnExactIsCoverOfRow : OpenClaim := { program := "ytfnomecncgejbaa", sum := "4503a3ae3ec6476f399b79c53a1c5a39bc43b7067ee04bc46452bf7f6bf56b1a", func := "loop.example/g00862/laws.FnExactIsCoverOf", spec := "fnExactIsCoverOf", inPlace := ["internal/bytealg.IndexByteString", "internal/bytealg.IndexString"], unfollowed := true, recurses := true, named := ["internal/bytealg.MaxLen"], apart := false }
def FnExactIsCoverOfSaid : Prop := fnExactIsCoverOfRow.holds Try.pinned (OpenSpec.ofChange fnExactIsCoverOfSpec)

/-- ITS FALSE NEIGHBOUR: 'it returns false'. Refute it at one input. -/
def fnExactIsCoverOfWrong : ChangeSpec := { name := "fnExactIsCoverOf", fn := fun _ => fun
  | [d1, d2, d3, d4] => { results := [.lit (.bool false)], args := [d1, d2, d3, d4] }
  | _ => none }
def FnExactIsCoverOfWrongFalsely : Prop := fnExactIsCoverOfRow.holds Try.pinned (OpenSpec.ofChange fnExactIsCoverOfWrong)

/-- 'laws.FnExactEqualNetlist': WHATEVER THE INPUT: true; the input reads as it did. -/
def fnExactEqualNetlistSpec : ChangeSpec := { name := "fnExactEqualNetlist", fn := fun _ => fun
  | [d1, d2] => { results := [.lit (.bool true)], args := [d1, d2] }
  | _ => none }
def fnExactEqualNetlistRow : OpenClaim := { program := "ytfnomecncgejbaa", sum := "4503a3ae3ec6476f399b79c53a1c5a39bc43b7067ee04bc46452bf7f6bf56b1a", func := "loop.example/g00862/laws.FnExactEqualNetlist", spec := "fnExactEqualNetlist", unfollowed := true, recurses := true, apart := false }
def FnExactEqualNetlistSaid : Prop := fnExactEqualNetlistRow.holds Try.pinned (OpenSpec.ofChange fnExactEqualNetlistSpec)

/-- ITS FALSE NEIGHBOUR: 'it returns false'. Refute it at one input. -/
def fnExactEqualNetlistWrong : ChangeSpec := { name := "fnExactEqualNetlist", fn := fun _ => fun
  | [d1, d2] => { results := [.lit (.bool false)], args := [d1, d2] }
  | _ => none }
def FnExactEqualNetlistWrongFalsely : Prop := fnExactEqualNetlistRow.holds Try.pinned (OpenSpec.ofChange fnExactEqualNetlistWrong)

/-- 'laws.FnExactFormatCover': WHATEVER THE INPUT: true; the input reads as it did. -/
def fnExactFormatCoverSpec : ChangeSpec := { name := "fnExactFormatCover", fn := fun _ => fun
  | [d1, d2] => { results := [.lit (.bool true)], args := [d1, d2] }
  | _ => none }
def fnExactFormatCoverRow : OpenClaim := { program := "ytfnomecncgejbaa", sum := "4503a3ae3ec6476f399b79c53a1c5a39bc43b7067ee04bc46452bf7f6bf56b1a", func := "loop.example/g00862/laws.FnExactFormatCover", spec := "fnExactFormatCover", inPlace := ["internal/abi.NoEscape", "internal/bytealg.MakeNoZero"], unfollowed := true, recurses := true, apart := false }
def FnExactFormatCoverSaid : Prop := fnExactFormatCoverRow.holds Try.pinned (OpenSpec.ofChange fnExactFormatCoverSpec)

/-- ITS FALSE NEIGHBOUR: 'it returns false'. Refute it at one input. -/
def fnExactFormatCoverWrong : ChangeSpec := { name := "fnExactFormatCover", fn := fun _ => fun
  | [d1, d2] => { results := [.lit (.bool false)], args := [d1, d2] }
  | _ => none }
def FnExactFormatCoverWrongFalsely : Prop := fnExactFormatCoverRow.holds Try.pinned (OpenSpec.ofChange fnExactFormatCoverWrong)

/-- 'laws.FnExactIsValidCircuit': WHATEVER THE INPUT: true; the input reads as it did. -/
def fnExactIsValidCircuitSpec : ChangeSpec := { name := "fnExactIsValidCircuit", fn := fun _ => fun
  | [d] => { results := [.lit (.bool true)], args := [d] }
  | _ => none }
def fnExactIsValidCircuitRow : OpenClaim := { program := "ytfnomecncgejbaa", sum := "4503a3ae3ec6476f399b79c53a1c5a39bc43b7067ee04bc46452bf7f6bf56b1a", func := "loop.example/g00862/laws.FnExactIsValidCircuit", spec := "fnExactIsValidCircuit", unfollowed := true, recurses := true, apart := false }
def FnExactIsValidCircuitSaid : Prop := fnExactIsValidCircuitRow.holds Try.pinned (OpenSpec.ofChange fnExactIsValidCircuitSpec)

/-- ITS FALSE NEIGHBOUR: 'it returns false'. Refute it at one input. -/
def fnExactIsValidCircuitWrong : ChangeSpec := { name := "fnExactIsValidCircuit", fn := fun _ => fun
  | [d] => { results := [.lit (.bool false)], args := [d] }
  | _ => none }
def FnExactIsValidCircuitWrongFalsely : Prop := fnExactIsValidCircuitRow.holds Try.pinned (OpenSpec.ofChange fnExactIsValidCircuitWrong)

/-- 'laws.FnExactIrredundant': WHATEVER THE INPUT: true; the input reads as it did. -/
def fnExactIrredundantSpec : ChangeSpec := { name := "fnExactIrredundant", fn := fun _ => fun
  | [d1, d2, d3] => { results := [.lit (.bool true)], args := [d1, d2, d3] }
  | _ => none }
def fnExactIrredundantRow : OpenClaim := { program := "ytfnomecncgejbaa", sum := "4503a3ae3ec6476f399b79c53a1c5a39bc43b7067ee04bc46452bf7f6bf56b1a", func := "loop.example/g00862/laws.FnExactIrredundant", spec := "fnExactIrredundant", inPlace := ["internal/bytealg.IndexByteString", "internal/bytealg.IndexString"], unfollowed := true, recurses := true, named := ["internal/bytealg.MaxLen"], apart := false }
def FnExactIrredundantSaid : Prop := fnExactIrredundantRow.holds Try.pinned (OpenSpec.ofChange fnExactIrredundantSpec)

/-- ITS FALSE NEIGHBOUR: 'it returns false'. Refute it at one input. -/
def fnExactIrredundantWrong : ChangeSpec := { name := "fnExactIrredundant", fn := fun _ => fun
  | [d1, d2, d3] => { results := [.lit (.bool false)], args := [d1, d2, d3] }
  | _ => none }
def FnExactIrredundantWrongFalsely : Prop := fnExactIrredundantRow.holds Try.pinned (OpenSpec.ofChange fnExactIrredundantWrong)

/-- 'laws.FnExactPrimes': WHATEVER THE INPUT: true; the input reads as it did. -/
def fnExactPrimesSpec : ChangeSpec := { name := "fnExactPrimes", fn := fun _ => fun
  | [d1, d2, d3] => { results := [.lit (.bool true)], args := [d1, d2, d3] }
  | _ => none }
def fnExactPrimesRow : OpenClaim := { program := "ytfnomecncgejbaa", sum := "4503a3ae3ec6476f399b79c53a1c5a39bc43b7067ee04bc46452bf7f6bf56b1a", func := "loop.example/g00862/laws.FnExactPrimes", spec := "fnExactPrimes", inPlace := ["internal/bytealg.IndexByteString", "internal/bytealg.IndexString"], unfollowed := true, recurses := true, named := ["internal/bytealg.MaxLen"], apart := false }
def FnExactPrimesSaid : Prop := fnExactPrimesRow.holds Try.pinned (OpenSpec.ofChange fnExactPrimesSpec)

/-- ITS FALSE NEIGHBOUR: 'it returns false'. Refute it at one input. -/
def fnExactPrimesWrong : ChangeSpec := { name := "fnExactPrimes", fn := fun _ => fun
  | [d1, d2, d3] => { results := [.lit (.bool false)], args := [d1, d2, d3] }
  | _ => none }
def FnExactPrimesWrongFalsely : Prop := fnExactPrimesRow.holds Try.pinned (OpenSpec.ofChange fnExactPrimesWrong)

/-- 'laws.FnExactCircuitLiterals': WHATEVER THE INPUT: true; the input reads as it did. -/
def fnExactCircuitLiteralsSpec : ChangeSpec := { name := "fnExactCircuitLiterals", fn := fun _ => fun
  | [d] => { results := [.lit (.bool true)], args := [d] }
  | _ => none }
def fnExactCircuitLiteralsRow : OpenClaim := { program := "ytfnomecncgejbaa", sum := "4503a3ae3ec6476f399b79c53a1c5a39bc43b7067ee04bc46452bf7f6bf56b1a", func := "loop.example/g00862/laws.FnExactCircuitLiterals", spec := "fnExactCircuitLiterals", unfollowed := true, recurses := true, apart := false }
def FnExactCircuitLiteralsSaid : Prop := fnExactCircuitLiteralsRow.holds Try.pinned (OpenSpec.ofChange fnExactCircuitLiteralsSpec)

/-- ITS FALSE NEIGHBOUR: 'it returns false'. Refute it at one input. -/
def fnExactCircuitLiteralsWrong : ChangeSpec := { name := "fnExactCircuitLiterals", fn := fun _ => fun
  | [d] => { results := [.lit (.bool false)], args := [d] }
  | _ => none }
def FnExactCircuitLiteralsWrongFalsely : Prop := fnExactCircuitLiteralsRow.holds Try.pinned (OpenSpec.ofChange fnExactCircuitLiteralsWrong)

/-- 'laws.FnExactIsValidNetlist': WHATEVER THE INPUT: true; the input reads as it did. -/
def fnExactIsValidNetlistSpec : ChangeSpec := { name := "fnExactIsValidNetlist", fn := fun _ => fun
  | [d] => { results := [.lit (.bool true)], args := [d] }
  | _ => none }
def fnExactIsValidNetlistRow : OpenClaim := { program := "ytfnomecncgejbaa", sum := "4503a3ae3ec6476f399b79c53a1c5a39bc43b7067ee04bc46452bf7f6bf56b1a", func := "loop.example/g00862/laws.FnExactIsValidNetlist", spec := "fnExactIsValidNetlist", unfollowed := true, recurses := true, apart := false }
def FnExactIsValidNetlistSaid : Prop := fnExactIsValidNetlistRow.holds Try.pinned (OpenSpec.ofChange fnExactIsValidNetlistSpec)

/-- ITS FALSE NEIGHBOUR: 'it returns false'. Refute it at one input. -/
def fnExactIsValidNetlistWrong : ChangeSpec := { name := "fnExactIsValidNetlist", fn := fun _ => fun
  | [d] => { results := [.lit (.bool false)], args := [d] }
  | _ => none }
def FnExactIsValidNetlistWrongFalsely : Prop := fnExactIsValidNetlistRow.holds Try.pinned (OpenSpec.ofChange fnExactIsValidNetlistWrong)

/-- 'laws.FnExactCountPins': WHATEVER THE INPUT: true; the input reads as it did. -/
def fnExactCountPinsSpec : ChangeSpec := { name := "fnExactCountPins", fn := fun _ => fun
  | [d] => { results := [.lit (.bool true)], args := [d] }
  | _ => none }
def fnExactCountPinsRow : OpenClaim := { program := "ytfnomecncgejbaa", sum := "4503a3ae3ec6476f399b79c53a1c5a39bc43b7067ee04bc46452bf7f6bf56b1a", func := "loop.example/g00862/laws.FnExactCountPins", spec := "fnExactCountPins", unfollowed := true, recurses := true, apart := false }
def FnExactCountPinsSaid : Prop := fnExactCountPinsRow.holds Try.pinned (OpenSpec.ofChange fnExactCountPinsSpec)

/-- ITS FALSE NEIGHBOUR: 'it returns false'. Refute it at one input. -/
def fnExactCountPinsWrong : ChangeSpec := { name := "fnExactCountPins", fn := fun _ => fun
  | [d] => { results := [.lit (.bool false)], args := [d] }
  | _ => none }
def FnExactCountPinsWrongFalsely : Prop := fnExactCountPinsRow.holds Try.pinned (OpenSpec.ofChange fnExactCountPinsWrong)

/-- 'laws.FnExactGreedyCover': WHATEVER THE INPUT: true; the input reads as it did. -/
def fnExactGreedyCoverSpec : ChangeSpec := { name := "fnExactGreedyCover", fn := fun _ => fun
  | [d1, d2, d3] => { results := [.lit (.bool true)], args := [d1, d2, d3] }
  | _ => none }
def fnExactGreedyCoverRow : OpenClaim := { program := "ytfnomecncgejbaa", sum := "4503a3ae3ec6476f399b79c53a1c5a39bc43b7067ee04bc46452bf7f6bf56b1a", func := "loop.example/g00862/laws.FnExactGreedyCover", spec := "fnExactGreedyCover", inPlace := ["internal/bytealg.IndexByteString", "internal/bytealg.IndexString"], unfollowed := true, recurses := true, named := ["internal/bytealg.MaxLen"], apart := false }
def FnExactGreedyCoverSaid : Prop := fnExactGreedyCoverRow.holds Try.pinned (OpenSpec.ofChange fnExactGreedyCoverSpec)

/-- ITS FALSE NEIGHBOUR: 'it returns false'. Refute it at one input. -/
def fnExactGreedyCoverWrong : ChangeSpec := { name := "fnExactGreedyCover", fn := fun _ => fun
  | [d1, d2, d3] => { results := [.lit (.bool false)], args := [d1, d2, d3] }
  | _ => none }
def FnExactGreedyCoverWrongFalsely : Prop := fnExactGreedyCoverRow.holds Try.pinned (OpenSpec.ofChange fnExactGreedyCoverWrong)

/-- 'laws.FnExactFormatCircuit': WHATEVER THE INPUT: true; the input reads as it did. -/
def fnExactFormatCircuitSpec : ChangeSpec := { name := "fnExactFormatCircuit", fn := fun _ => fun
  | [d] => { results := [.lit (.bool true)], args := [d] }
  | _ => none }
def fnExactFormatCircuitRow : OpenClaim := { program := "ytfnomecncgejbaa", sum := "4503a3ae3ec6476f399b79c53a1c5a39bc43b7067ee04bc46452bf7f6bf56b1a", func := "loop.example/g00862/laws.FnExactFormatCircuit", spec := "fnExactFormatCircuit", inPlace := ["internal/abi.NoEscape", "internal/bytealg.MakeNoZero"], unfollowed := true, recurses := true, apart := false }
def FnExactFormatCircuitSaid : Prop := fnExactFormatCircuitRow.holds Try.pinned (OpenSpec.ofChange fnExactFormatCircuitSpec)

/-- ITS FALSE NEIGHBOUR: 'it returns false'. Refute it at one input. -/
def fnExactFormatCircuitWrong : ChangeSpec := { name := "fnExactFormatCircuit", fn := fun _ => fun
  | [d] => { results := [.lit (.bool false)], args := [d] }
  | _ => none }
def FnExactFormatCircuitWrongFalsely : Prop := fnExactFormatCircuitRow.holds Try.pinned (OpenSpec.ofChange fnExactFormatCircuitWrong)

/- THE SECOND FORM. 'bulk': how many values and letters a reading holds, each counted each time it is reached (what is shared counts as often as it is met; a slice's spare places count too). A statement '..UptoSaid' is the law's where the arguments, and the package variables that the reading takes, are together of bulk at most 1048576: NARROWER than '..Said'. Prove '..Said' where nothing that the law and all that it calls make is longer than what came in: it says more and counts as full. Else prove '..UptoSaid'. A law counts once. -/
mutual
def uptoBulk {H : Type} : DataW H → Nat
  | .lit (.string bytes) => bytes.length + 1
  | .lit _ => 1
  | .nil => 1
  | .ptr d => uptoBulk d + 1
  | .slice elems spare => uptoBulkAll elems + uptoBulkAll spare + 1
  | .agg parts => uptoBulkAll parts + 1
  | .iface _ d => uptoBulk d + 1
  | .map entries => uptoBulkEntries entries + 1
  | .held _ => 1
def uptoBulkAll {H : Type} : List (DataW H) → Nat
  | [] => 0
  | d :: r => uptoBulk d + uptoBulkAll r
def uptoBulkEntries {H : Type} : List (Lit × DataW H) → Nat
  | [] => 0
  | x :: r => uptoBulkEntry x + uptoBulkEntries r
def uptoBulkEntry {H : Type} : Lit × DataW H → Nat
  | (.string bytes, d) => bytes.length + uptoBulk d + 1
  | (_, d) => uptoBulk d + 1
 end
def uptoSmall : (H : Type) → List (DataW H) → Bool := fun _ ds => decide (uptoBulkAll ds ≤ 1048576)
def OpenSpec.upto (s : _root_.Go.ChangeSpec) : _root_.Go.OpenSpec := { _root_.Go.OpenSpec.ofChange s with cond := some uptoSmall }

/-- 'laws.FnExactIsTautology', WHERE WHAT IT READS IS OF BULK AT MOST 1048576: true; the input reads as it did. -/
def fnExactIsTautologyUptoRow : OpenClaim := { program := "ytfnomecncgejbaa", sum := "4503a3ae3ec6476f399b79c53a1c5a39bc43b7067ee04bc46452bf7f6bf56b1a", func := "loop.example/g00862/laws.FnExactIsTautology", spec := "fnExactIsTautology", unfollowed := true, recurses := true, apart := false, narrowed := true }
def FnExactIsTautologyUptoSaid : Prop := fnExactIsTautologyUptoRow.holds Try.pinned (OpenSpec.upto fnExactIsTautologySpec)

/-- 'laws.FnExactAreEquivalent', WHERE WHAT IT READS IS OF BULK AT MOST 1048576: true; the input reads as it did. -/
def fnExactAreEquivalentUptoRow : OpenClaim := { program := "ytfnomecncgejbaa", sum := "4503a3ae3ec6476f399b79c53a1c5a39bc43b7067ee04bc46452bf7f6bf56b1a", func := "loop.example/g00862/laws.FnExactAreEquivalent", spec := "fnExactAreEquivalent", unfollowed := true, recurses := true, apart := false, narrowed := true }
def FnExactAreEquivalentUptoSaid : Prop := fnExactAreEquivalentUptoRow.holds Try.pinned (OpenSpec.upto fnExactAreEquivalentSpec)

/-- 'laws.FnExactMinterms', WHERE WHAT IT READS IS OF BULK AT MOST 1048576: true; the input reads as it did. -/
def fnExactMintermsUptoRow : OpenClaim := { program := "ytfnomecncgejbaa", sum := "4503a3ae3ec6476f399b79c53a1c5a39bc43b7067ee04bc46452bf7f6bf56b1a", func := "loop.example/g00862/laws.FnExactMinterms", spec := "fnExactMinterms", unfollowed := true, recurses := true, apart := false, narrowed := true }
def FnExactMintermsUptoSaid : Prop := fnExactMintermsUptoRow.holds Try.pinned (OpenSpec.upto fnExactMintermsSpec)

/-- 'laws.FnExactIsCoverOf', WHERE WHAT IT READS IS OF BULK AT MOST 1048576: true; the input reads as it did. -/
def fnExactIsCoverOfUptoRow : OpenClaim := { program := "ytfnomecncgejbaa", sum := "4503a3ae3ec6476f399b79c53a1c5a39bc43b7067ee04bc46452bf7f6bf56b1a", func := "loop.example/g00862/laws.FnExactIsCoverOf", spec := "fnExactIsCoverOf", inPlace := ["internal/bytealg.IndexByteString", "internal/bytealg.IndexString"], unfollowed := true, recurses := true, named := ["internal/bytealg.MaxLen"], apart := false, narrowed := true }
def FnExactIsCoverOfUptoSaid : Prop := fnExactIsCoverOfUptoRow.holds Try.pinned (OpenSpec.upto fnExactIsCoverOfSpec)

/-- 'laws.FnExactEqualNetlist', WHERE WHAT IT READS IS OF BULK AT MOST 1048576: true; the input reads as it did. -/
def fnExactEqualNetlistUptoRow : OpenClaim := { program := "ytfnomecncgejbaa", sum := "4503a3ae3ec6476f399b79c53a1c5a39bc43b7067ee04bc46452bf7f6bf56b1a", func := "loop.example/g00862/laws.FnExactEqualNetlist", spec := "fnExactEqualNetlist", unfollowed := true, recurses := true, apart := false, narrowed := true }
def FnExactEqualNetlistUptoSaid : Prop := fnExactEqualNetlistUptoRow.holds Try.pinned (OpenSpec.upto fnExactEqualNetlistSpec)

/-- 'laws.FnExactFormatCover', WHERE WHAT IT READS IS OF BULK AT MOST 1048576: true; the input reads as it did. -/
def fnExactFormatCoverUptoRow : OpenClaim := { program := "ytfnomecncgejbaa", sum := "4503a3ae3ec6476f399b79c53a1c5a39bc43b7067ee04bc46452bf7f6bf56b1a", func := "loop.example/g00862/laws.FnExactFormatCover", spec := "fnExactFormatCover", inPlace := ["internal/abi.NoEscape", "internal/bytealg.MakeNoZero"], unfollowed := true, recurses := true, apart := false, narrowed := true }
def FnExactFormatCoverUptoSaid : Prop := fnExactFormatCoverUptoRow.holds Try.pinned (OpenSpec.upto fnExactFormatCoverSpec)

/-- 'laws.FnExactIsValidCircuit', WHERE WHAT IT READS IS OF BULK AT MOST 1048576: true; the input reads as it did. -/
def fnExactIsValidCircuitUptoRow : OpenClaim := { program := "ytfnomecncgejbaa", sum := "4503a3ae3ec6476f399b79c53a1c5a39bc43b7067ee04bc46452bf7f6bf56b1a", func := "loop.example/g00862/laws.FnExactIsValidCircuit", spec := "fnExactIsValidCircuit", unfollowed := true, recurses := true, apart := false, narrowed := true }
def FnExactIsValidCircuitUptoSaid : Prop := fnExactIsValidCircuitUptoRow.holds Try.pinned (OpenSpec.upto fnExactIsValidCircuitSpec)

/-- 'laws.FnExactIrredundant', WHERE WHAT IT READS IS OF BULK AT MOST 1048576: true; the input reads as it did. -/
def fnExactIrredundantUptoRow : OpenClaim := { program := "ytfnomecncgejbaa", sum := "4503a3ae3ec6476f399b79c53a1c5a39bc43b7067ee04bc46452bf7f6bf56b1a", func := "loop.example/g00862/laws.FnExactIrredundant", spec := "fnExactIrredundant", inPlace := ["internal/bytealg.IndexByteString", "internal/bytealg.IndexString"], unfollowed := true, recurses := true, named := ["internal/bytealg.MaxLen"], apart := false, narrowed := true }
def FnExactIrredundantUptoSaid : Prop := fnExactIrredundantUptoRow.holds Try.pinned (OpenSpec.upto fnExactIrredundantSpec)

/-- 'laws.FnExactPrimes', WHERE WHAT IT READS IS OF BULK AT MOST 1048576: true; the input reads as it did. -/
def fnExactPrimesUptoRow : OpenClaim := { program := "ytfnomecncgejbaa", sum := "4503a3ae3ec6476f399b79c53a1c5a39bc43b7067ee04bc46452bf7f6bf56b1a", func := "loop.example/g00862/laws.FnExactPrimes", spec := "fnExactPrimes", inPlace := ["internal/bytealg.IndexByteString", "internal/bytealg.IndexString"], unfollowed := true, recurses := true, named := ["internal/bytealg.MaxLen"], apart := false, narrowed := true }
def FnExactPrimesUptoSaid : Prop := fnExactPrimesUptoRow.holds Try.pinned (OpenSpec.upto fnExactPrimesSpec)

/-- 'laws.FnExactCircuitLiterals', WHERE WHAT IT READS IS OF BULK AT MOST 1048576: true; the input reads as it did. -/
def fnExactCircuitLiteralsUptoRow : OpenClaim := { program := "ytfnomecncgejbaa", sum := "4503a3ae3ec6476f399b79c53a1c5a39bc43b7067ee04bc46452bf7f6bf56b1a", func := "loop.example/g00862/laws.FnExactCircuitLiterals", spec := "fnExactCircuitLiterals", unfollowed := true, recurses := true, apart := false, narrowed := true }
def FnExactCircuitLiteralsUptoSaid : Prop := fnExactCircuitLiteralsUptoRow.holds Try.pinned (OpenSpec.upto fnExactCircuitLiteralsSpec)

/-- 'laws.FnExactIsValidNetlist', WHERE WHAT IT READS IS OF BULK AT MOST 1048576: true; the input reads as it did. -/
def fnExactIsValidNetlistUptoRow : OpenClaim := { program := "ytfnomecncgejbaa", sum := "4503a3ae3ec6476f399b79c53a1c5a39bc43b7067ee04bc46452bf7f6bf56b1a", func := "loop.example/g00862/laws.FnExactIsValidNetlist", spec := "fnExactIsValidNetlist", unfollowed := true, recurses := true, apart := false, narrowed := true }
def FnExactIsValidNetlistUptoSaid : Prop := fnExactIsValidNetlistUptoRow.holds Try.pinned (OpenSpec.upto fnExactIsValidNetlistSpec)

/-- 'laws.FnExactCountPins', WHERE WHAT IT READS IS OF BULK AT MOST 1048576: true; the input reads as it did. -/
def fnExactCountPinsUptoRow : OpenClaim := { program := "ytfnomecncgejbaa", sum := "4503a3ae3ec6476f399b79c53a1c5a39bc43b7067ee04bc46452bf7f6bf56b1a", func := "loop.example/g00862/laws.FnExactCountPins", spec := "fnExactCountPins", unfollowed := true, recurses := true, apart := false, narrowed := true }
def FnExactCountPinsUptoSaid : Prop := fnExactCountPinsUptoRow.holds Try.pinned (OpenSpec.upto fnExactCountPinsSpec)

/-- 'laws.FnExactGreedyCover', WHERE WHAT IT READS IS OF BULK AT MOST 1048576: true; the input reads as it did. -/
def fnExactGreedyCoverUptoRow : OpenClaim := { program := "ytfnomecncgejbaa", sum := "4503a3ae3ec6476f399b79c53a1c5a39bc43b7067ee04bc46452bf7f6bf56b1a", func := "loop.example/g00862/laws.FnExactGreedyCover", spec := "fnExactGreedyCover", inPlace := ["internal/bytealg.IndexByteString", "internal/bytealg.IndexString"], unfollowed := true, recurses := true, named := ["internal/bytealg.MaxLen"], apart := false, narrowed := true }
def FnExactGreedyCoverUptoSaid : Prop := fnExactGreedyCoverUptoRow.holds Try.pinned (OpenSpec.upto fnExactGreedyCoverSpec)

/-- 'laws.FnExactFormatCircuit', WHERE WHAT IT READS IS OF BULK AT MOST 1048576: true; the input reads as it did. -/
def fnExactFormatCircuitUptoRow : OpenClaim := { program := "ytfnomecncgejbaa", sum := "4503a3ae3ec6476f399b79c53a1c5a39bc43b7067ee04bc46452bf7f6bf56b1a", func := "loop.example/g00862/laws.FnExactFormatCircuit", spec := "fnExactFormatCircuit", inPlace := ["internal/abi.NoEscape", "internal/bytealg.MakeNoZero"], unfollowed := true, recurses := true, apart := false, narrowed := true }
def FnExactFormatCircuitUptoSaid : Prop := fnExactFormatCircuitUptoRow.holds Try.pinned (OpenSpec.upto fnExactFormatCircuitSpec)

end Rows
end Go.Proofs.Ytfnomecncgejbaa
