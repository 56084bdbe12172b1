/-
  No cell of these rows narrows 'for every input' (looked for: loops, veiled, ifaces, maps, wideKeys, modest, calm, conditions, laid).
  DERIVED. THE GIVEN ROWS OF THIS SEAT. 14 by the template 'for every input the law returns true; each argument reads behind the call as it read before'; 0 by the template 'total and deterministic' (their statements: YtejplmkhicdfcaaTotals.lean).
  GIVEN WITH THE SEED: the statements are not yours to turn. If you find one false, say at which input.
  Laid BY PROGRAM, IN A SANDBOX (cutbox-rows.mjs): the forced cells as the released guide's own fill.sh prints them over the translation c31c6dcd3bb3c387… (all of the seat's roots in one cut). By AI agents, Wed Nov 11 2026. No macro, syntax, notation, axiom, sorry.
-/
import Derived.Test.YtejplmkhicdfcaaChecked
import GoSem.Claim
import GoSem.ClaimJoined
import GoSem.ClaimMapViews
import Derived.JoinedTies
import Derived.KernelRfl
namespace Go.Proofs.Ytejplmkhicdfcaa
/- THE CELL 'sum', in the pinned program and in every row, IS THE sha256 OF THE DUMP (.gsa) THAT YtejplmkhicdfcaaProg.lean LOADS. Nothing in Lean hashes anything: it is a label: what it is worth is what the hold of that sum in a sandbox is worth. -/
noncomputable def Try.pinned : Pinned := { name := "ytejplmkhicdfcaa", sum := "c31c6dcd3bb3c3878525040258c17a58cf5bfe462aaa61033f1151c78a31a7a2", checked := Try.checked }
namespace Rows
def none {H : Type} : Left H := { results := [], args := [] }

/-- 'laws.FnExactIsSubcube': WHATEVER THE INPUT: true; the input reads as it did. -/
def fnExactIsSubcubeSpec : ChangeSpec := { name := "fnExactIsSubcube", fn := fun _ => fun
  | [d1, d2] => { results := [.lit (.bool true)], args := [d1, d2] }
  | _ => none }
def fnExactIsSubcubeRow : OpenClaim := { program := "ytejplmkhicdfcaa", sum := "c31c6dcd3bb3c3878525040258c17a58cf5bfe462aaa61033f1151c78a31a7a2", func := "loop.example/g00862/laws.FnExactIsSubcube", spec := "fnExactIsSubcube", apart := false }
def FnExactIsSubcubeSaid : Prop := fnExactIsSubcubeRow.holds Try.pinned (OpenSpec.ofChange fnExactIsSubcubeSpec)

/-- ITS FALSE NEIGHBOUR: 'it returns false'. Refute it at one input. -/
def fnExactIsSubcubeWrong : ChangeSpec := { name := "fnExactIsSubcube", fn := fun _ => fun
  | [d1, d2] => { results := [.lit (.bool false)], args := [d1, d2] }
  | _ => none }
def FnExactIsSubcubeWrongFalsely : Prop := fnExactIsSubcubeRow.holds Try.pinned (OpenSpec.ofChange fnExactIsSubcubeWrong)

/-- 'laws.FnExactIntersectCubes': WHATEVER THE INPUT: true; the input reads as it did. -/
def fnExactIntersectCubesSpec : ChangeSpec := { name := "fnExactIntersectCubes", fn := fun _ => fun
  | [d1, d2] => { results := [.lit (.bool true)], args := [d1, d2] }
  | _ => none }
def fnExactIntersectCubesRow : OpenClaim := { program := "ytejplmkhicdfcaa", sum := "c31c6dcd3bb3c3878525040258c17a58cf5bfe462aaa61033f1151c78a31a7a2", func := "loop.example/g00862/laws.FnExactIntersectCubes", spec := "fnExactIntersectCubes", apart := false }
def FnExactIntersectCubesSaid : Prop := fnExactIntersectCubesRow.holds Try.pinned (OpenSpec.ofChange fnExactIntersectCubesSpec)

/-- ITS FALSE NEIGHBOUR: 'it returns false'. Refute it at one input. -/
def fnExactIntersectCubesWrong : ChangeSpec := { name := "fnExactIntersectCubes", fn := fun _ => fun
  | [d1, d2] => { results := [.lit (.bool false)], args := [d1, d2] }
  | _ => none }
def FnExactIntersectCubesWrongFalsely : Prop := fnExactIntersectCubesRow.holds Try.pinned (OpenSpec.ofChange fnExactIntersectCubesWrong)

/-- 'laws.FnExactIsValidCover': WHATEVER THE INPUT: true; the input reads as it did. -/
def fnExactIsValidCoverSpec : ChangeSpec := { name := "fnExactIsValidCover", fn := fun _ => fun
  | [d1, d2] => { results := [.lit (.bool true)], args := [d1, d2] }
  | _ => none }
def fnExactIsValidCoverRow : OpenClaim := { program := "ytejplmkhicdfcaa", sum := "c31c6dcd3bb3c3878525040258c17a58cf5bfe462aaa61033f1151c78a31a7a2", func := "loop.example/g00862/laws.FnExactIsValidCover", spec := "fnExactIsValidCover", unfollowed := true, recurses := true, apart := false }
def FnExactIsValidCoverSaid : Prop := fnExactIsValidCoverRow.holds Try.pinned (OpenSpec.ofChange fnExactIsValidCoverSpec)

/-- ITS FALSE NEIGHBOUR: 'it returns false'. Refute it at one input. -/
def fnExactIsValidCoverWrong : ChangeSpec := { name := "fnExactIsValidCover", fn := fun _ => fun
  | [d1, d2] => { results := [.lit (.bool false)], args := [d1, d2] }
  | _ => none }
def FnExactIsValidCoverWrongFalsely : Prop := fnExactIsValidCoverRow.holds Try.pinned (OpenSpec.ofChange fnExactIsValidCoverWrong)

/-- 'laws.FnExactEqualOnOffSets': WHATEVER THE INPUT: true; the input reads as it did. -/
def fnExactEqualOnOffSetsSpec : ChangeSpec := { name := "fnExactEqualOnOffSets", fn := fun _ => fun
  | [d1, d2] => { results := [.lit (.bool true)], args := [d1, d2] }
  | _ => none }
def fnExactEqualOnOffSetsRow : OpenClaim := { program := "ytejplmkhicdfcaa", sum := "c31c6dcd3bb3c3878525040258c17a58cf5bfe462aaa61033f1151c78a31a7a2", func := "loop.example/g00862/laws.FnExactEqualOnOffSets", spec := "fnExactEqualOnOffSets", apart := false }
def FnExactEqualOnOffSetsSaid : Prop := fnExactEqualOnOffSetsRow.holds Try.pinned (OpenSpec.ofChange fnExactEqualOnOffSetsSpec)

/-- ITS FALSE NEIGHBOUR: 'it returns false'. Refute it at one input. -/
def fnExactEqualOnOffSetsWrong : ChangeSpec := { name := "fnExactEqualOnOffSets", fn := fun _ => fun
  | [d1, d2] => { results := [.lit (.bool false)], args := [d1, d2] }
  | _ => none }
def FnExactEqualOnOffSetsWrongFalsely : Prop := fnExactEqualOnOffSetsRow.holds Try.pinned (OpenSpec.ofChange fnExactEqualOnOffSetsWrong)

/-- 'laws.FnExactLiteralCount': WHATEVER THE INPUT: true; the input reads as it did. -/
def fnExactLiteralCountSpec : ChangeSpec := { name := "fnExactLiteralCount", fn := fun _ => fun
  | [d] => { results := [.lit (.bool true)], args := [d] }
  | _ => none }
def fnExactLiteralCountRow : OpenClaim := { program := "ytejplmkhicdfcaa", sum := "c31c6dcd3bb3c3878525040258c17a58cf5bfe462aaa61033f1151c78a31a7a2", func := "loop.example/g00862/laws.FnExactLiteralCount", spec := "fnExactLiteralCount", unfollowed := true, recurses := true, apart := false }
def FnExactLiteralCountSaid : Prop := fnExactLiteralCountRow.holds Try.pinned (OpenSpec.ofChange fnExactLiteralCountSpec)

/-- ITS FALSE NEIGHBOUR: 'it returns false'. Refute it at one input. -/
def fnExactLiteralCountWrong : ChangeSpec := { name := "fnExactLiteralCount", fn := fun _ => fun
  | [d] => { results := [.lit (.bool false)], args := [d] }
  | _ => none }
def FnExactLiteralCountWrongFalsely : Prop := fnExactLiteralCountRow.holds Try.pinned (OpenSpec.ofChange fnExactLiteralCountWrong)

/-- 'laws.FnExactCofactor': WHATEVER THE INPUT: true; the input reads as it did. -/
def fnExactCofactorSpec : ChangeSpec := { name := "fnExactCofactor", fn := fun _ => fun
  | [d1, d2, d3] => { results := [.lit (.bool true)], args := [d1, d2, d3] }
  | _ => none }
def fnExactCofactorRow : OpenClaim := { program := "ytejplmkhicdfcaa", sum := "c31c6dcd3bb3c3878525040258c17a58cf5bfe462aaa61033f1151c78a31a7a2", func := "loop.example/g00862/laws.FnExactCofactor", spec := "fnExactCofactor", unfollowed := true, recurses := true, apart := false }
def FnExactCofactorSaid : Prop := fnExactCofactorRow.holds Try.pinned (OpenSpec.ofChange fnExactCofactorSpec)

/-- ITS FALSE NEIGHBOUR: 'it returns false'. Refute it at one input. -/
def fnExactCofactorWrong : ChangeSpec := { name := "fnExactCofactor", fn := fun _ => fun
  | [d1, d2, d3] => { results := [.lit (.bool false)], args := [d1, d2, d3] }
  | _ => none }
def FnExactCofactorWrongFalsely : Prop := fnExactCofactorRow.holds Try.pinned (OpenSpec.ofChange fnExactCofactorWrong)

/-- 'laws.FnExactSupport': WHATEVER THE INPUT: true; the input reads as it did. -/
def fnExactSupportSpec : ChangeSpec := { name := "fnExactSupport", fn := fun _ => fun
  | [d] => { results := [.lit (.bool true)], args := [d] }
  | _ => none }
def fnExactSupportRow : OpenClaim := { program := "ytejplmkhicdfcaa", sum := "c31c6dcd3bb3c3878525040258c17a58cf5bfe462aaa61033f1151c78a31a7a2", func := "loop.example/g00862/laws.FnExactSupport", spec := "fnExactSupport", unfollowed := true, recurses := true, apart := false }
def FnExactSupportSaid : Prop := fnExactSupportRow.holds Try.pinned (OpenSpec.ofChange fnExactSupportSpec)

/-- ITS FALSE NEIGHBOUR: 'it returns false'. Refute it at one input. -/
def fnExactSupportWrong : ChangeSpec := { name := "fnExactSupport", fn := fun _ => fun
  | [d] => { results := [.lit (.bool false)], args := [d] }
  | _ => none }
def FnExactSupportWrongFalsely : Prop := fnExactSupportRow.holds Try.pinned (OpenSpec.ofChange fnExactSupportWrong)

/-- 'laws.FnExactCubeContains': WHATEVER THE INPUT: true; the input reads as it did. -/
def fnExactCubeContainsSpec : ChangeSpec := { name := "fnExactCubeContains", fn := fun _ => fun
  | [d1, d2] => { results := [.lit (.bool true)], args := [d1, d2] }
  | _ => none }
def fnExactCubeContainsRow : OpenClaim := { program := "ytejplmkhicdfcaa", sum := "c31c6dcd3bb3c3878525040258c17a58cf5bfe462aaa61033f1151c78a31a7a2", func := "loop.example/g00862/laws.FnExactCubeContains", spec := "fnExactCubeContains", inPlace := ["internal/bytealg.IndexByteString", "internal/bytealg.IndexString"], named := ["internal/bytealg.MaxLen"], apart := false }
def FnExactCubeContainsSaid : Prop := fnExactCubeContainsRow.holds Try.pinned (OpenSpec.ofChange fnExactCubeContainsSpec)

/-- ITS FALSE NEIGHBOUR: 'it returns false'. Refute it at one input. -/
def fnExactCubeContainsWrong : ChangeSpec := { name := "fnExactCubeContains", fn := fun _ => fun
  | [d1, d2] => { results := [.lit (.bool false)], args := [d1, d2] }
  | _ => none }
def FnExactCubeContainsWrongFalsely : Prop := fnExactCubeContainsRow.holds Try.pinned (OpenSpec.ofChange fnExactCubeContainsWrong)

/-- 'laws.FnExactIsTautology': WHATEVER THE INPUT: true; the input reads as it did. -/
def fnExactIsTautologySpec : ChangeSpec := { name := "fnExactIsTautology", fn := fun _ => fun
  | [d1, d2] => { results := [.lit (.bool true)], args := [d1, d2] }
  | _ => none }
def fnExactIsTautologyRow : OpenClaim := { program := "ytejplmkhicdfcaa", sum := "c31c6dcd3bb3c3878525040258c17a58cf5bfe462aaa61033f1151c78a31a7a2", func := "loop.example/g00862/laws.FnExactIsTautology", spec := "fnExactIsTautology", unfollowed := true, recurses := true, apart := false }
def FnExactIsTautologySaid : Prop := fnExactIsTautologyRow.holds Try.pinned (OpenSpec.ofChange fnExactIsTautologySpec)

/-- ITS FALSE NEIGHBOUR: 'it returns false'. Refute it at one input. -/
def fnExactIsTautologyWrong : ChangeSpec := { name := "fnExactIsTautology", fn := fun _ => fun
  | [d1, d2] => { results := [.lit (.bool false)], args := [d1, d2] }
  | _ => none }
def FnExactIsTautologyWrongFalsely : Prop := fnExactIsTautologyRow.holds Try.pinned (OpenSpec.ofChange fnExactIsTautologyWrong)

/-- 'laws.FnExactAreEquivalent': WHATEVER THE INPUT: true; the input reads as it did. -/
def fnExactAreEquivalentSpec : ChangeSpec := { name := "fnExactAreEquivalent", fn := fun _ => fun
  | [d1, d2, d3] => { results := [.lit (.bool true)], args := [d1, d2, d3] }
  | _ => none }
def fnExactAreEquivalentRow : OpenClaim := { program := "ytejplmkhicdfcaa", sum := "c31c6dcd3bb3c3878525040258c17a58cf5bfe462aaa61033f1151c78a31a7a2", func := "loop.example/g00862/laws.FnExactAreEquivalent", spec := "fnExactAreEquivalent", unfollowed := true, recurses := true, apart := false }
def FnExactAreEquivalentSaid : Prop := fnExactAreEquivalentRow.holds Try.pinned (OpenSpec.ofChange fnExactAreEquivalentSpec)

/-- ITS FALSE NEIGHBOUR: 'it returns false'. Refute it at one input. -/
def fnExactAreEquivalentWrong : ChangeSpec := { name := "fnExactAreEquivalent", fn := fun _ => fun
  | [d1, d2, d3] => { results := [.lit (.bool false)], args := [d1, d2, d3] }
  | _ => none }
def FnExactAreEquivalentWrongFalsely : Prop := fnExactAreEquivalentRow.holds Try.pinned (OpenSpec.ofChange fnExactAreEquivalentWrong)

/-- 'laws.FnExactMinterms': WHATEVER THE INPUT: true; the input reads as it did. -/
def fnExactMintermsSpec : ChangeSpec := { name := "fnExactMinterms", fn := fun _ => fun
  | [d1, d2] => { results := [.lit (.bool true)], args := [d1, d2] }
  | _ => none }
def fnExactMintermsRow : OpenClaim := { program := "ytejplmkhicdfcaa", sum := "c31c6dcd3bb3c3878525040258c17a58cf5bfe462aaa61033f1151c78a31a7a2", func := "loop.example/g00862/laws.FnExactMinterms", spec := "fnExactMinterms", unfollowed := true, recurses := true, apart := false }
def FnExactMintermsSaid : Prop := fnExactMintermsRow.holds Try.pinned (OpenSpec.ofChange fnExactMintermsSpec)

/-- ITS FALSE NEIGHBOUR: 'it returns false'. Refute it at one input. -/
def fnExactMintermsWrong : ChangeSpec := { name := "fnExactMinterms", fn := fun _ => fun
  | [d1, d2] => { results := [.lit (.bool false)], args := [d1, d2] }
  | _ => none }
def FnExactMintermsWrongFalsely : Prop := fnExactMintermsRow.holds Try.pinned (OpenSpec.ofChange fnExactMintermsWrong)

/-- 'laws.FnExactSupercube': WHATEVER THE INPUT: true; the input reads as it did. -/
def fnExactSupercubeSpec : ChangeSpec := { name := "fnExactSupercube", fn := fun _ => fun
  | [d] => { results := [.lit (.bool true)], args := [d] }
  | _ => none }
def fnExactSupercubeRow : OpenClaim := { program := "ytejplmkhicdfcaa", sum := "c31c6dcd3bb3c3878525040258c17a58cf5bfe462aaa61033f1151c78a31a7a2", func := "loop.example/g00862/laws.FnExactSupercube", spec := "fnExactSupercube", inPlace := ["internal/bytealg.IndexByteString", "internal/bytealg.IndexString"], unfollowed := true, recurses := true, named := ["internal/bytealg.MaxLen"], apart := false }
def FnExactSupercubeSaid : Prop := fnExactSupercubeRow.holds Try.pinned (OpenSpec.ofChange fnExactSupercubeSpec)

/-- ITS FALSE NEIGHBOUR: 'it returns false'. Refute it at one input. -/
def fnExactSupercubeWrong : ChangeSpec := { name := "fnExactSupercube", fn := fun _ => fun
  | [d] => { results := [.lit (.bool false)], args := [d] }
  | _ => none }
def FnExactSupercubeWrongFalsely : Prop := fnExactSupercubeRow.holds Try.pinned (OpenSpec.ofChange fnExactSupercubeWrong)

/-- 'laws.FnExactIsValidOnOff': WHATEVER THE INPUT: true; the input reads as it did. -/
def fnExactIsValidOnOffSpec : ChangeSpec := { name := "fnExactIsValidOnOff", fn := fun _ => fun
  | [d1, d2, d3] => { results := [.lit (.bool true)], args := [d1, d2, d3] }
  | _ => none }
def fnExactIsValidOnOffRow : OpenClaim := { program := "ytejplmkhicdfcaa", sum := "c31c6dcd3bb3c3878525040258c17a58cf5bfe462aaa61033f1151c78a31a7a2", func := "loop.example/g00862/laws.FnExactIsValidOnOff", spec := "fnExactIsValidOnOff", inPlace := ["internal/bytealg.IndexByteString", "internal/bytealg.IndexString"], unfollowed := true, recurses := true, named := ["internal/bytealg.MaxLen"], apart := false }
def FnExactIsValidOnOffSaid : Prop := fnExactIsValidOnOffRow.holds Try.pinned (OpenSpec.ofChange fnExactIsValidOnOffSpec)

/-- ITS FALSE NEIGHBOUR: 'it returns false'. Refute it at one input. -/
def fnExactIsValidOnOffWrong : ChangeSpec := { name := "fnExactIsValidOnOff", fn := fun _ => fun
  | [d1, d2, d3] => { results := [.lit (.bool false)], args := [d1, d2, d3] }
  | _ => none }
def FnExactIsValidOnOffWrongFalsely : Prop := fnExactIsValidOnOffRow.holds Try.pinned (OpenSpec.ofChange fnExactIsValidOnOffWrong)

/-- 'laws.FnExactCoverContains': WHATEVER THE INPUT: true; the input reads as it did. -/
def fnExactCoverContainsSpec : ChangeSpec := { name := "fnExactCoverContains", fn := fun _ => fun
  | [d1, d2] => { results := [.lit (.bool true)], args := [d1, d2] }
  | _ => none }
def fnExactCoverContainsRow : OpenClaim := { program := "ytejplmkhicdfcaa", sum := "c31c6dcd3bb3c3878525040258c17a58cf5bfe462aaa61033f1151c78a31a7a2", func := "loop.example/g00862/laws.FnExactCoverContains", spec := "fnExactCoverContains", inPlace := ["internal/bytealg.IndexByteString", "internal/bytealg.IndexString"], unfollowed := true, recurses := true, named := ["internal/bytealg.MaxLen"], apart := false }
def FnExactCoverContainsSaid : Prop := fnExactCoverContainsRow.holds Try.pinned (OpenSpec.ofChange fnExactCoverContainsSpec)

/-- ITS FALSE NEIGHBOUR: 'it returns false'. Refute it at one input. -/
def fnExactCoverContainsWrong : ChangeSpec := { name := "fnExactCoverContains", fn := fun _ => fun
  | [d1, d2] => { results := [.lit (.bool false)], args := [d1, d2] }
  | _ => none }
def FnExactCoverContainsWrongFalsely : Prop := fnExactCoverContainsRow.holds Try.pinned (OpenSpec.ofChange fnExactCoverContainsWrong)

/- THE SECOND FORM. 'bulk': how many values and letters a reading holds, each counted each time it is reached (what is shared counts as often as it is met; a slice's spare places count too). A statement '..UptoSaid' is the law's where the arguments, and the package variables that the reading takes, are together of bulk at most 1048576: NARROWER than '..Said'. Prove '..Said' where nothing that the law and all that it calls make is longer than what came in: it says more and counts as full. Else prove '..UptoSaid'. A law counts once. -/
mutual
def uptoBulk {H : Type} : DataW H → Nat
  | .lit (.string bytes) => bytes.length + 1
  | .lit _ => 1
  | .nil => 1
  | .ptr d => uptoBulk d + 1
  | .slice elems spare => uptoBulkAll elems + uptoBulkAll spare + 1
  | .agg parts => uptoBulkAll parts + 1
  | .iface _ d => uptoBulk d + 1
  | .map entries => uptoBulkEntries entries + 1
  | .held _ => 1
def uptoBulkAll {H : Type} : List (DataW H) → Nat
  | [] => 0
  | d :: r => uptoBulk d + uptoBulkAll r
def uptoBulkEntries {H : Type} : List (Lit × DataW H) → Nat
  | [] => 0
  | x :: r => uptoBulkEntry x + uptoBulkEntries r
def uptoBulkEntry {H : Type} : Lit × DataW H → Nat
  | (.string bytes, d) => bytes.length + uptoBulk d + 1
  | (_, d) => uptoBulk d + 1
 end
def uptoSmall : (H : Type) → List (DataW H) → Bool := fun _ ds => decide (uptoBulkAll ds ≤ 1048576)
def OpenSpec.upto (s : _root_.Go.ChangeSpec) : _root_.Go.OpenSpec := { _root_.Go.OpenSpec.ofChange s with cond := some uptoSmall }

/-- 'laws.FnExactIsSubcube', WHERE WHAT IT READS IS OF BULK AT MOST 1048576: true; the input reads as it did. -/
def fnExactIsSubcubeUptoRow : OpenClaim := { program := "ytejplmkhicdfcaa", sum := "c31c6dcd3bb3c3878525040258c17a58cf5bfe462aaa61033f1151c78a31a7a2", func := "loop.example/g00862/laws.FnExactIsSubcube", spec := "fnExactIsSubcube", apart := false, narrowed := true }
def FnExactIsSubcubeUptoSaid : Prop := fnExactIsSubcubeUptoRow.holds Try.pinned (OpenSpec.upto fnExactIsSubcubeSpec)

/-- 'laws.FnExactIntersectCubes', WHERE WHAT IT READS IS OF BULK AT MOST 1048576: true; the input reads as it did. -/
def fnExactIntersectCubesUptoRow : OpenClaim := { program := "ytejplmkhicdfcaa", sum := "c31c6dcd3bb3c3878525040258c17a58cf5bfe462aaa61033f1151c78a31a7a2", func := "loop.example/g00862/laws.FnExactIntersectCubes", spec := "fnExactIntersectCubes", apart := false, narrowed := true }
def FnExactIntersectCubesUptoSaid : Prop := fnExactIntersectCubesUptoRow.holds Try.pinned (OpenSpec.upto fnExactIntersectCubesSpec)

/-- 'laws.FnExactIsValidCover', WHERE WHAT IT READS IS OF BULK AT MOST 1048576: true; the input reads as it did. -/
def fnExactIsValidCoverUptoRow : OpenClaim := { program := "ytejplmkhicdfcaa", sum := "c31c6dcd3bb3c3878525040258c17a58cf5bfe462aaa61033f1151c78a31a7a2", func := "loop.example/g00862/laws.FnExactIsValidCover", spec := "fnExactIsValidCover", unfollowed := true, recurses := true, apart := false, narrowed := true }
def FnExactIsValidCoverUptoSaid : Prop := fnExactIsValidCoverUptoRow.holds Try.pinned (OpenSpec.upto fnExactIsValidCoverSpec)

/-- 'laws.FnExactEqualOnOffSets', WHERE WHAT IT READS IS OF BULK AT MOST 1048576: true; the input reads as it did. -/
def fnExactEqualOnOffSetsUptoRow : OpenClaim := { program := "ytejplmkhicdfcaa", sum := "c31c6dcd3bb3c3878525040258c17a58cf5bfe462aaa61033f1151c78a31a7a2", func := "loop.example/g00862/laws.FnExactEqualOnOffSets", spec := "fnExactEqualOnOffSets", apart := false, narrowed := true }
def FnExactEqualOnOffSetsUptoSaid : Prop := fnExactEqualOnOffSetsUptoRow.holds Try.pinned (OpenSpec.upto fnExactEqualOnOffSetsSpec)

/-- 'laws.FnExactLiteralCount', WHERE WHAT IT READS IS OF BULK AT MOST 1048576: true; the input reads as it did. -/
def fnExactLiteralCountUptoRow : OpenClaim := { program := "ytejplmkhicdfcaa", sum := "c31c6dcd3bb3c3878525040258c17a58cf5bfe462aaa61033f1151c78a31a7a2", func := "loop.example/g00862/laws.FnExactLiteralCount", spec := "fnExactLiteralCount", unfollowed := true, recurses := true, apart := false, narrowed := true }
def FnExactLiteralCountUptoSaid : Prop := fnExactLiteralCountUptoRow.holds Try.pinned (OpenSpec.upto fnExactLiteralCountSpec)

/-- 'laws.FnExactCofactor', WHERE WHAT IT READS IS OF BULK AT MOST 1048576: true; the input reads as it did. -/
def fnExactCofactorUptoRow : OpenClaim := { program := "ytejplmkhicdfcaa", sum := "c31c6dcd3bb3c3878525040258c17a58cf5bfe462aaa61033f1151c78a31a7a2", func := "loop.example/g00862/laws.FnExactCofactor", spec := "fnExactCofactor", unfollowed := true, recurses := true, apart := false, narrowed := true }
def FnExactCofactorUptoSaid : Prop := fnExactCofactorUptoRow.holds Try.pinned (OpenSpec.upto fnExactCofactorSpec)

/-- 'laws.FnExactSupport', WHERE WHAT IT READS IS OF BULK AT MOST 1048576: true; the input reads as it did. -/
def fnExactSupportUptoRow : OpenClaim := { program := "ytejplmkhicdfcaa", sum := "c31c6dcd3bb3c3878525040258c17a58cf5bfe462aaa61033f1151c78a31a7a2", func := "loop.example/g00862/laws.FnExactSupport", spec := "fnExactSupport", unfollowed := true, recurses := true, apart := false, narrowed := true }
def FnExactSupportUptoSaid : Prop := fnExactSupportUptoRow.holds Try.pinned (OpenSpec.upto fnExactSupportSpec)

/-- 'laws.FnExactCubeContains', WHERE WHAT IT READS IS OF BULK AT MOST 1048576: true; the input reads as it did. -/
def fnExactCubeContainsUptoRow : OpenClaim := { program := "ytejplmkhicdfcaa", sum := "c31c6dcd3bb3c3878525040258c17a58cf5bfe462aaa61033f1151c78a31a7a2", func := "loop.example/g00862/laws.FnExactCubeContains", spec := "fnExactCubeContains", inPlace := ["internal/bytealg.IndexByteString", "internal/bytealg.IndexString"], named := ["internal/bytealg.MaxLen"], apart := false, narrowed := true }
def FnExactCubeContainsUptoSaid : Prop := fnExactCubeContainsUptoRow.holds Try.pinned (OpenSpec.upto fnExactCubeContainsSpec)

/-- 'laws.FnExactIsTautology', WHERE WHAT IT READS IS OF BULK AT MOST 1048576: true; the input reads as it did. -/
def fnExactIsTautologyUptoRow : OpenClaim := { program := "ytejplmkhicdfcaa", sum := "c31c6dcd3bb3c3878525040258c17a58cf5bfe462aaa61033f1151c78a31a7a2", func := "loop.example/g00862/laws.FnExactIsTautology", spec := "fnExactIsTautology", unfollowed := true, recurses := true, apart := false, narrowed := true }
def FnExactIsTautologyUptoSaid : Prop := fnExactIsTautologyUptoRow.holds Try.pinned (OpenSpec.upto fnExactIsTautologySpec)

/-- 'laws.FnExactAreEquivalent', WHERE WHAT IT READS IS OF BULK AT MOST 1048576: true; the input reads as it did. -/
def fnExactAreEquivalentUptoRow : OpenClaim := { program := "ytejplmkhicdfcaa", sum := "c31c6dcd3bb3c3878525040258c17a58cf5bfe462aaa61033f1151c78a31a7a2", func := "loop.example/g00862/laws.FnExactAreEquivalent", spec := "fnExactAreEquivalent", unfollowed := true, recurses := true, apart := false, narrowed := true }
def FnExactAreEquivalentUptoSaid : Prop := fnExactAreEquivalentUptoRow.holds Try.pinned (OpenSpec.upto fnExactAreEquivalentSpec)

/-- 'laws.FnExactMinterms', WHERE WHAT IT READS IS OF BULK AT MOST 1048576: true; the input reads as it did. -/
def fnExactMintermsUptoRow : OpenClaim := { program := "ytejplmkhicdfcaa", sum := "c31c6dcd3bb3c3878525040258c17a58cf5bfe462aaa61033f1151c78a31a7a2", func := "loop.example/g00862/laws.FnExactMinterms", spec := "fnExactMinterms", unfollowed := true, recurses := true, apart := false, narrowed := true }
def FnExactMintermsUptoSaid : Prop := fnExactMintermsUptoRow.holds Try.pinned (OpenSpec.upto fnExactMintermsSpec)

/-- 'laws.FnExactSupercube', WHERE WHAT IT READS IS OF BULK AT MOST 1048576: true; the input reads as it did. -/
def fnExactSupercubeUptoRow : OpenClaim := { program := "ytejplmkhicdfcaa", sum := "c31c6dcd3bb3c3878525040258c17a58cf5bfe462aaa61033f1151c78a31a7a2", func := "loop.example/g00862/laws.FnExactSupercube", spec := "fnExactSupercube", inPlace := ["internal/bytealg.IndexByteString", "internal/bytealg.IndexString"], unfollowed := true, recurses := true, named := ["internal/bytealg.MaxLen"], apart := false, narrowed := true }
def FnExactSupercubeUptoSaid : Prop := fnExactSupercubeUptoRow.holds Try.pinned (OpenSpec.upto fnExactSupercubeSpec)

/-- 'laws.FnExactIsValidOnOff', WHERE WHAT IT READS IS OF BULK AT MOST 1048576: true; the input reads as it did. -/
def fnExactIsValidOnOffUptoRow : OpenClaim := { program := "ytejplmkhicdfcaa", sum := "c31c6dcd3bb3c3878525040258c17a58cf5bfe462aaa61033f1151c78a31a7a2", func := "loop.example/g00862/laws.FnExactIsValidOnOff", spec := "fnExactIsValidOnOff", inPlace := ["internal/bytealg.IndexByteString", "internal/bytealg.IndexString"], unfollowed := true, recurses := true, named := ["internal/bytealg.MaxLen"], apart := false, narrowed := true }
def FnExactIsValidOnOffUptoSaid : Prop := fnExactIsValidOnOffUptoRow.holds Try.pinned (OpenSpec.upto fnExactIsValidOnOffSpec)

/-- 'laws.FnExactCoverContains', WHERE WHAT IT READS IS OF BULK AT MOST 1048576: true; the input reads as it did. -/
def fnExactCoverContainsUptoRow : OpenClaim := { program := "ytejplmkhicdfcaa", sum := "c31c6dcd3bb3c3878525040258c17a58cf5bfe462aaa61033f1151c78a31a7a2", func := "loop.example/g00862/laws.FnExactCoverContains", spec := "fnExactCoverContains", inPlace := ["internal/bytealg.IndexByteString", "internal/bytealg.IndexString"], unfollowed := true, recurses := true, named := ["internal/bytealg.MaxLen"], apart := false, narrowed := true }
def FnExactCoverContainsUptoSaid : Prop := fnExactCoverContainsUptoRow.holds Try.pinned (OpenSpec.upto fnExactCoverContainsSpec)

end Rows
end Go.Proofs.Ytejplmkhicdfcaa
