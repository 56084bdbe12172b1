/-
  No cell of these rows narrows 'for every input' (looked for: loops, veiled, ifaces, maps, wideKeys, modest, calm, conditions, laid).
  DERIVED. THE GIVEN ROWS OF THIS SEAT. 5 by the template 'for every input the law returns true; each argument reads behind the call as it read before'; 0 by the template 'total and deterministic' (their statements: YtogmlhclonlnpaaTotals.lean).
  GIVEN WITH THE SEED: the statements are not yours to turn. If you find one false, say at which input.
  Laid BY PROGRAM, IN A SANDBOX (cutbox-rows.mjs): the forced cells as the released guide's own fill.sh prints them over the translation 553fa2e7f1223a38… (all of the seat's roots in one cut). By AI agents, Wed Nov 11 2026. No macro, syntax, notation, axiom, sorry.
-/
import Derived.Test.YtogmlhclonlnpaaChecked
import GoSem.Claim
import GoSem.ClaimJoined
import GoSem.ClaimMapViews
import Derived.JoinedTies
import Derived.KernelRfl
namespace Go.Proofs.Ytogmlhclonlnpaa
/- THE CELL 'sum', in the pinned program and in every row, IS THE sha256 OF THE DUMP (.gsa) THAT YtogmlhclonlnpaaProg.lean LOADS. Nothing in Lean hashes anything: it is a label: what it is worth is what the hold of that sum in a sandbox is worth. -/
noncomputable def Try.pinned : Pinned := { name := "ytogmlhclonlnpaa", sum := "553fa2e7f1223a3880abef4a95568e4890c0548116c61d2743a6bc73e368edf3", checked := Try.checked }
namespace Rows
def none {H : Type} : Left H := { results := [], args := [] }

/-- 'laws.FnExactCodingConflicts': WHATEVER THE INPUT: true; the input reads as it did. -/
def fnExactCodingConflictsSpec : ChangeSpec := { name := "fnExactCodingConflicts", fn := fun _ => fun
  | [d] => { results := [.lit (.bool true)], args := [d] }
  | _ => none }
def fnExactCodingConflictsRow : OpenClaim := { program := "ytogmlhclonlnpaa", sum := "553fa2e7f1223a3880abef4a95568e4890c0548116c61d2743a6bc73e368edf3", func := "loop.example/g00862/laws.FnExactCodingConflicts", spec := "fnExactCodingConflicts", unfollowed := true, recurses := true, apart := false }
def FnExactCodingConflictsSaid : Prop := fnExactCodingConflictsRow.holds Try.pinned (OpenSpec.ofChange fnExactCodingConflictsSpec)

/-- ITS FALSE NEIGHBOUR: 'it returns false'. Refute it at one input. -/
def fnExactCodingConflictsWrong : ChangeSpec := { name := "fnExactCodingConflicts", fn := fun _ => fun
  | [d] => { results := [.lit (.bool false)], args := [d] }
  | _ => none }
def FnExactCodingConflictsWrongFalsely : Prop := fnExactCodingConflictsRow.holds Try.pinned (OpenSpec.ofChange fnExactCodingConflictsWrong)

/-- 'laws.FnExactSetBlock': WHATEVER THE INPUT: true; the input reads as it did. -/
def fnExactSetBlockSpec : ChangeSpec := { name := "fnExactSetBlock", fn := fun _ => fun
  | [d1, d2, d3] => { results := [.lit (.bool true)], args := [d1, d2, d3] }
  | _ => none }
def fnExactSetBlockRow : OpenClaim := { program := "ytogmlhclonlnpaa", sum := "553fa2e7f1223a3880abef4a95568e4890c0548116c61d2743a6bc73e368edf3", func := "loop.example/g00862/laws.FnExactSetBlock", spec := "fnExactSetBlock", unfollowed := true, recurses := true, apart := false }
def FnExactSetBlockSaid : Prop := fnExactSetBlockRow.holds Try.pinned (OpenSpec.ofChange fnExactSetBlockSpec)

/-- ITS FALSE NEIGHBOUR: 'it returns false'. Refute it at one input. -/
def fnExactSetBlockWrong : ChangeSpec := { name := "fnExactSetBlock", fn := fun _ => fun
  | [d1, d2, d3] => { results := [.lit (.bool false)], args := [d1, d2, d3] }
  | _ => none }
def FnExactSetBlockWrongFalsely : Prop := fnExactSetBlockRow.holds Try.pinned (OpenSpec.ofChange fnExactSetBlockWrong)

/-- 'laws.FnExactInsertionPartition': WHATEVER THE INPUT: true; the input reads as it did. -/
def fnExactInsertionPartitionSpec : ChangeSpec := { name := "fnExactInsertionPartition", fn := fun _ => fun
  | [d1, d2, d3] => { results := [.lit (.bool true)], args := [d1, d2, d3] }
  | _ => none }
def fnExactInsertionPartitionRow : OpenClaim := { program := "ytogmlhclonlnpaa", sum := "553fa2e7f1223a3880abef4a95568e4890c0548116c61d2743a6bc73e368edf3", func := "loop.example/g00862/laws.FnExactInsertionPartition", spec := "fnExactInsertionPartition", unfollowed := true, recurses := true, apart := false }
def FnExactInsertionPartitionSaid : Prop := fnExactInsertionPartitionRow.holds Try.pinned (OpenSpec.ofChange fnExactInsertionPartitionSpec)

/-- ITS FALSE NEIGHBOUR: 'it returns false'. Refute it at one input. -/
def fnExactInsertionPartitionWrong : ChangeSpec := { name := "fnExactInsertionPartition", fn := fun _ => fun
  | [d1, d2, d3] => { results := [.lit (.bool false)], args := [d1, d2, d3] }
  | _ => none }
def FnExactInsertionPartitionWrongFalsely : Prop := fnExactInsertionPartitionRow.holds Try.pinned (OpenSpec.ofChange fnExactInsertionPartitionWrong)

/-- 'laws.FnExactEssentialPrimes': WHATEVER THE INPUT: true; the input reads as it did. -/
def fnExactEssentialPrimesSpec : ChangeSpec := { name := "fnExactEssentialPrimes", fn := fun _ => fun
  | [d1, d2, d3] => { results := [.lit (.bool true)], args := [d1, d2, d3] }
  | _ => none }
def fnExactEssentialPrimesRow : OpenClaim := { program := "ytogmlhclonlnpaa", sum := "553fa2e7f1223a3880abef4a95568e4890c0548116c61d2743a6bc73e368edf3", func := "loop.example/g00862/laws.FnExactEssentialPrimes", spec := "fnExactEssentialPrimes", inPlace := ["internal/bytealg.IndexByteString", "internal/bytealg.IndexString"], unfollowed := true, recurses := true, named := ["internal/bytealg.MaxLen"], apart := false }
def FnExactEssentialPrimesSaid : Prop := fnExactEssentialPrimesRow.holds Try.pinned (OpenSpec.ofChange fnExactEssentialPrimesSpec)

/-- ITS FALSE NEIGHBOUR: 'it returns false'. Refute it at one input. -/
def fnExactEssentialPrimesWrong : ChangeSpec := { name := "fnExactEssentialPrimes", fn := fun _ => fun
  | [d1, d2, d3] => { results := [.lit (.bool false)], args := [d1, d2, d3] }
  | _ => none }
def FnExactEssentialPrimesWrongFalsely : Prop := fnExactEssentialPrimesRow.holds Try.pinned (OpenSpec.ofChange fnExactEssentialPrimesWrong)

/-- 'laws.FnExactMinimumCover': WHATEVER THE INPUT: true; the input reads as it did. -/
def fnExactMinimumCoverSpec : ChangeSpec := { name := "fnExactMinimumCover", fn := fun _ => fun
  | [d1, d2, d3] => { results := [.lit (.bool true)], args := [d1, d2, d3] }
  | _ => none }
def fnExactMinimumCoverRow : OpenClaim := { program := "ytogmlhclonlnpaa", sum := "553fa2e7f1223a3880abef4a95568e4890c0548116c61d2743a6bc73e368edf3", func := "loop.example/g00862/laws.FnExactMinimumCover", spec := "fnExactMinimumCover", inPlace := ["internal/bytealg.IndexByteString", "internal/bytealg.IndexString"], unfollowed := true, recurses := true, named := ["internal/bytealg.MaxLen"], apart := false }
def FnExactMinimumCoverSaid : Prop := fnExactMinimumCoverRow.holds Try.pinned (OpenSpec.ofChange fnExactMinimumCoverSpec)

/-- ITS FALSE NEIGHBOUR: 'it returns false'. Refute it at one input. -/
def fnExactMinimumCoverWrong : ChangeSpec := { name := "fnExactMinimumCover", fn := fun _ => fun
  | [d1, d2, d3] => { results := [.lit (.bool false)], args := [d1, d2, d3] }
  | _ => none }
def FnExactMinimumCoverWrongFalsely : Prop := fnExactMinimumCoverRow.holds Try.pinned (OpenSpec.ofChange fnExactMinimumCoverWrong)

/- THE SECOND FORM. 'bulk': how many values and letters a reading holds, each counted each time it is reached (what is shared counts as often as it is met; a slice's spare places count too). A statement '..UptoSaid' is the law's where the arguments, and the package variables that the reading takes, are together of bulk at most 1048576: NARROWER than '..Said'. Prove '..Said' where nothing that the law and all that it calls make is longer than what came in: it says more and counts as full. Else prove '..UptoSaid'. A law counts once. -/
mutual
def uptoBulk {H : Type} : DataW H → Nat
  | .lit (.string bytes) => bytes.length + 1
  | .lit _ => 1
  | .nil => 1
  | .ptr d => uptoBulk d + 1
  | .slice elems spare => uptoBulkAll elems + uptoBulkAll spare + 1
  | .agg parts => uptoBulkAll parts + 1
  | .iface _ d => uptoBulk d + 1
  | .map entries => uptoBulkEntries entries + 1
  | .held _ => 1
def uptoBulkAll {H : Type} : List (DataW H) → Nat
  | [] => 0
  | d :: r => uptoBulk d + uptoBulkAll r
def uptoBulkEntries {H : Type} : List (Lit × DataW H) → Nat
  | [] => 0
  | x :: r => uptoBulkEntry x + uptoBulkEntries r
def uptoBulkEntry {H : Type} : Lit × DataW H → Nat
  | (.string bytes, d) => bytes.length + uptoBulk d + 1
  | (_, d) => uptoBulk d + 1
 end
def uptoSmall : (H : Type) → List (DataW H) → Bool := fun _ ds => decide (uptoBulkAll ds ≤ 1048576)
def OpenSpec.upto (s : _root_.Go.ChangeSpec) : _root_.Go.OpenSpec := { _root_.Go.OpenSpec.ofChange s with cond := some uptoSmall }

/-- 'laws.FnExactCodingConflicts', WHERE WHAT IT READS IS OF BULK AT MOST 1048576: true; the input reads as it did. -/
def fnExactCodingConflictsUptoRow : OpenClaim := { program := "ytogmlhclonlnpaa", sum := "553fa2e7f1223a3880abef4a95568e4890c0548116c61d2743a6bc73e368edf3", func := "loop.example/g00862/laws.FnExactCodingConflicts", spec := "fnExactCodingConflicts", unfollowed := true, recurses := true, apart := false, narrowed := true }
def FnExactCodingConflictsUptoSaid : Prop := fnExactCodingConflictsUptoRow.holds Try.pinned (OpenSpec.upto fnExactCodingConflictsSpec)

/-- 'laws.FnExactSetBlock', WHERE WHAT IT READS IS OF BULK AT MOST 1048576: true; the input reads as it did. -/
def fnExactSetBlockUptoRow : OpenClaim := { program := "ytogmlhclonlnpaa", sum := "553fa2e7f1223a3880abef4a95568e4890c0548116c61d2743a6bc73e368edf3", func := "loop.example/g00862/laws.FnExactSetBlock", spec := "fnExactSetBlock", unfollowed := true, recurses := true, apart := false, narrowed := true }
def FnExactSetBlockUptoSaid : Prop := fnExactSetBlockUptoRow.holds Try.pinned (OpenSpec.upto fnExactSetBlockSpec)

/-- 'laws.FnExactInsertionPartition', WHERE WHAT IT READS IS OF BULK AT MOST 1048576: true; the input reads as it did. -/
def fnExactInsertionPartitionUptoRow : OpenClaim := { program := "ytogmlhclonlnpaa", sum := "553fa2e7f1223a3880abef4a95568e4890c0548116c61d2743a6bc73e368edf3", func := "loop.example/g00862/laws.FnExactInsertionPartition", spec := "fnExactInsertionPartition", unfollowed := true, recurses := true, apart := false, narrowed := true }
def FnExactInsertionPartitionUptoSaid : Prop := fnExactInsertionPartitionUptoRow.holds Try.pinned (OpenSpec.upto fnExactInsertionPartitionSpec)

/-- 'laws.FnExactEssentialPrimes', WHERE WHAT IT READS IS OF BULK AT MOST 1048576: true; the input reads as it did. -/
def fnExactEssentialPrimesUptoRow : OpenClaim := { program := "ytogmlhclonlnpaa", sum := "553fa2e7f1223a3880abef4a95568e4890c0548116c61d2743a6bc73e368edf3", func := "loop.example/g00862/laws.FnExactEssentialPrimes", spec := "fnExactEssentialPrimes", inPlace := ["internal/bytealg.IndexByteString", "internal/bytealg.IndexString"], unfollowed := true, recurses := true, named := ["internal/bytealg.MaxLen"], apart := false, narrowed := true }
def FnExactEssentialPrimesUptoSaid : Prop := fnExactEssentialPrimesUptoRow.holds Try.pinned (OpenSpec.upto fnExactEssentialPrimesSpec)

/-- 'laws.FnExactMinimumCover', WHERE WHAT IT READS IS OF BULK AT MOST 1048576: true; the input reads as it did. -/
def fnExactMinimumCoverUptoRow : OpenClaim := { program := "ytogmlhclonlnpaa", sum := "553fa2e7f1223a3880abef4a95568e4890c0548116c61d2743a6bc73e368edf3", func := "loop.example/g00862/laws.FnExactMinimumCover", spec := "fnExactMinimumCover", inPlace := ["internal/bytealg.IndexByteString", "internal/bytealg.IndexString"], unfollowed := true, recurses := true, named := ["internal/bytealg.MaxLen"], apart := false, narrowed := true }
def FnExactMinimumCoverUptoSaid : Prop := fnExactMinimumCoverUptoRow.holds Try.pinned (OpenSpec.upto fnExactMinimumCoverSpec)

end Rows
end Go.Proofs.Ytogmlhclonlnpaa
