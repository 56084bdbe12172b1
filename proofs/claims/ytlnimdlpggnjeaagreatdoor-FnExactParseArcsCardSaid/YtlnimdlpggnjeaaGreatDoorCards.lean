/-
  DERIVED. GIVEN WITH THE SEED: THE CARDS: each row of YtlnimdlpggnjeaaGreatDoorRows.lean that lists a variable, with what it lists TIED to the program's text (the seventh form; the later family's looks); each row that meets fmt, with fmt's text TOLD by the authors' own Lean function (tested against real Go, not proved from fmt's source: count such statements apart). THE CARD IS WHAT COUNTS. Prove the row's statement (the work); the ties are given (YtlnimdlpggnjeaaGreatDoorTie.lean); close each card by the builder's one call (the guide's Derived/Test/ToyasCard.lean, 'card_holds'). Laid BY PROGRAM, IN A SANDBOX (cutbox-door.mjs). By AI agents, Wed Nov 11 2026. No macro, syntax, notation, axiom, sorry.
-/
import Derived.Test.YtlnimdlpggnjeaaGreatDoorRows
import GoSem.ClaimSeven
namespace Go.Proofs.YtlnimdlpggnjeaaGreatDoor
namespace Rows

/-- THE TIED CARD OF 'laws.FnExactParseArcs'. -/
def fnExactParseArcsCard : Claim7 := { stood := { row := fnExactParseArcsRow, standIns := [], harness := (true, "d5cfa38dfa4f5ed3cf6dbcb7be9b08e423c607321f80897e1814da5ad591c616"), looks := false }, kinds := [], alts := [], laidByText := true, laidKinds := [.data, .data, .data, .data, .data, .pinned], laidTests := true, laidLooks := .later }
def FnExactParseArcsCardSaid : Prop := Claim7.holds Tryz.pinned (.plain (OpenSpec.ofChange fnExactParseArcsSpec)) fnExactParseArcsCard

/-- THE SECOND FORM's CARD OF 'laws.FnExactParseArcs'. -/
def fnExactParseArcsUptoCard : Claim7 := { stood := { row := fnExactParseArcsUptoRow, standIns := [], harness := (true, "d5cfa38dfa4f5ed3cf6dbcb7be9b08e423c607321f80897e1814da5ad591c616"), looks := false }, kinds := [], alts := [], laidByText := true, laidKinds := [.data, .data, .data, .data, .data, .pinned], laidTests := true, laidLooks := .later }
def FnExactParseArcsUptoCardSaid : Prop := Claim7.holds Tryz.pinned (.plain (OpenSpec.upto fnExactParseArcsSpec)) fnExactParseArcsUptoCard
end Rows
end Go.Proofs.YtlnimdlpggnjeaaGreatDoor
