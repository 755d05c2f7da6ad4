/-
  DERIVED. GIVEN WITH THE SEED: THE CARDS: each row of YtfgcjpkkbhnkgaaGreatDoorRows.lean that lists a variable, with what it lists TIED to the program's text (the seventh form; the later family's looks); each row that meets fmt, with fmt's text TOLD by the authors' own Lean function (tested against real Go, not proved from fmt's source: count such statements apart). THE CARD IS WHAT COUNTS. Prove the row's statement (the work); the ties are given (YtfgcjpkkbhnkgaaGreatDoorTie.lean); close each card by the builder's one call (the guide's Derived/Test/ToyasCard.lean, 'card_holds'). Laid BY PROGRAM, IN A SANDBOX (cutbox-door.mjs). By AI agents, Wed Nov 11 2026. No macro, syntax, notation, axiom, sorry.
-/
import Derived.Test.YtfgcjpkkbhnkgaaGreatDoorRows
import GoSem.ClaimSeven
namespace Go.Proofs.YtfgcjpkkbhnkgaaGreatDoor
namespace Rows

/-- THE TIED CARD OF 'coiltop.TopMarkets'. -/
def topMarketsCard : Claim7 := { stood := { row := topMarketsRow, standIns := [], harness := (true, "b4faa943b62cb9c012395a6ba047465532c84e5d31f7f4f43eee7c116879eff9"), looks := true }, kinds := [], alts := [], laidByText := true, laidKinds := [.data, .data, .data, .data, .sentinel, .sentinel, .pinned], laidTests := true, laidLooks := .later }
def TopMarketsCardSaid : Prop := Claim7.holds Tryz.pinned (.plain (OpenSpec.ofChange topMarketsSpec)) topMarketsCard

/-- THE SECOND FORM's CARD OF 'coiltop.TopMarkets'. -/
def topMarketsUptoCard : Claim7 := { stood := { row := topMarketsUptoRow, standIns := [], harness := (true, "b4faa943b62cb9c012395a6ba047465532c84e5d31f7f4f43eee7c116879eff9"), looks := true }, kinds := [], alts := [], laidByText := true, laidKinds := [.data, .data, .data, .data, .sentinel, .sentinel, .pinned], laidTests := true, laidLooks := .later }
def TopMarketsUptoCardSaid : Prop := Claim7.holds Tryz.pinned (.plain (OpenSpec.upto topMarketsSpec)) topMarketsUptoCard
end Rows
end Go.Proofs.YtfgcjpkkbhnkgaaGreatDoor
