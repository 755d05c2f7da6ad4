/-
  DERIVED. GIVEN WITH THE SEED: THE CARDS: each row of YteommidoocekmaaGreatDoorRows.lean that lists a variable, with what it lists TIED to the program's text (the seventh form; the later family's looks); each row that meets fmt, with fmt's text TOLD by the authors' own Lean function (tested against real Go, not proved from fmt's source: count such statements apart). THE CARD IS WHAT COUNTS. Prove the row's statement (the work); the ties are given (YteommidoocekmaaGreatDoorTie.lean); close each card by the builder's one call (the guide's Derived/Test/ToyasCard.lean, 'card_holds'). Laid BY PROGRAM, IN A SANDBOX (cutbox-door.mjs). By AI agents, Wed Nov 11 2026. No macro, syntax, notation, axiom, sorry.
-/
import Derived.Test.YteommidoocekmaaGreatDoorRows
import GoSem.ClaimSeven
namespace Go.Proofs.YteommidoocekmaaGreatDoor
namespace Rows

/-- THE TIED CARD OF 'coillaw.BagsCounted'. -/
def bagsCountedCard : Claim7 := { stood := { row := bagsCountedRow, standIns := [], harness := (true, "158de087f3c696af5397ed0cd6c8f5ef7359f679107740363c9d92b125a922ba"), looks := false }, kinds := [], alts := [], laidByText := true, laidKinds := [.data, .pinned], laidTests := true, laidLooks := .later }
def BagsCountedCardSaid : Prop := Claim7.holds Tryz.pinned (.plain (OpenSpec.ofChange bagsCountedSpec)) bagsCountedCard

/-- THE SECOND FORM's CARD OF 'coillaw.BagsCounted'. -/
def bagsCountedUptoCard : Claim7 := { stood := { row := bagsCountedUptoRow, standIns := [], harness := (true, "158de087f3c696af5397ed0cd6c8f5ef7359f679107740363c9d92b125a922ba"), looks := false }, kinds := [], alts := [], laidByText := true, laidKinds := [.data, .pinned], laidTests := true, laidLooks := .later }
def BagsCountedUptoCardSaid : Prop := Claim7.holds Tryz.pinned (.plain (OpenSpec.upto bagsCountedSpec)) bagsCountedUptoCard
end Rows
end Go.Proofs.YteommidoocekmaaGreatDoor
