/-
  DERIVED. GIVEN WITH THE SEED: THE CARDS: each row of YtjknjnkkpfeahaaGreatDoorRows.lean that lists a variable, with what it lists TIED to the program's text (the seventh form; the later family's looks); each row that meets fmt, with fmt's text TOLD by the authors' own Lean function (tested against real Go, not proved from fmt's source: count such statements apart). THE CARD IS WHAT COUNTS. Prove the row's statement (the work); the ties are given (YtjknjnkkpfeahaaGreatDoorTie.lean); close each card by the builder's one call (the guide's Derived/Test/ToyasCard.lean, 'card_holds'). Laid BY PROGRAM, IN A SANDBOX (cutbox-door.mjs). By AI agents, Wed Nov 11 2026. No macro, syntax, notation, axiom, sorry.
-/
import Derived.Test.YtjknjnkkpfeahaaGreatDoorRows
import GoSem.ClaimSeven
namespace Go.Proofs.YtjknjnkkpfeahaaGreatDoor
namespace Rows

/-- THE TIED CARD OF 'coillaw.WalletsWritten'. -/
def walletsWrittenCard : Claim7 := { stood := { row := walletsWrittenRow, standIns := [], harness := (true, "ac86e7eecbe381e11ff6a50b57ea9084d07756c3d72b34cc96f0aa19f16ec6c8"), looks := true }, kinds := [], alts := [], laidByText := true, laidKinds := [.data, .data, .data, .data, .sentinel, .sentinel, .pinned], laidTests := true, laidLooks := .later }
def WalletsWrittenCardSaid : Prop := Claim7.holds Tryz.pinned (.plain (OpenSpec.ofChange walletsWrittenSpec)) walletsWrittenCard

/-- THE SECOND FORM's CARD OF 'coillaw.WalletsWritten'. -/
def walletsWrittenUptoCard : Claim7 := { stood := { row := walletsWrittenUptoRow, standIns := [], harness := (true, "ac86e7eecbe381e11ff6a50b57ea9084d07756c3d72b34cc96f0aa19f16ec6c8"), looks := true }, kinds := [], alts := [], laidByText := true, laidKinds := [.data, .data, .data, .data, .sentinel, .sentinel, .pinned], laidTests := true, laidLooks := .later }
def WalletsWrittenUptoCardSaid : Prop := Claim7.holds Tryz.pinned (.plain (OpenSpec.upto walletsWrittenSpec)) walletsWrittenUptoCard
end Rows
end Go.Proofs.YtjknjnkkpfeahaaGreatDoor
