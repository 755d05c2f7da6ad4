/-
  DERIVED. GIVEN WITH THE SEED: THE CARDS: each row of YtjndncefoiniiaaGreatDoorRows.lean that lists a variable, with what it lists TIED to the program's text (the seventh form; the later family's looks); each row that meets fmt, with fmt's text TOLD by the authors' own Lean function (tested against real Go, not proved from fmt's source: count such statements apart). THE CARD IS WHAT COUNTS. Prove the row's statement (the work); the ties are given (YtjndncefoiniiaaGreatDoorTie.lean); close each card by the builder's one call (the guide's Derived/Test/ToyasCard.lean, 'card_holds'). Laid BY PROGRAM, IN A SANDBOX (cutbox-door.mjs). By AI agents, Wed Nov 11 2026. No macro, syntax, notation, axiom, sorry.
-/
import Derived.Test.YtjndncefoiniiaaGreatDoorRows
import GoSem.ClaimSeven
namespace Go.Proofs.YtjndncefoiniiaaGreatDoor
namespace Rows

/-- THE TIED CARD OF 'coillaw.ReadingsWritten'. -/
def readingsWrittenCard : Claim7 := { stood := { row := readingsWrittenRow, standIns := [], harness := (true, "d7a7a65b180199751acf50ea14ecf40013a8296a2f1591bf06f1f84074b3a05e"), looks := true }, kinds := [], alts := [], laidByText := true, laidKinds := [.data, .data, .data, .data, .sentinel, .sentinel, .pinned], laidTests := true, laidLooks := .later }
def ReadingsWrittenCardSaid : Prop := Claim7.holds Tryz.pinned (.plain (OpenSpec.ofChange readingsWrittenSpec)) readingsWrittenCard

/-- THE SECOND FORM's CARD OF 'coillaw.ReadingsWritten'. -/
def readingsWrittenUptoCard : Claim7 := { stood := { row := readingsWrittenUptoRow, standIns := [], harness := (true, "d7a7a65b180199751acf50ea14ecf40013a8296a2f1591bf06f1f84074b3a05e"), looks := true }, kinds := [], alts := [], laidByText := true, laidKinds := [.data, .data, .data, .data, .sentinel, .sentinel, .pinned], laidTests := true, laidLooks := .later }
def ReadingsWrittenUptoCardSaid : Prop := Claim7.holds Tryz.pinned (.plain (OpenSpec.upto readingsWrittenSpec)) readingsWrittenUptoCard
end Rows
end Go.Proofs.YtjndncefoiniiaaGreatDoor
