/-
  DERIVED. GIVEN WITH THE SEED: THE CARDS: each row of YtaoclkglimibeaaGreatDoorRows.lean that lists a variable, with what it lists TIED to the program's text (the seventh form; the later family's looks); each row that meets fmt, with fmt's text TOLD by the authors' own Lean function (tested against real Go, not proved from fmt's source: count such statements apart). THE CARD IS WHAT COUNTS. Prove the row's statement (the work); the ties are given (YtaoclkglimibeaaGreatDoorTie.lean); close each card by the builder's one call (the guide's Derived/Test/ToyasCard.lean, 'card_holds'). Laid BY PROGRAM, IN A SANDBOX (cutbox-door.mjs). By AI agents, Wed Nov 11 2026. No macro, syntax, notation, axiom, sorry.
-/
import Derived.Test.YtaoclkglimibeaaGreatDoorRows
import GoSem.ClaimSeven
namespace Go.Proofs.YtaoclkglimibeaaGreatDoor
namespace Rows

/-- THE TIED CARD OF 'coillaw.LedgersWritten'. -/
def ledgersWrittenCard : Claim7 := { stood := { row := ledgersWrittenRow, standIns := [], harness := (true, "d58fd66ef29419ee6ba3aaeefe8b7bebe8f6ed1ef4c578f46cfe27dc4f2bab9b"), looks := true }, kinds := [], alts := [], laidByText := true, laidKinds := [.data, .data, .data, .data, .sentinel, .sentinel, .pinned], laidTests := true, laidLooks := .later }
def LedgersWrittenCardSaid : Prop := Claim7.holds Tryz.pinned (.plain (OpenSpec.ofChange ledgersWrittenSpec)) ledgersWrittenCard

/-- THE SECOND FORM's CARD OF 'coillaw.LedgersWritten'. -/
def ledgersWrittenUptoCard : Claim7 := { stood := { row := ledgersWrittenUptoRow, standIns := [], harness := (true, "d58fd66ef29419ee6ba3aaeefe8b7bebe8f6ed1ef4c578f46cfe27dc4f2bab9b"), looks := true }, kinds := [], alts := [], laidByText := true, laidKinds := [.data, .data, .data, .data, .sentinel, .sentinel, .pinned], laidTests := true, laidLooks := .later }
def LedgersWrittenUptoCardSaid : Prop := Claim7.holds Tryz.pinned (.plain (OpenSpec.upto ledgersWrittenSpec)) ledgersWrittenUptoCard
end Rows
end Go.Proofs.YtaoclkglimibeaaGreatDoor
