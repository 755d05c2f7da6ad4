/-
  DERIVED. GIVEN WITH THE SEED: THE CARDS: each row of YtacfkfehoemnfaaGreatDoorRows.lean that lists a variable, with what it lists TIED to the program's text (the seventh form; the later family's looks); each row that meets fmt, with fmt's text TOLD by the authors' own Lean function (tested against real Go, not proved from fmt's source: count such statements apart). THE CARD IS WHAT COUNTS. Prove the row's statement (the work); the ties are given (YtacfkfehoemnfaaGreatDoorTie.lean); close each card by the builder's one call (the guide's Derived/Test/ToyasCard.lean, 'card_holds'). Laid BY PROGRAM, IN A SANDBOX (cutbox-door.mjs). By AI agents, Wed Nov 11 2026. No macro, syntax, notation, axiom, sorry.
-/
import Derived.Test.YtacfkfehoemnfaaGreatDoorRows
import GoSem.ClaimSeven
namespace Go.Proofs.YtacfkfehoemnfaaGreatDoor
namespace Rows

/-- THE TIED CARD OF 'coillaw.LedgersKept'. -/
def ledgersKeptCard : Claim7 := { stood := { row := ledgersKeptRow, standIns := [], harness := (true, "ffaa73ea45402181b51df0a78820cac82125873f15bc9a4fae9691b43d8c0ea5"), looks := false }, kinds := [], alts := [], laidByText := true, laidKinds := [.data, .data, .data, .data, .pinned], laidTests := true, laidLooks := .later }
def LedgersKeptCardSaid : Prop := Claim7.holds Tryz.pinned (.plain (OpenSpec.ofChange ledgersKeptSpec)) ledgersKeptCard

/-- THE SECOND FORM's CARD OF 'coillaw.LedgersKept'. -/
def ledgersKeptUptoCard : Claim7 := { stood := { row := ledgersKeptUptoRow, standIns := [], harness := (true, "ffaa73ea45402181b51df0a78820cac82125873f15bc9a4fae9691b43d8c0ea5"), looks := false }, kinds := [], alts := [], laidByText := true, laidKinds := [.data, .data, .data, .data, .pinned], laidTests := true, laidLooks := .later }
def LedgersKeptUptoCardSaid : Prop := Claim7.holds Tryz.pinned (.plain (OpenSpec.upto ledgersKeptSpec)) ledgersKeptUptoCard
end Rows
end Go.Proofs.YtacfkfehoemnfaaGreatDoor
