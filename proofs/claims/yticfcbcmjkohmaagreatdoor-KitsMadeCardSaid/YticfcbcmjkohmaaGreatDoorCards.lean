/-
  DERIVED. GIVEN WITH THE SEED: THE CARDS: each row of YticfcbcmjkohmaaGreatDoorRows.lean that lists a variable, with what it lists TIED to the program's text (the seventh form; the later family's looks); each row that meets fmt, with fmt's text TOLD by the authors' own Lean function (tested against real Go, not proved from fmt's source: count such statements apart). THE CARD IS WHAT COUNTS. Prove the row's statement (the work); the ties are given (YticfcbcmjkohmaaGreatDoorTie.lean); close each card by the builder's one call (the guide's Derived/Test/ToyasCard.lean, 'card_holds'). Laid BY PROGRAM, IN A SANDBOX (cutbox-door.mjs). By AI agents, Wed Nov 11 2026. No macro, syntax, notation, axiom, sorry.
-/
import Derived.Test.YticfcbcmjkohmaaGreatDoorRows
import GoSem.ClaimSeven
namespace Go.Proofs.YticfcbcmjkohmaaGreatDoor
namespace Rows

/-- THE TIED CARD OF 'coillaw.KitsMade'. -/
def kitsMadeCard : Claim7 := { stood := { row := kitsMadeRow, standIns := [], harness := (true, "41d6f665193a813ef6aa0d79f39be1ccc62b43328420dba0915e56192c33a587"), looks := false }, kinds := [], alts := [], laidByText := true, laidKinds := [.data, .pinned], laidTests := true, laidLooks := .later }
def KitsMadeCardSaid : Prop := Claim7.holds Tryz.pinned (.plain (OpenSpec.ofChange kitsMadeSpec)) kitsMadeCard

/-- THE SECOND FORM's CARD OF 'coillaw.KitsMade'. -/
def kitsMadeUptoCard : Claim7 := { stood := { row := kitsMadeUptoRow, standIns := [], harness := (true, "41d6f665193a813ef6aa0d79f39be1ccc62b43328420dba0915e56192c33a587"), looks := false }, kinds := [], alts := [], laidByText := true, laidKinds := [.data, .pinned], laidTests := true, laidLooks := .later }
def KitsMadeUptoCardSaid : Prop := Claim7.holds Tryz.pinned (.plain (OpenSpec.upto kitsMadeSpec)) kitsMadeUptoCard
end Rows
end Go.Proofs.YticfcbcmjkohmaaGreatDoor
