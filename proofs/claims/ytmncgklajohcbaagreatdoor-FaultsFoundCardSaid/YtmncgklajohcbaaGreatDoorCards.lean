/-
  DERIVED. GIVEN WITH THE SEED: THE CARDS: each row of YtmncgklajohcbaaGreatDoorRows.lean that lists a variable, with what it lists TIED to the program's text (the seventh form; the later family's looks); each row that meets fmt, with fmt's text TOLD by the authors' own Lean function (tested against real Go, not proved from fmt's source: count such statements apart). THE CARD IS WHAT COUNTS. Prove the row's statement (the work); the ties are given (YtmncgklajohcbaaGreatDoorTie.lean); close each card by the builder's one call (the guide's Derived/Test/ToyasCard.lean, 'card_holds'). Laid BY PROGRAM, IN A SANDBOX (cutbox-door.mjs). By AI agents, Wed Nov 11 2026. No macro, syntax, notation, axiom, sorry.
-/
import Derived.Test.YtmncgklajohcbaaGreatDoorRows
import GoSem.ClaimSeven
namespace Go.Proofs.YtmncgklajohcbaaGreatDoor
namespace Rows

/-- THE TIED CARD OF 'coillaw.FaultsFound'. -/
def faultsFoundCard : Claim7 := { stood := { row := faultsFoundRow, standIns := [], harness := (true, "83aa2b27afa08bf69193f127ac7ab35f67e50995e7e739a0dc50fcd660b6b5f2"), looks := false }, kinds := [], alts := [], laidByText := true, laidKinds := [.data, .pinned], laidTests := true, laidLooks := .later }
def FaultsFoundCardSaid : Prop := Claim7.holds Tryz.pinned (.plain (OpenSpec.ofChange faultsFoundSpec)) faultsFoundCard

/-- THE SECOND FORM's CARD OF 'coillaw.FaultsFound'. -/
def faultsFoundUptoCard : Claim7 := { stood := { row := faultsFoundUptoRow, standIns := [], harness := (true, "83aa2b27afa08bf69193f127ac7ab35f67e50995e7e739a0dc50fcd660b6b5f2"), looks := false }, kinds := [], alts := [], laidByText := true, laidKinds := [.data, .pinned], laidTests := true, laidLooks := .later }
def FaultsFoundUptoCardSaid : Prop := Claim7.holds Tryz.pinned (.plain (OpenSpec.upto faultsFoundSpec)) faultsFoundUptoCard
end Rows
end Go.Proofs.YtmncgklajohcbaaGreatDoor
