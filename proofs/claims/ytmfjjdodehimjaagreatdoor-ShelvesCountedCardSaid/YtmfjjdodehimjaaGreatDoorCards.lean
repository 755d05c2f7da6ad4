/-
  DERIVED. GIVEN WITH THE SEED: THE CARDS: each row of YtmfjjdodehimjaaGreatDoorRows.lean that lists a variable, with what it lists TIED to the program's text (the seventh form; the later family's looks); each row that meets fmt, with fmt's text TOLD by the authors' own Lean function (tested against real Go, not proved from fmt's source: count such statements apart). THE CARD IS WHAT COUNTS. Prove the row's statement (the work); the ties are given (YtmfjjdodehimjaaGreatDoorTie.lean); close each card by the builder's one call (the guide's Derived/Test/ToyasCard.lean, 'card_holds'). Laid BY PROGRAM, IN A SANDBOX (cutbox-door.mjs). By AI agents, Wed Nov 11 2026. No macro, syntax, notation, axiom, sorry.
-/
import Derived.Test.YtmfjjdodehimjaaGreatDoorRows
import GoSem.ClaimSeven
namespace Go.Proofs.YtmfjjdodehimjaaGreatDoor
namespace Rows

/-- THE TIED CARD OF 'coillaw.ShelvesCounted'. -/
def shelvesCountedCard : Claim7 := { stood := { row := shelvesCountedRow, standIns := [], harness := (true, "cd3d872d9140c934d7b3888683a471f7667af49a3c462c576f3090d1b25797d5"), looks := false }, kinds := [], alts := [], laidByText := true, laidKinds := [.data, .pinned], laidTests := true, laidLooks := .later }
def ShelvesCountedCardSaid : Prop := Claim7.holds Tryz.pinned (.plain (OpenSpec.ofChange shelvesCountedSpec)) shelvesCountedCard

/-- THE TIED CARD OF 'coillaw.BasketsPriced'. -/
def basketsPricedCard : Claim7 := { stood := { row := basketsPricedRow, standIns := [], harness := (true, "cd3d872d9140c934d7b3888683a471f7667af49a3c462c576f3090d1b25797d5"), looks := false }, kinds := [], alts := [], laidByText := true, laidKinds := [.data, .pinned], laidTests := true, laidLooks := .later }
def BasketsPricedCardSaid : Prop := Claim7.holds Tryz.pinned (.plain (OpenSpec.ofChange basketsPricedSpec)) basketsPricedCard

/-- THE SECOND FORM's CARD OF 'coillaw.ShelvesCounted'. -/
def shelvesCountedUptoCard : Claim7 := { stood := { row := shelvesCountedUptoRow, standIns := [], harness := (true, "cd3d872d9140c934d7b3888683a471f7667af49a3c462c576f3090d1b25797d5"), looks := false }, kinds := [], alts := [], laidByText := true, laidKinds := [.data, .pinned], laidTests := true, laidLooks := .later }
def ShelvesCountedUptoCardSaid : Prop := Claim7.holds Tryz.pinned (.plain (OpenSpec.upto shelvesCountedSpec)) shelvesCountedUptoCard

/-- THE SECOND FORM's CARD OF 'coillaw.BasketsPriced'. -/
def basketsPricedUptoCard : Claim7 := { stood := { row := basketsPricedUptoRow, standIns := [], harness := (true, "cd3d872d9140c934d7b3888683a471f7667af49a3c462c576f3090d1b25797d5"), looks := false }, kinds := [], alts := [], laidByText := true, laidKinds := [.data, .pinned], laidTests := true, laidLooks := .later }
def BasketsPricedUptoCardSaid : Prop := Claim7.holds Tryz.pinned (.plain (OpenSpec.upto basketsPricedSpec)) basketsPricedUptoCard
end Rows
end Go.Proofs.YtmfjjdodehimjaaGreatDoor
