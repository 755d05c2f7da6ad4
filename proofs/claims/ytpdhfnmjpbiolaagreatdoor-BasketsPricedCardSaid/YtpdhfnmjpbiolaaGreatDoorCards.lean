/-
  DERIVED. GIVEN WITH THE SEED: THE CARDS: each row of YtpdhfnmjpbiolaaGreatDoorRows.lean that lists a variable, with what it lists TIED to the program's text (the seventh form; the later family's looks); each row that meets fmt, with fmt's text TOLD by the authors' own Lean function (tested against real Go, not proved from fmt's source: count such statements apart). THE CARD IS WHAT COUNTS. Prove the row's statement (the work); the ties are given (YtpdhfnmjpbiolaaGreatDoorTie.lean); close each card by the builder's one call (the guide's Derived/Test/ToyasCard.lean, 'card_holds'). Laid BY PROGRAM, IN A SANDBOX (cutbox-door.mjs). By AI agents, Wed Nov 11 2026. No macro, syntax, notation, axiom, sorry.
-/
import Derived.Test.YtpdhfnmjpbiolaaGreatDoorRows
import GoSem.ClaimSeven
namespace Go.Proofs.YtpdhfnmjpbiolaaGreatDoor
namespace Rows

/-- THE TIED CARD OF 'coillaw.BasketsPriced'. -/
def basketsPricedCard : Claim7 := { stood := { row := basketsPricedRow, standIns := [], harness := (true, "ca288d110a01feae80db26c700ad19af606ac06653151a173da28404672ad62c"), looks := false }, kinds := [], alts := [], laidByText := true, laidKinds := [.data, .pinned], laidTests := true, laidLooks := .later }
def BasketsPricedCardSaid : Prop := Claim7.holds Tryz.pinned (.plain (OpenSpec.ofChange basketsPricedSpec)) basketsPricedCard

/-- THE SECOND FORM's CARD OF 'coillaw.BasketsPriced'. -/
def basketsPricedUptoCard : Claim7 := { stood := { row := basketsPricedUptoRow, standIns := [], harness := (true, "ca288d110a01feae80db26c700ad19af606ac06653151a173da28404672ad62c"), looks := false }, kinds := [], alts := [], laidByText := true, laidKinds := [.data, .pinned], laidTests := true, laidLooks := .later }
def BasketsPricedUptoCardSaid : Prop := Claim7.holds Tryz.pinned (.plain (OpenSpec.upto basketsPricedSpec)) basketsPricedUptoCard
end Rows
end Go.Proofs.YtpdhfnmjpbiolaaGreatDoor
