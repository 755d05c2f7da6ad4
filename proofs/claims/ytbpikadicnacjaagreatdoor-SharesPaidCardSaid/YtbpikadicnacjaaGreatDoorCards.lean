/-
  DERIVED. GIVEN WITH THE SEED: THE CARDS: each row of YtbpikadicnacjaaGreatDoorRows.lean that lists a variable, with what it lists TIED to the program's text (the seventh form; the later family's looks); each row that meets fmt, with fmt's text TOLD by the authors' own Lean function (tested against real Go, not proved from fmt's source: count such statements apart). THE CARD IS WHAT COUNTS. Prove the row's statement (the work); the ties are given (YtbpikadicnacjaaGreatDoorTie.lean); close each card by the builder's one call (the guide's Derived/Test/ToyasCard.lean, 'card_holds'). Laid BY PROGRAM, IN A SANDBOX (cutbox-door.mjs). By AI agents, Wed Nov 11 2026. No macro, syntax, notation, axiom, sorry.
-/
import Derived.Test.YtbpikadicnacjaaGreatDoorRows
import GoSem.ClaimSeven
namespace Go.Proofs.YtbpikadicnacjaaGreatDoor
namespace Rows

/-- THE TIED CARD OF 'coillaw.SharesPaid'. -/
def sharesPaidCard : Claim7 := { stood := { row := sharesPaidRow, standIns := [], harness := (true, "99d0e183874d4bb2b4df2f2b6e897047383bff95ed8fb4b9c87ffb49374496a5"), looks := false }, kinds := [], alts := [], laidByText := true, laidKinds := [.data, .pinned], laidTests := true, laidLooks := .later }
def SharesPaidCardSaid : Prop := Claim7.holds Tryz.pinned (.plain (OpenSpec.ofChange sharesPaidSpec)) sharesPaidCard

/-- THE TIED CARD OF 'coillaw.BagsCounted'. -/
def bagsCountedCard : Claim7 := { stood := { row := bagsCountedRow, standIns := [], harness := (true, "99d0e183874d4bb2b4df2f2b6e897047383bff95ed8fb4b9c87ffb49374496a5"), looks := false }, kinds := [], alts := [], laidByText := true, laidKinds := [.data, .pinned], laidTests := true, laidLooks := .later }
def BagsCountedCardSaid : Prop := Claim7.holds Tryz.pinned (.plain (OpenSpec.ofChange bagsCountedSpec)) bagsCountedCard

/-- THE SECOND FORM's CARD OF 'coillaw.SharesPaid'. -/
def sharesPaidUptoCard : Claim7 := { stood := { row := sharesPaidUptoRow, standIns := [], harness := (true, "99d0e183874d4bb2b4df2f2b6e897047383bff95ed8fb4b9c87ffb49374496a5"), looks := false }, kinds := [], alts := [], laidByText := true, laidKinds := [.data, .pinned], laidTests := true, laidLooks := .later }
def SharesPaidUptoCardSaid : Prop := Claim7.holds Tryz.pinned (.plain (OpenSpec.upto sharesPaidSpec)) sharesPaidUptoCard

/-- THE SECOND FORM's CARD OF 'coillaw.BagsCounted'. -/
def bagsCountedUptoCard : Claim7 := { stood := { row := bagsCountedUptoRow, standIns := [], harness := (true, "99d0e183874d4bb2b4df2f2b6e897047383bff95ed8fb4b9c87ffb49374496a5"), looks := false }, kinds := [], alts := [], laidByText := true, laidKinds := [.data, .pinned], laidTests := true, laidLooks := .later }
def BagsCountedUptoCardSaid : Prop := Claim7.holds Tryz.pinned (.plain (OpenSpec.upto bagsCountedSpec)) bagsCountedUptoCard
end Rows
end Go.Proofs.YtbpikadicnacjaaGreatDoor
