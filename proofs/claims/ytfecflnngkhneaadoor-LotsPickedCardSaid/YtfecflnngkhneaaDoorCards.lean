/-
  DERIVED. GIVEN WITH THE SEED: THE CARDS: each row of YtfecflnngkhneaaDoorRows.lean that lists a variable, with what it lists TIED to the program's text (the seventh form; the later family's looks); each row that meets fmt, with fmt's text TOLD by the authors' own Lean function (tested against real Go, not proved from fmt's source: count such statements apart). THE CARD IS WHAT COUNTS. Prove the row's statement (the work); the ties are given (YtfecflnngkhneaaDoorTie.lean); close each card by the builder's one call (the guide's Derived/Test/ToyasCard.lean, 'card_holds'). Laid BY PROGRAM, IN A SANDBOX (cutbox-door.mjs). By AI agents, Wed Nov 11 2026. No macro, syntax, notation, axiom, sorry.
-/
import Derived.Test.YtfecflnngkhneaaDoorRows
import GoSem.ClaimSeven
namespace Go.Proofs.YtfecflnngkhneaaDoor
namespace Rows

/-- THE TIED CARD OF 'coillaw.CoilsAge'. -/
def coilsAgeCard : Claim7 := { stood := { row := coilsAgeRow, standIns := [], harness := (true, "b12339cb7e206e316b478438c06da25118cb24c994310e5d4660bb63c5bfbc13"), looks := false }, kinds := [], alts := [], laidByText := true, laidKinds := [.data, .pinned], laidTests := true, laidLooks := .later }
def CoilsAgeCardSaid : Prop := Claim7.holds Tryd.pinned (.plain (OpenSpec.ofChange coilsAgeSpec)) coilsAgeCard

/-- THE TIED CARD OF 'coillaw.LotsPicked'. -/
def lotsPickedCard : Claim7 := { stood := { row := lotsPickedRow, standIns := [], harness := (true, "b12339cb7e206e316b478438c06da25118cb24c994310e5d4660bb63c5bfbc13"), looks := false }, kinds := [], alts := [], laidByText := true, laidKinds := [.data, .pinned], laidTests := true, laidLooks := .later }
def LotsPickedCardSaid : Prop := Claim7.holds Tryd.pinned (.plain (OpenSpec.ofChange lotsPickedSpec)) lotsPickedCard

/-- THE SECOND FORM's CARD OF 'coillaw.CoilsAge'. -/
def coilsAgeUptoCard : Claim7 := { stood := { row := coilsAgeUptoRow, standIns := [], harness := (true, "b12339cb7e206e316b478438c06da25118cb24c994310e5d4660bb63c5bfbc13"), looks := false }, kinds := [], alts := [], laidByText := true, laidKinds := [.data, .pinned], laidTests := true, laidLooks := .later }
def CoilsAgeUptoCardSaid : Prop := Claim7.holds Tryd.pinned (.plain (OpenSpec.upto coilsAgeSpec)) coilsAgeUptoCard

/-- THE SECOND FORM's CARD OF 'coillaw.LotsPicked'. -/
def lotsPickedUptoCard : Claim7 := { stood := { row := lotsPickedUptoRow, standIns := [], harness := (true, "b12339cb7e206e316b478438c06da25118cb24c994310e5d4660bb63c5bfbc13"), looks := false }, kinds := [], alts := [], laidByText := true, laidKinds := [.data, .pinned], laidTests := true, laidLooks := .later }
def LotsPickedUptoCardSaid : Prop := Claim7.holds Tryd.pinned (.plain (OpenSpec.upto lotsPickedSpec)) lotsPickedUptoCard
end Rows
end Go.Proofs.YtfecflnngkhneaaDoor
