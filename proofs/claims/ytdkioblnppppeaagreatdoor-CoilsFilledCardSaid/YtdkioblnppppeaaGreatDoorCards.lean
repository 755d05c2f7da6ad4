/-
  DERIVED. GIVEN WITH THE SEED: THE CARDS: each row of YtdkioblnppppeaaGreatDoorRows.lean that lists a variable, with what it lists TIED to the program's text (the seventh form; the later family's looks); each row that meets fmt, with fmt's text TOLD by the authors' own Lean function (tested against real Go, not proved from fmt's source: count such statements apart). THE CARD IS WHAT COUNTS. Prove the row's statement (the work); the ties are given (YtdkioblnppppeaaGreatDoorTie.lean); close each card by the builder's one call (the guide's Derived/Test/ToyasCard.lean, 'card_holds'). Laid BY PROGRAM, IN A SANDBOX (cutbox-door.mjs). By AI agents, Wed Nov 11 2026. No macro, syntax, notation, axiom, sorry.
-/
import Derived.Test.YtdkioblnppppeaaGreatDoorRows
import GoSem.ClaimSeven
namespace Go.Proofs.YtdkioblnppppeaaGreatDoor
namespace Rows

/-- THE TIED CARD OF 'coillaw.CoilsFilled'. -/
def coilsFilledCard : Claim7 := { stood := { row := coilsFilledRow, standIns := [], harness := (true, "d4346a844f78472b3d62f5592a1060367b7578b7a4119ff1e9f2ddfa2c3c0920"), looks := false }, kinds := [], alts := [], laidByText := true, laidKinds := [.data, .pinned], laidTests := true, laidLooks := .later }
def CoilsFilledCardSaid : Prop := Claim7.holds Tryz.pinned (.plain (OpenSpec.ofChange coilsFilledSpec)) coilsFilledCard

/-- THE SECOND FORM's CARD OF 'coillaw.CoilsFilled'. -/
def coilsFilledUptoCard : Claim7 := { stood := { row := coilsFilledUptoRow, standIns := [], harness := (true, "d4346a844f78472b3d62f5592a1060367b7578b7a4119ff1e9f2ddfa2c3c0920"), looks := false }, kinds := [], alts := [], laidByText := true, laidKinds := [.data, .pinned], laidTests := true, laidLooks := .later }
def CoilsFilledUptoCardSaid : Prop := Claim7.holds Tryz.pinned (.plain (OpenSpec.upto coilsFilledSpec)) coilsFilledUptoCard
end Rows
end Go.Proofs.YtdkioblnppppeaaGreatDoor
