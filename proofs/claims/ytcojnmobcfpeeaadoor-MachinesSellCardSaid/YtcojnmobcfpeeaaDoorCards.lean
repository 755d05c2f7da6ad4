/-
  DERIVED. GIVEN WITH THE SEED: THE CARDS: each row of YtcojnmobcfpeeaaDoorRows.lean that lists a variable, with what it lists TIED to the program's text (the seventh form; the later family's looks); each row that meets fmt, with fmt's text TOLD by the authors' own Lean function (tested against real Go, not proved from fmt's source: count such statements apart). THE CARD IS WHAT COUNTS. Prove the row's statement (the work); the ties are given (YtcojnmobcfpeeaaDoorTie.lean); close each card by the builder's one call (the guide's Derived/Test/ToyasCard.lean, 'card_holds'). Laid BY PROGRAM, IN A SANDBOX (cutbox-door.mjs). By AI agents, Wed Nov 11 2026. No macro, syntax, notation, axiom, sorry.
-/
import Derived.Test.YtcojnmobcfpeeaaDoorRows
import GoSem.ClaimSeven
namespace Go.Proofs.YtcojnmobcfpeeaaDoor
namespace Rows

/-- THE TIED CARD OF 'coillaw.MachinesSell'. -/
def machinesSellCard : Claim7 := { stood := { row := machinesSellRow, standIns := [], harness := (true, "508afacc9c9eb5cd10a73eea8cdd372353270d7ccd8f9224adfc4072c9740429"), looks := false }, kinds := [], alts := [], laidByText := true, laidKinds := [.data, .pinned], laidTests := true, laidLooks := .later }
def MachinesSellCardSaid : Prop := Claim7.holds Tryd.pinned (.plain (OpenSpec.ofChange machinesSellSpec)) machinesSellCard

/-- THE SECOND FORM's CARD OF 'coillaw.MachinesSell'. -/
def machinesSellUptoCard : Claim7 := { stood := { row := machinesSellUptoRow, standIns := [], harness := (true, "508afacc9c9eb5cd10a73eea8cdd372353270d7ccd8f9224adfc4072c9740429"), looks := false }, kinds := [], alts := [], laidByText := true, laidKinds := [.data, .pinned], laidTests := true, laidLooks := .later }
def MachinesSellUptoCardSaid : Prop := Claim7.holds Tryd.pinned (.plain (OpenSpec.upto machinesSellSpec)) machinesSellUptoCard
end Rows
end Go.Proofs.YtcojnmobcfpeeaaDoor
