/-
  DERIVED. GIVEN WITH THE SEED: THE CARDS: each row of YtjonpkaojmpmiaaDoorRows.lean that lists a variable, with what it lists TIED to the program's text (the seventh form; the later family's looks); each row that meets fmt, with fmt's text TOLD by the authors' own Lean function (tested against real Go, not proved from fmt's source: count such statements apart). THE CARD IS WHAT COUNTS. Prove the row's statement (the work); the ties are given (YtjonpkaojmpmiaaDoorTie.lean); close each card by the builder's one call (the guide's Derived/Test/ToyasCard.lean, 'card_holds'). Laid BY PROGRAM, IN A SANDBOX (cutbox-door.mjs). By AI agents, Wed Nov 11 2026. No macro, syntax, notation, axiom, sorry.
-/
import Derived.Test.YtjonpkaojmpmiaaDoorRows
import GoSem.ClaimSeven
namespace Go.Proofs.YtjonpkaojmpmiaaDoor
namespace Rows

/-- THE TIED CARD OF 'coillaw.LayoutsWritten'. -/
def layoutsWrittenCard : Claim7 := { stood := { row := layoutsWrittenRow, standIns := [], harness := (true, "7c85db97d01b92e36086b3c949672ede072ed5b859f1e7b1169b8b0deb07ad55"), looks := false }, kinds := [], alts := [], laidByText := true, laidKinds := [.data, .pinned], laidTests := true, laidLooks := .later }
def LayoutsWrittenCardSaid : Prop := Claim7.holds Tryd.pinned (.plain (OpenSpec.ofChange layoutsWrittenSpec)) layoutsWrittenCard

/-- THE SECOND FORM's CARD OF 'coillaw.LayoutsWritten'. -/
def layoutsWrittenUptoCard : Claim7 := { stood := { row := layoutsWrittenUptoRow, standIns := [], harness := (true, "7c85db97d01b92e36086b3c949672ede072ed5b859f1e7b1169b8b0deb07ad55"), looks := false }, kinds := [], alts := [], laidByText := true, laidKinds := [.data, .pinned], laidTests := true, laidLooks := .later }
def LayoutsWrittenUptoCardSaid : Prop := Claim7.holds Tryd.pinned (.plain (OpenSpec.upto layoutsWrittenSpec)) layoutsWrittenUptoCard
end Rows
end Go.Proofs.YtjonpkaojmpmiaaDoor
