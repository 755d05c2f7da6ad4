/-
  DERIVED. GIVEN WITH THE SEED: THE CARDS: each row of YtlofkdnjcneeiaaDoorRows.lean that lists a variable, with what it lists TIED to the program's text (the seventh form; the later family's looks); each row that meets fmt, with fmt's text TOLD by the authors' own Lean function (tested against real Go, not proved from fmt's source: count such statements apart). THE CARD IS WHAT COUNTS. Prove the row's statement (the work); the ties are given (YtlofkdnjcneeiaaDoorTie.lean); close each card by the builder's one call (the guide's Derived/Test/ToyasCard.lean, 'card_holds'). Laid BY PROGRAM, IN A SANDBOX (cutbox-door.mjs). By AI agents, Wed Nov 11 2026. No macro, syntax, notation, axiom, sorry.
-/
import Derived.Test.YtlofkdnjcneeiaaDoorRows
import GoSem.ClaimSeven
namespace Go.Proofs.YtlofkdnjcneeiaaDoor
namespace Rows

/-- THE TIED CARD OF 'coillaw.LayoutsStay'. -/
def layoutsStayCard : Claim7 := { stood := { row := layoutsStayRow, standIns := [], harness := (true, "0556bb7e6d20f6249bf8e741df732138cf59e7e109953fcb32cb06b82351be62"), looks := false }, kinds := [], alts := [], laidByText := true, laidKinds := [.data, .pinned], laidTests := true, laidLooks := .later }
def LayoutsStayCardSaid : Prop := Claim7.holds Tryd.pinned (.plain (OpenSpec.ofChange layoutsStaySpec)) layoutsStayCard

/-- THE SECOND FORM's CARD OF 'coillaw.LayoutsStay'. -/
def layoutsStayUptoCard : Claim7 := { stood := { row := layoutsStayUptoRow, standIns := [], harness := (true, "0556bb7e6d20f6249bf8e741df732138cf59e7e109953fcb32cb06b82351be62"), looks := false }, kinds := [], alts := [], laidByText := true, laidKinds := [.data, .pinned], laidTests := true, laidLooks := .later }
def LayoutsStayUptoCardSaid : Prop := Claim7.holds Tryd.pinned (.plain (OpenSpec.upto layoutsStaySpec)) layoutsStayUptoCard
end Rows
end Go.Proofs.YtlofkdnjcneeiaaDoor
