/-
  DERIVED. GIVEN WITH THE SEED: THE CARDS: each row of YtlaemkjeagpbnaaDoorRows.lean that lists a variable, with what it lists TIED to the program's text (the seventh form; the later family's looks); each row that meets fmt, with fmt's text TOLD by the authors' own Lean function (tested against real Go, not proved from fmt's source: count such statements apart). THE CARD IS WHAT COUNTS. Prove the row's statement (the work); the ties are given (YtlaemkjeagpbnaaDoorTie.lean); close each card by the builder's one call (the guide's Derived/Test/ToyasCard.lean, 'card_holds'). Laid BY PROGRAM, IN A SANDBOX (cutbox-door.mjs). By AI agents, Wed Nov 11 2026. No macro, syntax, notation, axiom, sorry.
-/
import Derived.Test.YtlaemkjeagpbnaaDoorRows
import GoSem.ClaimSeven
namespace Go.Proofs.YtlaemkjeagpbnaaDoor
namespace Rows

/-- THE TIED CARD OF 'coillaw.LayoutsStay'. -/
def layoutsStayCard : Claim7 := { stood := { row := layoutsStayRow, standIns := [], harness := (true, "74f0850b2ab1c5ffb4c49614d70ebf2926498259cb6a28d7c77ac665f9a52589"), looks := false }, kinds := [], alts := [], laidByText := true, laidKinds := [.data, .pinned], laidTests := true, laidLooks := .later }
def LayoutsStayCardSaid : Prop := Claim7.holds Tryd.pinned (.plain (OpenSpec.ofChange layoutsStaySpec)) layoutsStayCard

/-- THE TIED CARD OF 'coillaw.LayoutsArranged'. -/
def layoutsArrangedCard : Claim7 := { stood := { row := layoutsArrangedRow, standIns := [], harness := (true, "74f0850b2ab1c5ffb4c49614d70ebf2926498259cb6a28d7c77ac665f9a52589"), looks := false }, kinds := [], alts := [], laidByText := true, laidKinds := [.data, .pinned], laidTests := true, laidLooks := .later }
def LayoutsArrangedCardSaid : Prop := Claim7.holds Tryd.pinned (.plain (OpenSpec.ofChange layoutsArrangedSpec)) layoutsArrangedCard

/-- THE SECOND FORM's CARD OF 'coillaw.LayoutsStay'. -/
def layoutsStayUptoCard : Claim7 := { stood := { row := layoutsStayUptoRow, standIns := [], harness := (true, "74f0850b2ab1c5ffb4c49614d70ebf2926498259cb6a28d7c77ac665f9a52589"), looks := false }, kinds := [], alts := [], laidByText := true, laidKinds := [.data, .pinned], laidTests := true, laidLooks := .later }
def LayoutsStayUptoCardSaid : Prop := Claim7.holds Tryd.pinned (.plain (OpenSpec.upto layoutsStaySpec)) layoutsStayUptoCard

/-- THE SECOND FORM's CARD OF 'coillaw.LayoutsArranged'. -/
def layoutsArrangedUptoCard : Claim7 := { stood := { row := layoutsArrangedUptoRow, standIns := [], harness := (true, "74f0850b2ab1c5ffb4c49614d70ebf2926498259cb6a28d7c77ac665f9a52589"), looks := false }, kinds := [], alts := [], laidByText := true, laidKinds := [.data, .pinned], laidTests := true, laidLooks := .later }
def LayoutsArrangedUptoCardSaid : Prop := Claim7.holds Tryd.pinned (.plain (OpenSpec.upto layoutsArrangedSpec)) layoutsArrangedUptoCard
end Rows
end Go.Proofs.YtlaemkjeagpbnaaDoor
