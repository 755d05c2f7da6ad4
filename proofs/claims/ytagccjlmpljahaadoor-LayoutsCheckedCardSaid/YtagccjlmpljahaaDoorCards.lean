/-
  DERIVED. GIVEN WITH THE SEED: THE CARDS: each row of YtagccjlmpljahaaDoorRows.lean that lists a variable, with what it lists TIED to the program's text (the seventh form; the later family's looks); each row that meets fmt, with fmt's text TOLD by the authors' own Lean function (tested against real Go, not proved from fmt's source: count such statements apart). THE CARD IS WHAT COUNTS. Prove the row's statement (the work); the ties are given (YtagccjlmpljahaaDoorTie.lean); close each card by the builder's one call (the guide's Derived/Test/ToyasCard.lean, 'card_holds'). Laid BY PROGRAM, IN A SANDBOX (cutbox-door.mjs). By AI agents, Wed Nov 11 2026. No macro, syntax, notation, axiom, sorry.
-/
import Derived.Test.YtagccjlmpljahaaDoorRows
import GoSem.ClaimSeven
namespace Go.Proofs.YtagccjlmpljahaaDoor
namespace Rows

/-- THE TIED CARD OF 'coillaw.LayoutsStay'. -/
def layoutsStayCard : Claim7 := { stood := { row := layoutsStayRow, standIns := [], harness := (true, "6333e24157229c9842500831bc94440a5d86ca90c383610d27c1f6d1d56ac48a"), looks := false }, kinds := [], alts := [], laidByText := true, laidKinds := [.data, .pinned], laidTests := true, laidLooks := .later }
def LayoutsStayCardSaid : Prop := Claim7.holds Tryd.pinned (.plain (OpenSpec.ofChange layoutsStaySpec)) layoutsStayCard

/-- THE TIED CARD OF 'coillaw.LayoutsChecked'. -/
def layoutsCheckedCard : Claim7 := { stood := { row := layoutsCheckedRow, standIns := [], harness := (true, "6333e24157229c9842500831bc94440a5d86ca90c383610d27c1f6d1d56ac48a"), looks := false }, kinds := [], alts := [], laidByText := true, laidKinds := [.data, .pinned], laidTests := true, laidLooks := .later }
def LayoutsCheckedCardSaid : Prop := Claim7.holds Tryd.pinned (.plain (OpenSpec.ofChange layoutsCheckedSpec)) layoutsCheckedCard

/-- THE TIED CARD OF 'coillaw.LayoutsArranged'. -/
def layoutsArrangedCard : Claim7 := { stood := { row := layoutsArrangedRow, standIns := [], harness := (true, "6333e24157229c9842500831bc94440a5d86ca90c383610d27c1f6d1d56ac48a"), looks := false }, kinds := [], alts := [], laidByText := true, laidKinds := [.data, .pinned], laidTests := true, laidLooks := .later }
def LayoutsArrangedCardSaid : Prop := Claim7.holds Tryd.pinned (.plain (OpenSpec.ofChange layoutsArrangedSpec)) layoutsArrangedCard

/-- THE TIED CARD OF 'coillaw.LayoutsWritten'. -/
def layoutsWrittenCard : Claim7 := { stood := { row := layoutsWrittenRow, standIns := [], harness := (true, "6333e24157229c9842500831bc94440a5d86ca90c383610d27c1f6d1d56ac48a"), looks := false }, kinds := [], alts := [], laidByText := true, laidKinds := [.data, .pinned], laidTests := true, laidLooks := .later }
def LayoutsWrittenCardSaid : Prop := Claim7.holds Tryd.pinned (.plain (OpenSpec.ofChange layoutsWrittenSpec)) layoutsWrittenCard

/-- THE SECOND FORM's CARD OF 'coillaw.LayoutsStay'. -/
def layoutsStayUptoCard : Claim7 := { stood := { row := layoutsStayUptoRow, standIns := [], harness := (true, "6333e24157229c9842500831bc94440a5d86ca90c383610d27c1f6d1d56ac48a"), looks := false }, kinds := [], alts := [], laidByText := true, laidKinds := [.data, .pinned], laidTests := true, laidLooks := .later }
def LayoutsStayUptoCardSaid : Prop := Claim7.holds Tryd.pinned (.plain (OpenSpec.upto layoutsStaySpec)) layoutsStayUptoCard

/-- THE SECOND FORM's CARD OF 'coillaw.LayoutsChecked'. -/
def layoutsCheckedUptoCard : Claim7 := { stood := { row := layoutsCheckedUptoRow, standIns := [], harness := (true, "6333e24157229c9842500831bc94440a5d86ca90c383610d27c1f6d1d56ac48a"), looks := false }, kinds := [], alts := [], laidByText := true, laidKinds := [.data, .pinned], laidTests := true, laidLooks := .later }
def LayoutsCheckedUptoCardSaid : Prop := Claim7.holds Tryd.pinned (.plain (OpenSpec.upto layoutsCheckedSpec)) layoutsCheckedUptoCard

/-- THE SECOND FORM's CARD OF 'coillaw.LayoutsArranged'. -/
def layoutsArrangedUptoCard : Claim7 := { stood := { row := layoutsArrangedUptoRow, standIns := [], harness := (true, "6333e24157229c9842500831bc94440a5d86ca90c383610d27c1f6d1d56ac48a"), looks := false }, kinds := [], alts := [], laidByText := true, laidKinds := [.data, .pinned], laidTests := true, laidLooks := .later }
def LayoutsArrangedUptoCardSaid : Prop := Claim7.holds Tryd.pinned (.plain (OpenSpec.upto layoutsArrangedSpec)) layoutsArrangedUptoCard

/-- THE SECOND FORM's CARD OF 'coillaw.LayoutsWritten'. -/
def layoutsWrittenUptoCard : Claim7 := { stood := { row := layoutsWrittenUptoRow, standIns := [], harness := (true, "6333e24157229c9842500831bc94440a5d86ca90c383610d27c1f6d1d56ac48a"), looks := false }, kinds := [], alts := [], laidByText := true, laidKinds := [.data, .pinned], laidTests := true, laidLooks := .later }
def LayoutsWrittenUptoCardSaid : Prop := Claim7.holds Tryd.pinned (.plain (OpenSpec.upto layoutsWrittenSpec)) layoutsWrittenUptoCard
end Rows
end Go.Proofs.YtagccjlmpljahaaDoor
