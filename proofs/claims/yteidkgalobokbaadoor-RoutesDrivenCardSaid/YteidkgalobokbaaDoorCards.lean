/-
  DERIVED. GIVEN WITH THE SEED: THE CARDS: each row of YteidkgalobokbaaDoorRows.lean that lists a variable, with what it lists TIED to the program's text (the seventh form; the later family's looks); each row that meets fmt, with fmt's text TOLD by the authors' own Lean function (tested against real Go, not proved from fmt's source: count such statements apart). THE CARD IS WHAT COUNTS. Prove the row's statement (the work); the ties are given (YteidkgalobokbaaDoorTie.lean); close each card by the builder's one call (the guide's Derived/Test/ToyasCard.lean, 'card_holds'). Laid BY PROGRAM, IN A SANDBOX (cutbox-door.mjs). By AI agents, Wed Nov 11 2026. No macro, syntax, notation, axiom, sorry.
-/
import Derived.Test.YteidkgalobokbaaDoorRows
import GoSem.ClaimSeven
namespace Go.Proofs.YteidkgalobokbaaDoor
namespace Rows

/-- THE TIED CARD OF 'coillaw.RoutesDriven'. -/
def routesDrivenCard : Claim7 := { stood := { row := routesDrivenRow, standIns := [], harness := (true, "b38b07e525ff5a3ce86e1a4fa0cecfd2e515c65f1726916e06b56ec77e5799f8"), looks := false }, kinds := [], alts := [], laidByText := true, laidKinds := [.data, .data, .data, .data, .pinned], laidTests := true, laidLooks := .later }
def RoutesDrivenCardSaid : Prop := Claim7.holds Tryd.pinned (.plain (OpenSpec.ofChange routesDrivenSpec)) routesDrivenCard

/-- THE SECOND FORM's CARD OF 'coillaw.RoutesDriven'. -/
def routesDrivenUptoCard : Claim7 := { stood := { row := routesDrivenUptoRow, standIns := [], harness := (true, "b38b07e525ff5a3ce86e1a4fa0cecfd2e515c65f1726916e06b56ec77e5799f8"), looks := false }, kinds := [], alts := [], laidByText := true, laidKinds := [.data, .data, .data, .data, .pinned], laidTests := true, laidLooks := .later }
def RoutesDrivenUptoCardSaid : Prop := Claim7.holds Tryd.pinned (.plain (OpenSpec.upto routesDrivenSpec)) routesDrivenUptoCard
end Rows
end Go.Proofs.YteidkgalobokbaaDoor
