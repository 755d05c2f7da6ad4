/-
  DERIVED. GIVEN WITH THE SEED: THE CARDS: each row of YtflfdomajimpjaaDoorRows.lean that lists a variable, with what it lists TIED to the program's text (the seventh form; the later family's looks); each row that meets fmt, with fmt's text TOLD by the authors' own Lean function (tested against real Go, not proved from fmt's source: count such statements apart). THE CARD IS WHAT COUNTS. Prove the row's statement (the work); the ties are given (YtflfdomajimpjaaDoorTie.lean); close each card by the builder's one call (the guide's Derived/Test/ToyasCard.lean, 'card_holds'). Laid BY PROGRAM, IN A SANDBOX (cutbox-door.mjs). By AI agents, Wed Nov 11 2026. No macro, syntax, notation, axiom, sorry.
-/
import Derived.Test.YtflfdomajimpjaaDoorRows
import GoSem.ClaimSeven
namespace Go.Proofs.YtflfdomajimpjaaDoor
namespace Rows

/-- THE TIED CARD OF 'coillaw.RoutesBest'. -/
def routesBestCard : Claim7 := { stood := { row := routesBestRow, standIns := [], harness := (true, "592a4587e7542ed5853ec9de7db8d2b5bff122399e3162471ed57593bae32c57"), looks := false }, kinds := [], alts := [], laidByText := true, laidKinds := [.data, .pinned], laidTests := true, laidLooks := .later }
def RoutesBestCardSaid : Prop := Claim7.holds Tryd.pinned (.plain (OpenSpec.ofChange routesBestSpec)) routesBestCard

/-- THE TIED CARD OF 'coillaw.RoutesImproved'. -/
def routesImprovedCard : Claim7 := { stood := { row := routesImprovedRow, standIns := [], harness := (true, "592a4587e7542ed5853ec9de7db8d2b5bff122399e3162471ed57593bae32c57"), looks := false }, kinds := [], alts := [], laidByText := true, laidKinds := [.data, .pinned], laidTests := true, laidLooks := .later }
def RoutesImprovedCardSaid : Prop := Claim7.holds Tryd.pinned (.plain (OpenSpec.ofChange routesImprovedSpec)) routesImprovedCard

/-- THE TIED CARD OF 'coillaw.RoutesDriven'. -/
def routesDrivenCard : Claim7 := { stood := { row := routesDrivenRow, standIns := [], harness := (true, "592a4587e7542ed5853ec9de7db8d2b5bff122399e3162471ed57593bae32c57"), looks := false }, kinds := [], alts := [], laidByText := true, laidKinds := [.data, .data, .data, .data, .pinned], laidTests := true, laidLooks := .later }
def RoutesDrivenCardSaid : Prop := Claim7.holds Tryd.pinned (.plain (OpenSpec.ofChange routesDrivenSpec)) routesDrivenCard

/-- THE SECOND FORM's CARD OF 'coillaw.RoutesBest'. -/
def routesBestUptoCard : Claim7 := { stood := { row := routesBestUptoRow, standIns := [], harness := (true, "592a4587e7542ed5853ec9de7db8d2b5bff122399e3162471ed57593bae32c57"), looks := false }, kinds := [], alts := [], laidByText := true, laidKinds := [.data, .pinned], laidTests := true, laidLooks := .later }
def RoutesBestUptoCardSaid : Prop := Claim7.holds Tryd.pinned (.plain (OpenSpec.upto routesBestSpec)) routesBestUptoCard

/-- THE SECOND FORM's CARD OF 'coillaw.RoutesImproved'. -/
def routesImprovedUptoCard : Claim7 := { stood := { row := routesImprovedUptoRow, standIns := [], harness := (true, "592a4587e7542ed5853ec9de7db8d2b5bff122399e3162471ed57593bae32c57"), looks := false }, kinds := [], alts := [], laidByText := true, laidKinds := [.data, .pinned], laidTests := true, laidLooks := .later }
def RoutesImprovedUptoCardSaid : Prop := Claim7.holds Tryd.pinned (.plain (OpenSpec.upto routesImprovedSpec)) routesImprovedUptoCard

/-- THE SECOND FORM's CARD OF 'coillaw.RoutesDriven'. -/
def routesDrivenUptoCard : Claim7 := { stood := { row := routesDrivenUptoRow, standIns := [], harness := (true, "592a4587e7542ed5853ec9de7db8d2b5bff122399e3162471ed57593bae32c57"), looks := false }, kinds := [], alts := [], laidByText := true, laidKinds := [.data, .data, .data, .data, .pinned], laidTests := true, laidLooks := .later }
def RoutesDrivenUptoCardSaid : Prop := Claim7.holds Tryd.pinned (.plain (OpenSpec.upto routesDrivenSpec)) routesDrivenUptoCard
end Rows
end Go.Proofs.YtflfdomajimpjaaDoor
