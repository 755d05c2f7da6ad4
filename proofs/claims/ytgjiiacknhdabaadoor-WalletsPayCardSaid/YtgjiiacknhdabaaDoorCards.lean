/-
  DERIVED. GIVEN WITH THE SEED: THE CARDS: each row of YtgjiiacknhdabaaDoorRows.lean that lists a variable, with what it lists TIED to the program's text (the seventh form; the later family's looks); each row that meets fmt, with fmt's text TOLD by the authors' own Lean function (tested against real Go, not proved from fmt's source: count such statements apart). THE CARD IS WHAT COUNTS. Prove the row's statement (the work); the ties are given (YtgjiiacknhdabaaDoorTie.lean); close each card by the builder's one call (the guide's Derived/Test/ToyasCard.lean, 'card_holds'). Laid BY PROGRAM, IN A SANDBOX (cutbox-door.mjs). By AI agents, Wed Nov 11 2026. No macro, syntax, notation, axiom, sorry.
-/
import Derived.Test.YtgjiiacknhdabaaDoorRows
import GoSem.ClaimSeven
namespace Go.Proofs.YtgjiiacknhdabaaDoor
namespace Rows

/-- THE TIED CARD OF 'coillaw.WalletsMerged'. -/
def walletsMergedCard : Claim7 := { stood := { row := walletsMergedRow, standIns := [], harness := (true, "691a64d4fb0e62ba78facdf34a2f57239b882992ed8a240e49841acd827f0be8"), looks := false }, kinds := [], alts := [], laidByText := true, laidKinds := [.data, .pinned], laidTests := true, laidLooks := .later }
def WalletsMergedCardSaid : Prop := Claim7.holds Tryd.pinned (.plain (OpenSpec.ofChange walletsMergedSpec)) walletsMergedCard

/-- THE TIED CARD OF 'coillaw.WalletsPay'. -/
def walletsPayCard : Claim7 := { stood := { row := walletsPayRow, standIns := [], harness := (true, "691a64d4fb0e62ba78facdf34a2f57239b882992ed8a240e49841acd827f0be8"), looks := false }, kinds := [], alts := [], laidByText := true, laidKinds := [.data, .pinned], laidTests := true, laidLooks := .later }
def WalletsPayCardSaid : Prop := Claim7.holds Tryd.pinned (.plain (OpenSpec.ofChange walletsPaySpec)) walletsPayCard

/-- THE SECOND FORM's CARD OF 'coillaw.WalletsMerged'. -/
def walletsMergedUptoCard : Claim7 := { stood := { row := walletsMergedUptoRow, standIns := [], harness := (true, "691a64d4fb0e62ba78facdf34a2f57239b882992ed8a240e49841acd827f0be8"), looks := false }, kinds := [], alts := [], laidByText := true, laidKinds := [.data, .pinned], laidTests := true, laidLooks := .later }
def WalletsMergedUptoCardSaid : Prop := Claim7.holds Tryd.pinned (.plain (OpenSpec.upto walletsMergedSpec)) walletsMergedUptoCard

/-- THE SECOND FORM's CARD OF 'coillaw.WalletsPay'. -/
def walletsPayUptoCard : Claim7 := { stood := { row := walletsPayUptoRow, standIns := [], harness := (true, "691a64d4fb0e62ba78facdf34a2f57239b882992ed8a240e49841acd827f0be8"), looks := false }, kinds := [], alts := [], laidByText := true, laidKinds := [.data, .pinned], laidTests := true, laidLooks := .later }
def WalletsPayUptoCardSaid : Prop := Claim7.holds Tryd.pinned (.plain (OpenSpec.upto walletsPaySpec)) walletsPayUptoCard
end Rows
end Go.Proofs.YtgjiiacknhdabaaDoor
