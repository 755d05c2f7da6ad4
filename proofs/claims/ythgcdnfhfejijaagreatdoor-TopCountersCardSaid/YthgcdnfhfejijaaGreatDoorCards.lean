/-
  DERIVED. GIVEN WITH THE SEED: THE CARDS: each row of YthgcdnfhfejijaaGreatDoorRows.lean that lists a variable, with what it lists TIED to the program's text (the seventh form; the later family's looks); each row that meets fmt, with fmt's text TOLD by the authors' own Lean function (tested against real Go, not proved from fmt's source: count such statements apart). THE CARD IS WHAT COUNTS. Prove the row's statement (the work); the ties are given (YthgcdnfhfejijaaGreatDoorTie.lean); close each card by the builder's one call (the guide's Derived/Test/ToyasCard.lean, 'card_holds'). Laid BY PROGRAM, IN A SANDBOX (cutbox-door.mjs). By AI agents, Wed Nov 11 2026. No macro, syntax, notation, axiom, sorry.
-/
import Derived.Test.YthgcdnfhfejijaaGreatDoorRows
import GoSem.ClaimSeven
namespace Go.Proofs.YthgcdnfhfejijaaGreatDoor
namespace Rows

/-- THE TIED CARD OF 'coiltop.TopCounters'. -/
def topCountersCard : Claim7 := { stood := { row := topCountersRow, standIns := [], harness := (true, "edc0c76e0defad5eec3f59ed65aa96bc0b4755e2b0e4bdf64aed30c3101ada4a"), looks := true }, kinds := [], alts := [], laidByText := true, laidKinds := [.data, .data, .data, .data, .sentinel, .sentinel, .pinned], laidTests := true, laidLooks := .later }
def TopCountersCardSaid : Prop := Claim7.holds Tryz.pinned (.plain (OpenSpec.ofChange topCountersSpec)) topCountersCard

/-- THE SECOND FORM's CARD OF 'coiltop.TopCounters'. -/
def topCountersUptoCard : Claim7 := { stood := { row := topCountersUptoRow, standIns := [], harness := (true, "edc0c76e0defad5eec3f59ed65aa96bc0b4755e2b0e4bdf64aed30c3101ada4a"), looks := true }, kinds := [], alts := [], laidByText := true, laidKinds := [.data, .data, .data, .data, .sentinel, .sentinel, .pinned], laidTests := true, laidLooks := .later }
def TopCountersUptoCardSaid : Prop := Claim7.holds Tryz.pinned (.plain (OpenSpec.upto topCountersSpec)) topCountersUptoCard
end Rows
end Go.Proofs.YthgcdnfhfejijaaGreatDoor
