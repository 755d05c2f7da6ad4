/-
  No cell of these rows narrows 'for every input' (looked for: loops, veiled, ifaces, maps, wideKeys, modest, calm, conditions, laid).
  DERIVED. THE GIVEN ROWS OF THIS SEAT. 5 by the template 'for every input the law returns true; each argument reads behind the call as it read before'; 0 by the template 'total and deterministic' (their statements: YtnhnmjgjmlmahaaTotals.lean).
  GIVEN WITH THE SEED: the statements are not yours to turn. If you find one false, say at which input.
  Laid BY PROGRAM, IN A SANDBOX (cutbox-rows.mjs): the forced cells as the released guide's own fill.sh prints them over the translation 18643d7bd6a8ddfc… (all of the seat's roots in one cut). By AI agents, Wed Nov 11 2026. No macro, syntax, notation, axiom, sorry.
-/
import Derived.Test.YtnhnmjgjmlmahaaChecked
import GoSem.Claim
import GoSem.ClaimJoined
import GoSem.ClaimMapViews
import Derived.JoinedTies
import Derived.KernelRfl
namespace Go.Proofs.Ytnhnmjgjmlmahaa
/- THE CELL 'sum', in the pinned program and in every row, IS THE sha256 OF THE DUMP (.gsa) THAT YtnhnmjgjmlmahaaProg.lean LOADS. Nothing in Lean hashes anything: it is a label: what it is worth is what the hold of that sum in a sandbox is worth. -/
noncomputable def Try.pinned : Pinned := { name := "ytnhnmjgjmlmahaa", sum := "18643d7bd6a8ddfc07d7c676140652fdac16491497bdf519aedf7f353dd9f809", checked := Try.checked }
namespace Rows
def none {H : Type} : Left H := { results := [], args := [] }

/-- 'coillaw.RatesFound': WHATEVER THE INPUT: true; the input reads as it did. -/
def ratesFoundSpec : ChangeSpec := { name := "ratesFound", fn := fun _ => fun
  | [d] => { results := [.lit (.bool true)], args := [d] }
  | _ => none }
def ratesFoundRow : OpenClaim := { program := "ytnhnmjgjmlmahaa", sum := "18643d7bd6a8ddfc07d7c676140652fdac16491497bdf519aedf7f353dd9f809", func := "coilrack/coillaw.RatesFound", spec := "ratesFound", unfollowed := true, recurses := true, apart := false }
def RatesFoundSaid : Prop := ratesFoundRow.holds Try.pinned (OpenSpec.ofChange ratesFoundSpec)

/-- ITS FALSE NEIGHBOUR: 'it returns false'. Refute it at one input. -/
def ratesFoundWrong : ChangeSpec := { name := "ratesFound", fn := fun _ => fun
  | [d] => { results := [.lit (.bool false)], args := [d] }
  | _ => none }
def RatesFoundWrongFalsely : Prop := ratesFoundRow.holds Try.pinned (OpenSpec.ofChange ratesFoundWrong)

/-- 'coillaw.DaysSmoothed': WHATEVER THE INPUT: true; the input reads as it did. -/
def daysSmoothedSpec : ChangeSpec := { name := "daysSmoothed", fn := fun _ => fun
  | [d] => { results := [.lit (.bool true)], args := [d] }
  | _ => none }
def daysSmoothedRow : OpenClaim := { program := "ytnhnmjgjmlmahaa", sum := "18643d7bd6a8ddfc07d7c676140652fdac16491497bdf519aedf7f353dd9f809", func := "coilrack/coillaw.DaysSmoothed", spec := "daysSmoothed", unfollowed := true, recurses := true, apart := false }
def DaysSmoothedSaid : Prop := daysSmoothedRow.holds Try.pinned (OpenSpec.ofChange daysSmoothedSpec)

/-- ITS FALSE NEIGHBOUR: 'it returns false'. Refute it at one input. -/
def daysSmoothedWrong : ChangeSpec := { name := "daysSmoothed", fn := fun _ => fun
  | [d] => { results := [.lit (.bool false)], args := [d] }
  | _ => none }
def DaysSmoothedWrongFalsely : Prop := daysSmoothedRow.holds Try.pinned (OpenSpec.ofChange daysSmoothedWrong)

/-- 'coillaw.LoadsChosen': WHATEVER THE INPUT: true; the input reads as it did. -/
def loadsChosenSpec : ChangeSpec := { name := "loadsChosen", fn := fun _ => fun
  | [d] => { results := [.lit (.bool true)], args := [d] }
  | _ => none }
def loadsChosenRow : OpenClaim := { program := "ytnhnmjgjmlmahaa", sum := "18643d7bd6a8ddfc07d7c676140652fdac16491497bdf519aedf7f353dd9f809", func := "coilrack/coillaw.LoadsChosen", spec := "loadsChosen", unfollowed := true, recurses := true, apart := false }
def LoadsChosenSaid : Prop := loadsChosenRow.holds Try.pinned (OpenSpec.ofChange loadsChosenSpec)

/-- ITS FALSE NEIGHBOUR: 'it returns false'. Refute it at one input. -/
def loadsChosenWrong : ChangeSpec := { name := "loadsChosen", fn := fun _ => fun
  | [d] => { results := [.lit (.bool false)], args := [d] }
  | _ => none }
def LoadsChosenWrongFalsely : Prop := loadsChosenRow.holds Try.pinned (OpenSpec.ofChange loadsChosenWrong)

/-- 'coillaw.TakenInstead': WHATEVER THE INPUT: true; the input reads as it did. -/
def takenInsteadSpec : ChangeSpec := { name := "takenInstead", fn := fun _ => fun
  | [d] => { results := [.lit (.bool true)], args := [d] }
  | _ => none }
def takenInsteadRow : OpenClaim := { program := "ytnhnmjgjmlmahaa", sum := "18643d7bd6a8ddfc07d7c676140652fdac16491497bdf519aedf7f353dd9f809", func := "coilrack/coillaw.TakenInstead", spec := "takenInstead", unfollowed := true, recurses := true, apart := false }
def TakenInsteadSaid : Prop := takenInsteadRow.holds Try.pinned (OpenSpec.ofChange takenInsteadSpec)

/-- ITS FALSE NEIGHBOUR: 'it returns false'. Refute it at one input. -/
def takenInsteadWrong : ChangeSpec := { name := "takenInstead", fn := fun _ => fun
  | [d] => { results := [.lit (.bool false)], args := [d] }
  | _ => none }
def TakenInsteadWrongFalsely : Prop := takenInsteadRow.holds Try.pinned (OpenSpec.ofChange takenInsteadWrong)

/-- 'coillaw.HistogramsAdded': WHATEVER THE INPUT: true; the input reads as it did. -/
def histogramsAddedSpec : ChangeSpec := { name := "histogramsAdded", fn := fun _ => fun
  | [d] => { results := [.lit (.bool true)], args := [d] }
  | _ => none }
def histogramsAddedRow : OpenClaim := { program := "ytnhnmjgjmlmahaa", sum := "18643d7bd6a8ddfc07d7c676140652fdac16491497bdf519aedf7f353dd9f809", func := "coilrack/coillaw.HistogramsAdded", spec := "histogramsAdded", unfollowed := true, recurses := true, apart := false }
def HistogramsAddedSaid : Prop := histogramsAddedRow.holds Try.pinned (OpenSpec.ofChange histogramsAddedSpec)

/-- ITS FALSE NEIGHBOUR: 'it returns false'. Refute it at one input. -/
def histogramsAddedWrong : ChangeSpec := { name := "histogramsAdded", fn := fun _ => fun
  | [d] => { results := [.lit (.bool false)], args := [d] }
  | _ => none }
def HistogramsAddedWrongFalsely : Prop := histogramsAddedRow.holds Try.pinned (OpenSpec.ofChange histogramsAddedWrong)

/- THE SECOND FORM. 'bulk': how many values and letters a reading holds, each counted each time it is reached (what is shared counts as often as it is met; a slice's spare places count too). A statement '..UptoSaid' is the law's where the arguments, and the package variables that the reading takes, are together of bulk at most 1048576: NARROWER than '..Said'. Prove '..Said' where nothing that the law and all that it calls make is longer than what came in: it says more and counts as full. Else prove '..UptoSaid'. A law counts once. -/
mutual
def uptoBulk {H : Type} : DataW H → Nat
  | .lit (.string bytes) => bytes.length + 1
  | .lit _ => 1
  | .nil => 1
  | .ptr d => uptoBulk d + 1
  | .slice elems spare => uptoBulkAll elems + uptoBulkAll spare + 1
  | .agg parts => uptoBulkAll parts + 1
  | .iface _ d => uptoBulk d + 1
  | .map entries => uptoBulkEntries entries + 1
  | .held _ => 1
def uptoBulkAll {H : Type} : List (DataW H) → Nat
  | [] => 0
  | d :: r => uptoBulk d + uptoBulkAll r
def uptoBulkEntries {H : Type} : List (Lit × DataW H) → Nat
  | [] => 0
  | x :: r => uptoBulkEntry x + uptoBulkEntries r
def uptoBulkEntry {H : Type} : Lit × DataW H → Nat
  | (.string bytes, d) => bytes.length + uptoBulk d + 1
  | (_, d) => uptoBulk d + 1
 end
def uptoSmall : (H : Type) → List (DataW H) → Bool := fun _ ds => decide (uptoBulkAll ds ≤ 1048576)
def OpenSpec.upto (s : _root_.Go.ChangeSpec) : _root_.Go.OpenSpec := { _root_.Go.OpenSpec.ofChange s with cond := some uptoSmall }

/-- 'coillaw.RatesFound', WHERE WHAT IT READS IS OF BULK AT MOST 1048576: true; the input reads as it did. -/
def ratesFoundUptoRow : OpenClaim := { program := "ytnhnmjgjmlmahaa", sum := "18643d7bd6a8ddfc07d7c676140652fdac16491497bdf519aedf7f353dd9f809", func := "coilrack/coillaw.RatesFound", spec := "ratesFound", unfollowed := true, recurses := true, apart := false, narrowed := true }
def RatesFoundUptoSaid : Prop := ratesFoundUptoRow.holds Try.pinned (OpenSpec.upto ratesFoundSpec)

/-- 'coillaw.DaysSmoothed', WHERE WHAT IT READS IS OF BULK AT MOST 1048576: true; the input reads as it did. -/
def daysSmoothedUptoRow : OpenClaim := { program := "ytnhnmjgjmlmahaa", sum := "18643d7bd6a8ddfc07d7c676140652fdac16491497bdf519aedf7f353dd9f809", func := "coilrack/coillaw.DaysSmoothed", spec := "daysSmoothed", unfollowed := true, recurses := true, apart := false, narrowed := true }
def DaysSmoothedUptoSaid : Prop := daysSmoothedUptoRow.holds Try.pinned (OpenSpec.upto daysSmoothedSpec)

/-- 'coillaw.LoadsChosen', WHERE WHAT IT READS IS OF BULK AT MOST 1048576: true; the input reads as it did. -/
def loadsChosenUptoRow : OpenClaim := { program := "ytnhnmjgjmlmahaa", sum := "18643d7bd6a8ddfc07d7c676140652fdac16491497bdf519aedf7f353dd9f809", func := "coilrack/coillaw.LoadsChosen", spec := "loadsChosen", unfollowed := true, recurses := true, apart := false, narrowed := true }
def LoadsChosenUptoSaid : Prop := loadsChosenUptoRow.holds Try.pinned (OpenSpec.upto loadsChosenSpec)

/-- 'coillaw.TakenInstead', WHERE WHAT IT READS IS OF BULK AT MOST 1048576: true; the input reads as it did. -/
def takenInsteadUptoRow : OpenClaim := { program := "ytnhnmjgjmlmahaa", sum := "18643d7bd6a8ddfc07d7c676140652fdac16491497bdf519aedf7f353dd9f809", func := "coilrack/coillaw.TakenInstead", spec := "takenInstead", unfollowed := true, recurses := true, apart := false, narrowed := true }
def TakenInsteadUptoSaid : Prop := takenInsteadUptoRow.holds Try.pinned (OpenSpec.upto takenInsteadSpec)

/-- 'coillaw.HistogramsAdded', WHERE WHAT IT READS IS OF BULK AT MOST 1048576: true; the input reads as it did. -/
def histogramsAddedUptoRow : OpenClaim := { program := "ytnhnmjgjmlmahaa", sum := "18643d7bd6a8ddfc07d7c676140652fdac16491497bdf519aedf7f353dd9f809", func := "coilrack/coillaw.HistogramsAdded", spec := "histogramsAdded", unfollowed := true, recurses := true, apart := false, narrowed := true }
def HistogramsAddedUptoSaid : Prop := histogramsAddedUptoRow.holds Try.pinned (OpenSpec.upto histogramsAddedSpec)

end Rows
end Go.Proofs.Ytnhnmjgjmlmahaa
