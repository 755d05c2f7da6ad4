/- A part of the proof of a law of this seat: it adds no condition. By an AI agent. -/
import Derived.Test.YtfgcjpkkbhnkgaaGreatDoorLots
section
set_option linter.all false
set_option maxRecDepth 100000
set_option maxHeartbeats 4000000
namespace Lg
open Go Go.Proofs

structure Piece where
 lot : ByteArray
 many : Int
def Piece.row (x : Piece) : List Tr := [.str x.lot, .int x.many]
abbrev Tr.pieces (l : List Piece) : Tr := Tr.sl 2 (l.map Piece.row)
structure Coil where
 prod : ByteArray
 most : Int
 ps : List Piece
def Coil.row (c : Coil) : List Tr := [.str c.prod, .int c.most, .pieces c.ps]
end Lg
end
section
set_option linter.all false
set_option maxRecDepth 100000
set_option maxHeartbeats 4000000
namespace Lg
open Go Go.Proofs



end Lg
end
section
set_option linter.all false
set_option maxRecDepth 100000
set_option maxHeartbeats 4000000
namespace Lg
open Go Go.Proofs

theorem lotsErr_ok {l : List Lot} (h : lotsErr l = 0) : l.length ≤ 500 ∧ ∀ x ∈ l, isKey x.id = true ∧ isKey x.prod = true ∧ 0 ≤ x.exp ∧ x.exp ≤ 4000 ∧ 0 ≤ x.many ∧ x.many ≤ 100000 := by
 unfold lotsErr at h
 split at h
 ·omega
 ·refine ⟨by omega, fun x hx => ?_⟩
  obtain ⟨j, hj⟩ := List.getElem?_of_mem hx
  have hlt := (List.getElem?_eq_some_iff.1 hj).1
  have he := firstE_zero h j (by omega) (by omega)
  unfold lotE at he
  rw [hj] at he
  simp only at he
  split at he
  ·omega
  ·rename_i h1
   split at he
   ·omega
   ·unfold lotErr at he
    split at he
    ·omega
    ·rename_i h3
     split at he
     ·omega
     ·exact ⟨by simpa using h1, by simpa using h3, by omega, by omega, by omega, by omega⟩

end Lg
end
