/- A part of the proof of a law of this seat: it adds no condition. By an AI agent. -/
import Derived.Test.YtgjiiacknhdabaaDoorTypes
import Derived.Test.YtgjiiacknhdabaaDoorFrame
set_option linter.all false
namespace Lg
open Go Go.Proofs

theorem Ops.shut0 {P : Program} {Γ : Ctx} {env : Env} {cs : List Chunk} {Q : Post} {R : Array Oper} {l : List Oper} {ty b : Nat} {cells : List Tr} {rows : List (List Tr)} (h : cells = [Tr.sl 1 rows, Tr.int ((0 : Nat) : Int)]) (k : Ops P Γ R l env (Chunk.strm ty b rows 0 :: cs) Q) : Ops P Γ R l env (Chunk.box b ty cells :: cs) Q := by
  subst h
  exact Ops.ent (Ent.shut_strm (m := 0) (Nat.le_refl 0)) k
end Lg
