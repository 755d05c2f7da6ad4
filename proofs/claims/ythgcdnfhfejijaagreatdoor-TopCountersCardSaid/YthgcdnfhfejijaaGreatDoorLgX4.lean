/- A part of the proof of a law of this seat: it adds no condition. By an AI agent. -/
import Derived.Lib.AppendZeros
import Derived.Test.YthgcdnfhfejijaaGreatDoorLgX2
section
set_option linter.all false
namespace Lg
open Go
section cat
variable {P : Program} {Γ : Ctx} {env : Env} {cs cf : List Chunk} {Q : Post} {R : Array Oper} {rest : List Oper} {i : Tmp} {ty T T2 : TypeId} {pos : String} {af : Array Edge} {x y : Operand}
variable {H : (Nat → Value) → (Nat → Bool) → List Chunk} {L : List Oper} {K : Env → List Chunk → Prop} {n d : Nat} {l : List Oper} {Pf : Nat → (Nat → Value) → Prop} {acc : (Nat → Value) → Env}
end cat
end Lg
end
section
set_option linter.all false
namespace Lg
open Go

section x3
variable {P : Program} {Γ : Ctx} {env env' : Env} {cs cs' cf : List Chunk}

section x3b
variable {env : Env} {H : (Nat → Value) → (Nat → Bool) → List Chunk} {L : List Oper} {K : Env → List Chunk → Prop} {n : Nat} {l : List Oper}
variable {Pf : Nat → (Nat → Value) → Prop} {d : Nat} {op : Op} {ty : TypeId} {pos : String} {af : Array Edge} {acc : (Nat → Value) → Env}
end x3b
end x3
end Lg
end
section
set_option linter.all false
namespace Lg
open Go
section x4
variable {P : Program} {Γ : Ctx} {env : Env} {cs cf : List Chunk} {H : (Nat → Value) → (Nat → Bool) → List Chunk} {L : List Oper} {K : Env → List Chunk → Prop} {n : Nat} {l : List Oper}
variable {Pf : Nat → (Nat → Value) → Prop} {d : Nat} {op : Op} {ty : TypeId} {pos : String} {af : Array Edge} {acc : (Nat → Value) → Env} {t t' : Tr}

end x4
end Lg
end
