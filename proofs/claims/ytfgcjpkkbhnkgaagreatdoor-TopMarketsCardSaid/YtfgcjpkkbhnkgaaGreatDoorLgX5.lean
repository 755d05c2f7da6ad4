/- A part of the proof of a law of this seat: it adds no condition. By an AI agent. -/
import Derived.Test.YtfgcjpkkbhnkgaaGreatDoorLgCat
section
set_option linter.all false
namespace Lg
open Go

section x3
variable {P : Program} {Γ : Ctx} {env env' : Env} {cs cs' cf : List Chunk}

section x3b
variable {env : Env} {H : (Nat → Value) → (Nat → Bool) → List Chunk} {L : List Oper} {K : Env → List Chunk → Prop} {n : Nat} {l : List Oper}
variable {Pf : Nat → (Nat → Value) → Prop} {d : Nat} {op : Op} {ty : TypeId} {pos : String} {af : Array Edge} {acc : (Nat → Value) → Env}
end x3b
end x3
end Lg
end
section
set_option linter.all false
namespace Lg
open Go
section x4
variable {P : Program} {Γ : Ctx} {env : Env} {cs cf : List Chunk} {H : (Nat → Value) → (Nat → Bool) → List Chunk} {L : List Oper} {K : Env → List Chunk → Prop} {n : Nat} {l : List Oper}
variable {Pf : Nat → (Nat → Value) → Prop} {d : Nat} {op : Op} {ty : TypeId} {pos : String} {af : Array Edge} {acc : (Nat → Value) → Env} {t t' : Tr}

end x4
end Lg
end
section
set_option linter.all false
namespace Lg
open Go

/-- what stands before an operation, and after it -/
def stg {α : Type} (s : Bool) (a b : α) : α := match s with
 |false => a
 |true => b
theorem stg_t {α : Type} {a b : α} : stg true a b = b := rfl
theorem stg_f {α : Type} {a b : α} : stg false a b = a := rfl
def vAd : Value → Option Addr
 | .slice a _ _ => a
 |_ => none
def vCap : Value → Nat
 | .slice _ _ c => c
 |_ => 0
theorem vAd_s {a : Option Addr} {n c : Nat} : vAd (.slice a n c) = a := rfl
theorem vCap_s {a : Option Addr} {n c : Nat} : vCap (.slice a n c) = c := rfl
theorem blk_p {b o : Nat} {k : Option Nat} : blk (.pointer (some ⟨b, o, none⟩)) = b := rfl
/-- an owned slice that an operation makes -/
abbrev ownV (v : Value) (k : Nat) (E : TypeId) (rows : List (List Tr)) : Chunk := Chunk.own (vAd v) (vCap v) k E rows
theorem pickA {c : Chunk} {L l cf : List Chunk} (h : l.Perm (c :: cf)) : (L ++ l).Perm (c :: (L ++ cf)) := (List.Perm.append_left L h).trans List.perm_middle
theorem pickL0 {L l : List Chunk} : (L ++ l).Perm (L ++ l) := List.Perm.refl _
theorem pickLS {c : Chunk} {L l cf : List Chunk} (h : l.Perm (L ++ cf)) : (c :: l).Perm (L ++ c :: cf) := (List.Perm.cons c h).trans List.perm_middle.symm
theorem pickLA {L M l cf : List Chunk} (h : l.Perm (L ++ cf)) : (M ++ l).Perm (L ++ (M ++ cf)) := by
 refine (List.Perm.append_left M h).trans ?_
 rw [← List.append_assoc, ← List.append_assoc]
 exact List.Perm.append_right _ List.perm_append_comm
theorem Perm.app' {cs cf L l : List Chunk} (h : cs.Perm (L ++ cf)) (r : cf.Perm l) : cs.Perm (L ++ l) := h.trans (List.Perm.append_left L r)
theorem b2n_t : b2n true = 1 := rfl
theorem b2n_f : b2n false = 0 := rfl
section x5
variable {P : Program} {Γ : Ctx} {env : Env} {cs cf : List Chunk} {H : (Nat → Value) → (Nat → Bool) → List Chunk} {L : List Oper} {K : Env → List Chunk → Prop} {n : Nat} {l : List Oper} {Q : Post}
variable {Pf : Nat → (Nat → Value) → Prop} {d : Nat} {op : Op} {ty : TypeId} {pos : String} {af : Array Edge} {acc : (Nat → Value) → Env} {t t' : Tr}
theorem Ent.eqc {env' : Env} {cs' : List Chunk} (h1 : env = env') (h2 : cs = cs') : Ent Γ env cs env' cs' := by
 subst h1
 subst h2
 exact Ent.perm (List.Perm.refl _)
end x5
theorem goXp {p : Prop} (h : p := by repeat' (first | exact pick0 | apply pickS | apply pickA)) : p := h
theorem goXm {p : Prop} (h : p := by repeat' (first | exact List.Perm.refl _ | refine Perm.cons' (by repeat' (first | exact pick0 | apply pickS | apply pickA)) ?_ | refine Perm.app' (by repeat' (first | exact pickL0 | apply pickLS | apply pickLA)) ?_)) : p := h
end Lg
end
