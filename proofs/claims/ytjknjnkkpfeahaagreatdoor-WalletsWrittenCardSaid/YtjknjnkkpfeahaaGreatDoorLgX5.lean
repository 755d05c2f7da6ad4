/- A part of the proof of a law of this seat: it adds no condition. By an AI agent. -/
import Derived.Test.YtjknjnkkpfeahaaGreatDoorLgX3
section
set_option linter.all false
namespace Lg

/-! ### insertion sort, as slices.SortStableFunc does it on short slices: from the left, each new one is moved down past those that are greater -/
section isort
variable {α : Type} (lt : α → α → Bool)

def insRev (x : α) : List α → List α
  | [] => [x]
  | y :: r => if lt x y then y :: insRev x r else x :: y :: r
/-- x is put into l, from the right -/
def insB (x : α) (l : List α) : List α := (insRev lt x l.reverse).reverse
/-- all of a list, one after the other -/
def isortB : List α → List α → List α
  | acc, [] => acc
  | acc, x :: l => isortB (insB lt x acc) l
def isort (l : List α) : List α := isortB lt [] l

end isort

section keyed
variable {α : Type} (key : α → Int)

end keyed
end Lg
namespace Lg
/-! ### the first error of a row of tests -/
def firstE (e : Nat → Int) : Nat → Nat → Int
  | _, 0 => 0
  | k, n + 1 => if e k ≠ 0 then e k else firstE e (k + 1) n
theorem firstE_end {e : Nat → Int} {k n : Nat} (h : ¬ k < n) : firstE e k (n - k) = 0 := by
  rw [show n - k = 0 by omega]
  rfl
theorem firstE_step {e : Nat → Int} {k n : Nat} (h : k < n) : firstE e k (n - k) = if e k ≠ 0 then e k else firstE e (k + 1) (n - (k + 1)) := by
  obtain ⟨m, hm⟩ : ∃ m, n - k = m + 1 := ⟨n - k - 1, by omega⟩
  rw [hm, show n - (k + 1) = m by omega]
  rfl
theorem firstE_bad {e : Nat → Int} {k n : Nat} {c : Int} (h : k < n) (he : e k = c) (hc : c ≠ 0) : firstE e k (n - k) = c := by
  rw [firstE_step h, he, if_pos hc]
theorem firstE_ok {e : Nat → Int} {k n : Nat} (h : k < n) (he : e k = 0) : firstE e k (n - k) = firstE e (k + 1) (n - (k + 1)) := by
  rw [firstE_step h, if_neg (by simp [he])]
theorem firstE_zero {e : Nat → Int} : ∀ {n k : Nat}, firstE e k n = 0 → ∀ j, k ≤ j → j < k + n → e j = 0
  | 0, k, _, j, h1, h2 => by omega
  | n + 1, k, h, j, h1, h2 => by
    unfold firstE at h
    split at h
    · rename_i hc; exact absurd h hc
    · rename_i hc
      by_cases hj : j = k
      · subst hj; simpa using hc
      · exact firstE_zero h j (by omega) (by omega)
end Lg
namespace Lg
/-! ### sums -/
end Lg
namespace Lg
section isort2
variable {α : Type} (lt : α → α → Bool)
end isort2
end Lg
namespace Lg
section lexi
variable (key : Int → Int)
/-- by key, and among equals by what came first -/
def lexi (a b : Int) : Prop := key a < key b ∨ (key a = key b ∧ a < b)
end lexi
end Lg
end
section
set_option linter.all false
namespace Lg
open Go
section x4
variable {P : Program} {Γ : Ctx} {env : Env} {cs cf : List Chunk} {H : (Nat → Value) → (Nat → Bool) → List Chunk} {L : List Oper} {K : Env → List Chunk → Prop} {n : Nat} {l : List Oper}
variable {Pf : Nat → (Nat → Value) → Prop} {d : Nat} {op : Op} {ty : TypeId} {pos : String} {af : Array Edge} {acc : (Nat → Value) → Env} {t t' : Tr}

/-- a call that hands out a slice, in a drawn region -/
theorem XSeq.callO {f : FuncId} {args : List Tr} {ol : List Operand} {ts : Array TypeId} {kk E : Nat} {rows : List (List Tr)} (hs : PFnO P f args kk E (· = rows))
    (ha : ∀ ξ, Evs (rst (slotsOf (.call ⟨.value (.func f), ol.toArray, ts⟩)) (acc ξ)) ol args)
    (hH : ∀ (ξ : Nat → Value) (S : Nat → Bool), S n = false → (∀ k ok, L[k]? = some ok → S k = true → ∀ j ∈ preds ok.after, S j = true) → ∀ ad cap, (H (upd ξ n (.slice ad rows.length cap)) (updD S n)).Perm (Chunk.own ad cap kk E rows :: H ξ S))
    (k : XSeq P Γ H L K (n + 1) (fun ξ => (d, Tr.raw (ξ n)) :: acc ξ) (pfX n (fun ξ => ∃ ad cap, ξ n = .slice ad rows.length cap) Pf) l) : XSeq P Γ H L K n acc Pf (⟨some d, .call ⟨.value (.func f), ol.toArray, ts⟩, ty, pos, af, none⟩ :: l) := by
  refine XSeq.cons (T := Tr.raw) (Pv := fun ξ => ∃ ad cap, ξ n = .slice ad rows.length cap) (PvOk.own (p := fun v => ∃ ad cap, v = .slice ad rows.length cap)) ?_ k
  unfold XStep
  intro ξ S h1 h2 h3 h4 a w dd next F hk
  unfold PFnO at hs
  have hcc := call_core2 (cf := H ξ S) hs dd (List.Perm.refl _) ((ha ξ).rd dd)
  have hrun : (execOp a.eval ⟨some d, .call ⟨.value (.func f), ol.toArray, ts⟩, ty, pos, af, none⟩).run P w = .ok (.enter f (ol.map a.eval).toArray) w := by
    unfold Spec at hs
    have := hs.1 (ol.map a.eval).toArray w
    simp [execOp, resolve, invoke, Deferred.ofValue, Act.eval, this]
  refine opIn_of_run hrun ⟨(by intro d h; cases h), (by intro x y h; cases h)⟩ ?_
  refine hcc.mono ?_
  rintro e w' ⟨v, r, cs', rfl, ⟨ad, cap, rows', rfl, rfl, rfl⟩, hrd, hd⟩
  have hv := rd_raw hrd
  subst hv
  have hq := (hH ξ S h1 h3 ad cap).symm
  exact hk _ _ ⟨ad, cap, upd_same _ _ _⟩ (raw_self _) fun env2 h2 => (hd env2 h2).perm hq
end x4
end Lg
end
section
set_option linter.all false
namespace Lg
open Go

/-- what stands before an operation, and after it -/
def stg {α : Type} (s : Bool) (a b : α) : α := match s with
  | false => a
  | true => b
theorem stg_t {α : Type} {a b : α} : stg true a b = b := rfl
theorem stg_f {α : Type} {a b : α} : stg false a b = a := rfl
def vAd : Value → Option Addr
  | .slice a _ _ => a
  | _ => none
def vCap : Value → Nat
  | .slice _ _ c => c
  | _ => 0
theorem vAd_s {a : Option Addr} {n c : Nat} : vAd (.slice a n c) = a := rfl
theorem vCap_s {a : Option Addr} {n c : Nat} : vCap (.slice a n c) = c := rfl
theorem blk_p {b o : Nat} {k : Option Nat} : blk (.pointer (some ⟨b, o, none⟩)) = b := rfl
/-- an owned slice that an operation makes -/
abbrev ownV (v : Value) (k : Nat) (E : TypeId) (rows : List (List Tr)) : Chunk := Chunk.own (vAd v) (vCap v) k E rows
theorem pickA {c : Chunk} {L l cf : List Chunk} (h : l.Perm (c :: cf)) : (L ++ l).Perm (c :: (L ++ cf)) := (List.Perm.append_left L h).trans List.perm_middle
theorem pickL0 {L l : List Chunk} : (L ++ l).Perm (L ++ l) := List.Perm.refl _
theorem pickLS {c : Chunk} {L l cf : List Chunk} (h : l.Perm (L ++ cf)) : (c :: l).Perm (L ++ c :: cf) := (List.Perm.cons c h).trans List.perm_middle.symm
theorem pickLA {L M l cf : List Chunk} (h : l.Perm (L ++ cf)) : (M ++ l).Perm (L ++ (M ++ cf)) := by
  refine (List.Perm.append_left M h).trans ?_
  rw [← List.append_assoc, ← List.append_assoc]
  exact List.Perm.append_right _ List.perm_append_comm
theorem Perm.app' {cs cf L l : List Chunk} (h : cs.Perm (L ++ cf)) (r : cf.Perm l) : cs.Perm (L ++ l) := h.trans (List.Perm.append_left L r)
theorem b2n_t : b2n true = 1 := rfl
theorem b2n_f : b2n false = 0 := rfl
section x5
variable {P : Program} {Γ : Ctx} {env : Env} {cs cf : List Chunk} {H : (Nat → Value) → (Nat → Bool) → List Chunk} {L : List Oper} {K : Env → List Chunk → Prop} {n : Nat} {l : List Oper} {Q : Post}
variable {Pf : Nat → (Nat → Value) → Prop} {d : Nat} {op : Op} {ty : TypeId} {pos : String} {af : Array Edge} {acc : (Nat → Value) → Env} {t t' : Tr}
theorem Ent.eqc {env' : Env} {cs' : List Chunk} (h1 : env = env') (h2 : cs = cs') : Ent Γ env cs env' cs' := by
  subst h1
  subst h2
  exact Ent.perm (List.Perm.refl _)
/-- a store of one cell into an owned slice, in a drawn region -/
theorem XSeq.storeO {T : TypeId} {x y : Operand} [hT : TyOne P T]
    (h : ∀ (ξ : Nat → Value) (S : Nat → Bool), S n = false → (∀ j ∈ preds af, S j = true) → (∀ k ok, L[k]? = some ok → S k = true → ∀ j ∈ preds ok.after, S j = true) → (∀ k, S k = true → Pf k ξ) →
      ∃ (ad : Option Addr) (cap kk m j : Nat) (e : TypeId) (rows : List (List Tr)) (r : List Tr) (t : Tr) (cf : List Chunk), ev (rst (slotsOf (.store T x y)) (acc ξ)) x = some (Tr.eptr ad kk m j) ∧ ev (rst (slotsOf (.store T x y)) (acc ξ)) y = some t ∧ OneT t ∧
        (H ξ S).Perm (Chunk.own ad cap kk e rows :: cf) ∧ rows[m]? = some r ∧ j < kk ∧ (H (upd ξ n undef) (updD S n)).Perm (Chunk.own ad cap kk e (rows.set m (r.set j t)) :: cf))
    (k : XSeq P Γ H L K (n + 1) acc (pfX n (fun _ => True) Pf) l) : XSeq P Γ H L K n acc Pf (⟨none, .store T x y, ty, pos, af, none⟩ :: l) := by
  refine XSeq.storeE ?_ k
  intro ξ S h1 h2 h3 h4
  obtain ⟨ad, cap, kk, m, j, e, rows, r, t, cf, g1, g2, g3, g4, g5, g6, g7⟩ := h ξ S h1 h2 h3 h4
  exact ⟨_, t, g1, g2, g3, fun w A v hr => ⟨ad, cap, kk, m, j, e, rows, r, cf, hr, fun _ => Ent.perm g4, g5, g6, fun _ => Ent.perm g7.symm⟩⟩
end x5
theorem goXp {p : Prop} (h : p := by repeat' (first | exact pick0 | apply pickS | apply pickA)) : p := h
theorem goXm {p : Prop} (h : p := by repeat' (first | exact List.Perm.refl _ | refine Perm.cons' (by repeat' (first | exact pick0 | apply pickS | apply pickA)) ?_ | refine Perm.app' (by repeat' (first | exact pickL0 | apply pickLS | apply pickLA)) ?_)) : p := h
end Lg
end
