/- A part of the proof of a law of this seat: it adds no condition. By an AI agent. -/
import Derived.Test.YtgjiiacknhdabaaDoorLgCat
set_option linter.all false
namespace Lg
open Go
section x4
variable {P : Program} {Γ : Ctx} {env : Env} {cs cf : List Chunk} {H : (Nat → Value) → (Nat → Bool) → List Chunk} {L : List Oper} {K : Env → List Chunk → Prop} {n : Nat} {l : List Oper}
variable {Pf : Nat → (Nat → Value) → Prop} {d : Nat} {op : Op} {ty : TypeId} {pos : String} {af : Array Edge} {acc : (Nat → Value) → Env} {t t' : Tr}

/-- a call that hands out a slice, in a drawn region -/
theorem XSeq.callO {f : FuncId} {args : List Tr} {ol : List Operand} {ts : Array TypeId} {kk E : Nat} {rows : List (List Tr)} (hs : PFnO P f args kk E (· = rows))
    (ha : ∀ ξ, Evs (rst (slotsOf (.call ⟨.value (.func f), ol.toArray, ts⟩)) (acc ξ)) ol args)
    (hH : ∀ (ξ : Nat → Value) (S : Nat → Bool), S n = false → (∀ k ok, L[k]? = some ok → S k = true → ∀ j ∈ preds ok.after, S j = true) → ∀ ad cap, (H (upd ξ n (.slice ad rows.length cap)) (updD S n)).Perm (Chunk.own ad cap kk E rows :: H ξ S))
    (k : XSeq P Γ H L K (n + 1) (fun ξ => (d, Tr.raw (ξ n)) :: acc ξ) (pfX n (fun ξ => ∃ ad cap, ξ n = .slice ad rows.length cap) Pf) l) : XSeq P Γ H L K n acc Pf (⟨some d, .call ⟨.value (.func f), ol.toArray, ts⟩, ty, pos, af, none⟩ :: l) := by
  refine XSeq.cons (T := Tr.raw) (Pv := fun ξ => ∃ ad cap, ξ n = .slice ad rows.length cap) (PvOk.own (p := fun v => ∃ ad cap, v = .slice ad rows.length cap)) ?_ k
  unfold XStep
  intro ξ S h1 h2 h3 h4 a w dd next F hk
  unfold PFnO at hs
  have hcc := call_core2 (cf := H ξ S) hs dd (List.Perm.refl _) ((ha ξ).rd dd)
  have hrun : (execOp a.eval ⟨some d, .call ⟨.value (.func f), ol.toArray, ts⟩, ty, pos, af, none⟩).run P w = .ok (.enter f (ol.map a.eval).toArray) w := by
    unfold Spec at hs
    have := hs.1 (ol.map a.eval).toArray w
    simp [execOp, resolve, invoke, Deferred.ofValue, Act.eval, this]
  unfold Oper.wp
  rw [hrun]
  refine hcc.mono ?_
  rintro e w' ⟨v, r, cs', rfl, ⟨ad, cap, rows', rfl, rfl, rfl⟩, hrd, hd⟩
  have hv := rd_raw hrd
  subst hv
  have hq := (hH ξ S h1 h3 ad cap).symm
  exact hk _ _ ⟨ad, cap, upd_same _ _ _⟩ (raw_self _) fun env2 h2 => (hd env2 h2).perm hq
end x4
end Lg
