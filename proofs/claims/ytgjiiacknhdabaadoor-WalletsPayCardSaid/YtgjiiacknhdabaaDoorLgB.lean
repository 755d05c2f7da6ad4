/- A part of the proof of a law of this seat: it adds no condition. By an AI agent. -/
import Derived.Laws.Small
import Derived.Test.YtgjiiacknhdabaaDoorLgY2
set_option linter.all false
namespace Lg
open Go Go.RowKit
/-! ### equal truth values -/
section eqb
variable {P : Program} {Γ : Ctx} {env env' : Env} {cs cs' cf : List Chunk} {Q : Post} {R : Array Oper}
variable {i : Tmp} {ty : TypeId} {pos : String} {af : Array Edge} {rest : List Oper}
variable {x y z : Operand} {T T2 : TypeId} {p q : Bool}
theorem eqGuard_bool (op : BinOp) (t : TypeId) (x y : Operand) (a b : Bool) (w : World) : (eqGuard op t x y (.bool a) (.bool b)).run P w = .ok () w := by
  unfold eqGuard
  cases op <;> simp
theorem OpV.eqlB (hT : P.underlying T = some .bool) (hx : ev env x = some (.bool p)) (hy : ev env y = some (.bool q)) : OpV P Γ (.binOp .eql T x y T2) ty env cs (.bool (p == q)) :=
  by unfold OpV; exact (fun a w d => ⟨.bool (p == q), by
    have h1 : a.eval x = .bool p := rd_raw (d.ev hx)
    have h2 : a.eval y = .bool q := rd_raw (d.ev hy)
    simp [execOp, h1, h2, eqGuard_bool, run_eql_bool w T p q hT], raw_self _⟩)
theorem OpV.neqB (hT : P.underlying T = some .bool) (hx : ev env x = some (.bool p)) (hy : ev env y = some (.bool q)) : OpV P Γ (.binOp .neq T x y T2) ty env cs (.bool (!(p == q))) :=
  by unfold OpV; exact (fun a w d => ⟨.bool (!(p == q)), by
    have h1 : a.eval x = .bool p := rd_raw (d.ev hx)
    have h2 : a.eval y = .bool q := rd_raw (d.ev hy)
    simp [execOp, h1, h2, eqGuard_bool, run_neq_bool w T p q hT], raw_self _⟩)
theorem OpV.eqlB_t (hT : P.underlying T = some .bool) (hx : ev env x = some (.bool p)) (hy : ev env y = some (.bool q)) (h : p = q) : OpV P Γ (.binOp .eql T x y T2) ty env cs (.bool true) := by
  subst h
  have := OpV.eqlB (P := P) (Γ := Γ) (ty := ty) (cs := cs) (T := T) (T2 := T2) hT hx hy
  rwa [BEq.rfl] at this
theorem Ops.eqlB (hT : P.underlying T = some .bool) (hx : ev env x = some (.bool p)) (hy : ev env y = some (.bool q)) (hi : Nat.blt i Γ.n = true)
    (kk : Ops P Γ R rest ((i, .bool (p == q)) :: env) cs Q) : Ops P Γ R (⟨some i, .binOp .eql T x y T2, ty, pos, af, none⟩ :: rest) env cs Q := Ops.val' hi (OpV.eqlB hT hx hy) kk
theorem Ops.eqlB_t (hT : P.underlying T = some .bool) (hx : ev env x = some (.bool p)) (hy : ev env y = some (.bool q)) (h : p = q) (hi : Nat.blt i Γ.n = true)
    (kk : Ops P Γ R rest ((i, .bool true) :: env) cs Q) : Ops P Γ R (⟨some i, .binOp .eql T x y T2, ty, pos, af, none⟩ :: rest) env cs Q := Ops.val' hi (OpV.eqlB_t hT hx hy h) kk
theorem Ops.neqB (hT : P.underlying T = some .bool) (hx : ev env x = some (.bool p)) (hy : ev env y = some (.bool q)) (hi : Nat.blt i Γ.n = true)
    (kk : Ops P Γ R rest ((i, .bool (!(p == q))) :: env) cs Q) : Ops P Γ R (⟨some i, .binOp .neq T x y T2, ty, pos, af, none⟩ :: rest) env cs Q := Ops.val' hi (OpV.neqB hT hx hy) kk
end eqb
section more
variable {P : Program} {Γ : Ctx} {env env' : Env} {cs cs' cf : List Chunk} {Q : Post} {R : Array Oper}
variable {i : Tmp} {ty : TypeId} {pos : String} {af : Array Edge} {rest : List Oper} {x : Operand}
/-- a pointer into an owned slice is not nil -/
theorem OpV.nilCheck_eptr {ad : Option Addr} {k e j : Nat} (hx : ev env x = some (.eptr ad k e j)) : OpV P Γ (.nilCheck x) ty env cs (.eptr ad k e j) := by
  unfold OpV
  intro a w d
  have h := d.ev hx
  have h2 := h
  unfold Tr.eptr at h
  obtain ⟨g, ha, hv⟩ := h
  exact ⟨_, by simp only [execOp, hv]; rfl, by rw [← hv]; exact h2⟩
theorem Ops.nilCheck_eptr {ad : Option Addr} {k e j : Nat} (hx : ev env x = some (.eptr ad k e j)) (hi : Nat.blt i Γ.n = true)
    (kk : Ops P Γ R rest ((i, .eptr ad k e j) :: env) cs Q) : Ops P Γ R (⟨some i, .nilCheck x, ty, pos, af, none⟩ :: rest) env cs Q :=
  Ops.val' hi (OpV.nilCheck_eptr hx) kk
variable {H : (Nat → Value) → (Nat → Bool) → List Chunk} {L : List Oper} {K : Env → List Chunk → Prop} {n : Nat} {l : List Oper} {Pf : Nat → (Nat → Value) → Prop} {d : Nat} {op : Op} {acc : (Nat → Value) → Env}
/-- a call that turns one owned piece -/
theorem YSeq.callC {f : FuncId} {ol : List Operand} {ts : Array TypeId} {t : (Nat → Value) → Tr}
    (h : ∀ (ξ : Nat → Value) (S : Nat → Bool), S n = false → (∀ j ∈ preds af, S j = true) → Clo L S → (∀ k, S k = true → Pf k ξ) →
      ∃ (args : List Tr) (c c' : Chunk) (cf : List Chunk), Spec P f args [c] (fun r cs => r = t ξ ∧ cs = [c']) ∧ Evs (rst (slotsOf (.call ⟨.value (.func f), ol.toArray, ts⟩)) (acc ξ)) ol args ∧ (H ξ S).Perm (c :: cf) ∧ ∀ v, (H (upd ξ n v) (updD S n)).Perm (c' :: cf))
    (ht : ∀ ξ v, t (upd ξ n v) = t ξ) (hT : TOk L n t)
    (k : YSeq P Γ H L K (n + 1) (fun ξ => (d, t ξ) :: acc ξ) (pfY n (fun _ => True) Pf) l) : YSeq P Γ H L K n acc Pf (⟨some d, .call ⟨.value (.func f), ol.toArray, ts⟩, ty, pos, af, none⟩ :: l) := by
  refine YSeq.call PvOkY.triv hT ?_ k
  intro ξ S h1 h2 h3 h4
  obtain ⟨args, c, c', cf, hs, ha, hp, hq⟩ := h ξ S h1 h2 h3 h4
  refine ⟨args, [c], cf, _, hs, ha, hp, ?_⟩
  rintro r cs' ⟨rfl, rfl⟩ w A v hr
  exact ⟨by rw [ht]; exact hr, trivial, hq v⟩
end more
end Lg
