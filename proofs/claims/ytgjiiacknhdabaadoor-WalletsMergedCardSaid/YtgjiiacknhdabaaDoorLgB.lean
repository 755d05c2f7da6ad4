/- A part of the proof of a law of this seat: it adds no condition. By an AI agent. -/
import Derived.Laws.Small
import Derived.Test.YtgjiiacknhdabaaDoorLgY
set_option linter.all false
namespace Lg
open Go Go.RowKit
/-! ### equal truth values -/
section eqb
variable {P : Program} {Γ : Ctx} {env env' : Env} {cs cs' cf : List Chunk} {Q : Post} {R : Array Oper}
variable {i : Tmp} {ty : TypeId} {pos : String} {af : Array Edge} {rest : List Oper}
variable {x y z : Operand} {T T2 : TypeId} {p q : Bool}
theorem eqGuard_bool (op : BinOp) (t : TypeId) (x y : Operand) (a b : Bool) (w : World) : (eqGuard op t x y (.bool a) (.bool b)).run P w = .ok () w := by
  unfold eqGuard
  cases op <;> simp
theorem OpV.eqlB (hT : P.underlying T = some .bool) (hx : ev env x = some (.bool p)) (hy : ev env y = some (.bool q)) : OpV P Γ (.binOp .eql T x y T2) ty env cs (.bool (p == q)) :=
  by unfold OpV; exact (fun a w d => ⟨.bool (p == q), by
    have h1 : a.eval x = .bool p := rd_raw (d.ev hx)
    have h2 : a.eval y = .bool q := rd_raw (d.ev hy)
    simp [execOp, h1, h2, eqGuard_bool, run_eql_bool w T p q hT], raw_self _⟩)
theorem OpV.neqB (hT : P.underlying T = some .bool) (hx : ev env x = some (.bool p)) (hy : ev env y = some (.bool q)) : OpV P Γ (.binOp .neq T x y T2) ty env cs (.bool (!(p == q))) :=
  by unfold OpV; exact (fun a w d => ⟨.bool (!(p == q)), by
    have h1 : a.eval x = .bool p := rd_raw (d.ev hx)
    have h2 : a.eval y = .bool q := rd_raw (d.ev hy)
    simp [execOp, h1, h2, eqGuard_bool, run_neq_bool w T p q hT], raw_self _⟩)
theorem OpV.eqlB_t (hT : P.underlying T = some .bool) (hx : ev env x = some (.bool p)) (hy : ev env y = some (.bool q)) (h : p = q) : OpV P Γ (.binOp .eql T x y T2) ty env cs (.bool true) := by
  subst h
  have := OpV.eqlB (P := P) (Γ := Γ) (ty := ty) (cs := cs) (T := T) (T2 := T2) hT hx hy
  rwa [BEq.rfl] at this
theorem Ops.eqlB (hT : P.underlying T = some .bool) (hx : ev env x = some (.bool p)) (hy : ev env y = some (.bool q)) (hi : Nat.blt i Γ.n = true)
    (kk : Ops P Γ R rest ((i, .bool (p == q)) :: env) cs Q) : Ops P Γ R (⟨some i, .binOp .eql T x y T2, ty, pos, af, none⟩ :: rest) env cs Q := Ops.val' hi (OpV.eqlB hT hx hy) kk
theorem Ops.eqlB_t (hT : P.underlying T = some .bool) (hx : ev env x = some (.bool p)) (hy : ev env y = some (.bool q)) (h : p = q) (hi : Nat.blt i Γ.n = true)
    (kk : Ops P Γ R rest ((i, .bool true) :: env) cs Q) : Ops P Γ R (⟨some i, .binOp .eql T x y T2, ty, pos, af, none⟩ :: rest) env cs Q := Ops.val' hi (OpV.eqlB_t hT hx hy h) kk
theorem Ops.neqB (hT : P.underlying T = some .bool) (hx : ev env x = some (.bool p)) (hy : ev env y = some (.bool q)) (hi : Nat.blt i Γ.n = true)
    (kk : Ops P Γ R rest ((i, .bool (!(p == q))) :: env) cs Q) : Ops P Γ R (⟨some i, .binOp .neq T x y T2, ty, pos, af, none⟩ :: rest) env cs Q := Ops.val' hi (OpV.neqB hT hx hy) kk
end eqb
end Lg
