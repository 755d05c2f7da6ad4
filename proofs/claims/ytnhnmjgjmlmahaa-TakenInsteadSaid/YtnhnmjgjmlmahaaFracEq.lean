/- A part of the proof of a law of this seat: it adds no condition. By an AI agent. -/
import Derived.ChangeKeysEq
import Derived.KernelRfl
import Derived.Test.YtnhnmjgjmlmahaaFrac
set_option linter.all false
set_option maxRecDepth 100000
set_option maxHeartbeats 2000000
namespace Lg
open Go Go.Proofs

theorem frac_eq0 (n : Nat) (a b c d : Int) (w : World) : (Op.equalIn (n + 1 + 1) 31 (.agg #[.int .i64 a, .int .i64 b]) (.agg #[.int .i64 c, .int .i64 d])).run Try.prog w = .ok (decide (a = c ∧ b = d)) w := by
  have hs : Try.prog.stoodInHeld 31 = false := by kernel_rfl
  by_cases h1 : a = c <;> by_cases h2 : b = d <;> simp [Op.equalIn, run_underlying Try.underlying31, run_underlying Try.underlying3, hs, h1, h2, part, Go.sizeOf, typeInfo]
theorem frac_eq1 (a b c d : Int) (w : World) : (binOp .eql 31 (.agg #[.int .i64 a, .int .i64 b]) (.agg #[.int .i64 c, .int .i64 d])).run Try.prog w = .ok (.bool (decide (a = c ∧ b = d))) w := by
  show (do let r ← Op.equalIn (9998 + 1 + 1) 31 _ _; pure (Value.bool r) : Sem Value).run Try.prog w = _
  have := frac_eq0 9998 a b c d w
  generalize Op.equalIn (9998 + 1 + 1) 31 (.agg #[.int .i64 a, .int .i64 b]) (.agg #[.int .i64 c, .int .i64 d]) = s at *
  simp [this]
theorem frac_eq2 (x y : Operand) (a b c d : Int) (w : World) : (eqGuard .eql 31 x y (.agg #[.int .i64 a, .int .i64 b]) (.agg #[.int .i64 c, .int .i64 d])).run Try.prog w = .ok () w := by
  simp [eqGuard]

section
variable {Γ : Ctx} {env : Env} {cs : List Chunk} {x y : Operand} {T2 ty : TypeId}
theorem OpV.frac_eq {a b c d : Int} (hx : ev env x = some (.agg [Tr.int a, Tr.int b])) (hy : ev env y = some (.agg [Tr.int c, Tr.int d])) : OpV Try.prog Γ (.binOp .eql 31 x y T2) ty env cs (.bool (decide (a = c ∧ b = d))) :=
  OpV.eql_agg (us := [.int .i64 a, .int .i64 b]) (vs := [.int .i64 c, .int .i64 d]) hx hy (fun w => frac_eq2 x y a b c d w) (fun w => frac_eq1 a b c d w)
theorem OpV.frac_t {a b : Int} (hx : ev env x = some (.agg [Tr.int a, Tr.int b])) (hy : ev env y = some (.agg [Tr.int a, Tr.int b])) : OpV Try.prog Γ (.binOp .eql 31 x y T2) ty env cs (.bool true) := by
  have := OpV.frac_eq (Γ := Γ) (cs := cs) (T2 := T2) (ty := ty) hx hy
  simpa using this
end

end Lg
