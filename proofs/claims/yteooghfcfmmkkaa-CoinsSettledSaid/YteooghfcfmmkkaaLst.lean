/- A part of the proof of a law of this seat: it adds no condition. By an AI agent. -/
import Derived.Test.YteooghfcfmmkkaaOwn
set_option linter.all false
set_option maxRecDepth 100000
set_option maxHeartbeats 1000000
namespace Lg
open Go Go.Proofs

theorem drop_at {α : Type} {l : List α} {k : Nat} {x : α} (h : l[k]? = some x) : l.drop k = x :: l.drop (k + 1) := by
  obtain ⟨hk, rfl⟩ := List.getElem?_eq_some_iff.1 h
  exact List.drop_eq_getElem_cons hk
theorem take_at {α : Type} {l : List α} {k : Nat} {x : α} (h : l[k]? = some x) : l.take (k + 1) = l.take k ++ [x] := by
  obtain ⟨hk, rfl⟩ := List.getElem?_eq_some_iff.1 h
  rw [List.take_add_one, h]
  rfl
theorem at_lt {α : Type} {l : List α} {k : Nat} (h : k < l.length) : ∃ x, l[k]? = some x := ⟨_, List.getElem?_eq_getElem h⟩

theorem outB_f {n lo hi : Int} : outB n lo hi = false ↔ (lo ≤ n ∧ n ≤ hi) := by simp [outB]
theorem Ent.own_strm {Γ : Ctx} {env : Env} {cs cs1 cf : List Chunk} {c : Chunk} {ty b m n : Nat} {rows : List (List Tr)} (hp1 : cs.Perm (Chunk.strm ty b rows m :: cs1)) (hp2 : cs1.Perm (c :: cf)) (hm : m ≤ n) : Ent Γ env cs env [c, Chunk.strm ty b rows n] :=
  Ent.trans (Ent.take (Take.cons hp1 (Take.cons hp2 Take.nil))) (Ent.trans (Ent.more_strm hm) (Ent.perm (List.Perm.swap _ _ _)))
theorem agg_raw {w : World} {A : Nat → Prop} : ∀ {l : List Value} {v : Value}, (Tr.agg (l.map Tr.raw)).rd w A v → v = .agg l.toArray := by
  intro l v h
  unfold Tr.agg at h
  obtain ⟨vs, e, hr⟩ := h
  subst e
  congr 2
  induction l generalizing vs with
  | nil => simpa [RdC] using hr
  | cons u l ih =>
    obtain ⟨v, rest, rfl, hv, _, hr⟩ := hr
    have := rd_raw hv
    rw [this, ih rest hr]
theorem out_t (n lo hi : Int) (h : n < lo ∨ hi < n) : PFn Try.prog 27 [.int n, .int lo, .int hi] (· = .bool true) := by
  have := out_fn n lo hi
  rwa [show outB n lo hi = true from outB_eq.2 h] at this
theorem out_f (n lo hi : Int) (h : lo ≤ n ∧ n ≤ hi) : PFn Try.prog 27 [.int n, .int lo, .int hi] (· = .bool false) := by
  have := out_fn n lo hi
  rwa [show outB n lo hi = false by unfold outB; exact decide_eq_false (by omega)] at this

section
variable {Γ : Ctx} {env : Env} {cs : List Chunk} {x y : Operand} {T2 ty : TypeId}
theorem OpV.eqb {a b : Bool} (hx : ev env x = some (Tr.bool a)) (hy : ev env y = some (Tr.bool b)) : OpV Try.prog Γ (.binOp .eql 4 x y T2) ty env cs (.bool (a == b)) := by
  unfold OpV
  intro ac w d
  have h1 := rd_raw (d.ev hx)
  have h2 := rd_raw (d.ev hy)
  have h3 := run_eql_bool (P := Try.prog) w 4 a b Try.underlying4
  exact ⟨.bool (a == b), by simp [execOp, h1, h2, h3, eqGuard], by unfold Tr.bool Tr.raw; rfl⟩
end
end Lg
