/- A part of the proof of a law of this seat: it adds no condition. By an AI agent. -/
import Derived.Test.YtfgcjpkkbhnkgaaGreatDoorLgGo
import Derived.Test.YtfgcjpkkbhnkgaaGreatDoorTypes
section
set_option linter.all false
set_option maxRecDepth 100000
set_option maxHeartbeats 1000000
namespace Lg
open Go Go.Proofs

theorem tmod_range (x n : Int) (hn : 1 ≤ n) : -n < x.tmod n ∧ x.tmod n < n := by
 rw [tmod_eq_if]
 have h1 := Int.emod_nonneg x (show n ≠ 0 by omega)
 have h2 := Int.emod_lt_of_pos x (show 0 < n by omega)
 have h3 := Int.emod_nonneg (-x) (show n ≠ 0 by omega)
 have h4 := Int.emod_lt_of_pos (-x) (show 0 < n by omega)
 split <;> omega

/-- a number of a range, or 0 -/
def InRange (n v : Int) : Prop := 0 ≤ v ∧ (v < n ∨ v = 0)

theorem below_fn (x n : Int) (hn : -9223372036854775808 ≤ n ∧ n ≤ 9223372036854775807) : PFn Tryz.prog 23 [.int x, .int n] (fun r => ∃ v, r = .int v ∧ InRange n v) := by
 refine PFn.mk (Spec.body Tryz.func23 rfl rfl (Tryz.ntmps23) rfl fun w0 own0 M => ?_)
 by_cases h1 : n < 1
 ·repeat' (first | refine goH ?_ | refine goV ?_ | refine goI ?_ | (refine Cw.k_cond ?_; first | (refine Cw.cond_dec rfl ?_ ?_ <;> intro hc <;> try omega) | refine Cw.cond_bool rfl ?_ ?_ <;> intro hc) | fail)
  refine Fin.ret Ent.refl (Outs.one rfl rfl) ⟨rfl, 0, rfl, ?_⟩
  exact ⟨Int.le_refl _, .inr rfl⟩
 ·have ht := tmod_range x n (by omega)
  repeat' (first | refine goH ?_ | refine goV ?_ | refine goI ?_ | (refine Cw.k_cond ?_; first | (refine Cw.cond_dec rfl ?_ ?_ <;> intro hc <;> try omega) | refine Cw.cond_bool rfl ?_ ?_ <;> intro hc) | fail)
  all_goals (refine Fin.ret Ent.refl (Outs.one rfl rfl) ⟨rfl, _, rfl, ?_⟩; unfold InRange; omega)

/-- the Stream's own Next -/
theorem next_gen (n : Int) (hn : -9223372036854775808 ≤ n ∧ n ≤ 9223372036854775807) :
  Gen Tryz.prog 25 6 [.int n] 1 (fun r => ∃ v, r = .int v ∧ InRange n v) := by
 unfold Gen
 intro b xs N hN
 refine Spec.body Tryz.func6 rfl rfl (Tryz.ntmps6) rfl fun w0 own0 M => ?_
 refine Cw.open_strm fun m hm => ?_
 by_cases h0 : (intRows xs).length = 0
 ·repeat' (first | refine goH ?_ | refine goV ?_ | refine goI ?_ | (refine Cw.k_cond ?_; first | (refine Cw.cond_dec rfl ?_ ?_ <;> intro hc <;> try omega) | refine Cw.cond_bool rfl ?_ ?_ <;> intro hc) | (refine Ops.k_calla ?_; first | (refine Ops.k_callf 23 ?_; (refine Ops.callF (below_fn _ _ (by omega)) (Evs.cons rfl (Evs.cons rfl Evs.nil)) rfl ?_; rintro r ⟨v, rfl, hv⟩))) | refine goR ?_ | refine goP ?_ | apply PSeq.cons | apply PSeq.yes rfl rfl rfl | exact goW | fail)
  refine Fin.ret (Ent.shut_strm (m := m + 1) (n := N + 1) (by omega)) (Outs.one rfl rfl) ⟨rfl, v, rfl, hv⟩
 ·have hlt : ((↑m + 1 - 1) % ↑(intRows xs).length : Int).toNat < (intRows xs).length := by
   have h1 := Int.emod_nonneg ((m : Int) + 1 - 1) (show ((intRows xs).length : Int) ≠ 0 by omega)
   have h2 := Int.emod_lt_of_pos ((m : Int) + 1 - 1) (show 0 < ((intRows xs).length : Int) by omega)
   omega
  obtain ⟨y, hy⟩ : ∃ y, (intRows xs)[((↑m + 1 - 1) % ↑(intRows xs).length : Int).toNat]? = some [Tr.int y] := by
   have hlt' := hlt
   generalize ((↑m + 1 - 1) % ↑(intRows xs).length : Int).toNat = j at hlt'
   rw [intRows_len] at hlt'
   exact ⟨xs[j], by simp [intRows, hlt']⟩
  have hi0 := Int.emod_nonneg ((m : Int) + 1 - 1) (show ((intRows xs).length : Int) ≠ 0 by omega)
  repeat' (first | refine goH ?_ | refine goV ?_ | (refine Ops.k_b_mul ?_; first | refine Ops.mulW rfl rfl rfl ?_) | (refine Ops.k_b_add ?_; first | refine Ops.addW rfl rfl rfl ?_) | refine goI ?_ | (refine Cw.k_cond ?_; first | (refine Cw.cond_dec rfl ?_ ?_ <;> intro hc <;> try omega) | refine Cw.cond_bool rfl ?_ ?_ <;> intro hc) | (refine Ops.k_calla ?_; first | (refine Ops.k_callf 23 ?_; (refine Ops.callF (below_fn _ _ (by omega)) (Evs.cons rfl (Evs.cons rfl Evs.nil)) rfl ?_; rintro r ⟨v, rfl, hv⟩))) | refine goR ?_ | refine goP ?_ | apply PSeq.cons | apply PSeq.yes rfl rfl rfl | exact goW | fail)
  refine Fin.ret (Ent.shut_strm (m := m + 1) (n := N + 1) (by omega)) (Outs.one rfl rfl) ⟨rfl, v, rfl, hv⟩

theorem range_gen (lo hi : Int) (h : -1000000000000 ≤ lo ∧ lo ≤ hi ∧ hi ≤ 1000000000000) :
  Gen Tryz.prog 25 7 [.int lo, .int hi] 1 (fun r => ∃ v, r = .int v ∧ lo ≤ v ∧ v ≤ hi) := by
 unfold Gen
 intro b xs N hN
 refine Spec.body Tryz.func7 rfl rfl (Tryz.ntmps7) rfl fun w0 own0 M => ?_
 repeat' (first | refine goH ?_ | refine goV ?_ | refine goI ?_ | (refine Cw.k_cond ?_; first | (refine Cw.cond_dec rfl ?_ ?_ <;> intro hc <;> try omega) | refine Cw.cond_bool rfl ?_ ?_ <;> intro hc) | (refine Ops.k_calla ?_; first | (refine Ops.k_callf 6 ?_; (refine Ops.callG (next_gen _ (by omega)) (Evs.cons rfl (Evs.cons rfl Evs.nil)) goPk (by omega) rfl ?_; rintro r ⟨v, rfl, hv⟩; unfold InRange at hv))) | fail)
 exact Fin.ret Ent.refl (Outs.one rfl rfl) ⟨rfl, _, rfl, by omega⟩


def outB (n lo hi : Int) : Bool := decide (n < lo ∨ hi < n)
theorem outB_eq {n lo hi : Int} : outB n lo hi = true ↔ (n < lo ∨ hi < n) := by simp [outB]
theorem out_fn (n lo hi : Int) : PFn Tryz.prog 19 [.int n, .int lo, .int hi] (· = .bool (outB n lo hi)) := by
 refine PFn.mk (Spec.body Tryz.func19 rfl rfl (Tryz.ntmps19) rfl fun w0 own0 M => ?_)
 by_cases h1 : n < lo
 ·repeat' (first | refine goH ?_ | refine goV ?_ | refine goG ?_ | (refine Ops.k_guard ?_; first | (refine Ops.guard_dec rfl rfl ?_ ?_ <;> intro hc <;> try omega) | refine Ops.guard_split rfl rfl ?_ ?_ <;> intro hc) | refine goI ?_ | (refine Cw.k_cond ?_; first | (refine Cw.cond_dec rfl ?_ ?_ <;> intro hc <;> try omega) | refine Cw.cond_bool rfl ?_ ?_ <;> intro hc) | fail)
  refine Fin.ret Ent.refl (Outs.one rfl rfl) ⟨rfl, congrArg Tr.bool ?_⟩
  simp [outB, h1]
 ·repeat' (first | refine goH ?_ | refine goV ?_ | refine goG ?_ | (refine Ops.k_guard ?_; first | (refine Ops.guard_dec rfl rfl ?_ ?_ <;> intro hc <;> try omega) | refine Ops.guard_split rfl rfl ?_ ?_ <;> intro hc) | refine goI ?_ | (refine Cw.k_cond ?_; first | (refine Cw.cond_dec rfl ?_ ?_ <;> intro hc <;> try omega) | refine Cw.cond_bool rfl ?_ ?_ <;> intro hc) | fail)
  all_goals (refine Fin.ret Ent.refl (Outs.one rfl rfl) ⟨rfl, congrArg Tr.bool ?_⟩)
  all_goals simp [outB, h1]
def dayB (n : Int) : Bool := !(outB n 0 4000)
theorem day_fn (n : Int) : PFn Tryz.prog 71 [.int n] (· = .bool (dayB n)) := by
 refine PFn.mk (Spec.body Tryz.func71 rfl rfl (Tryz.ntmps71) rfl fun w0 own0 M => ?_)
 repeat' (first | refine goH ?_ | refine goV ?_ | refine goI ?_ | (refine Cw.k_cond ?_; first | (refine Cw.cond_dec rfl ?_ ?_ <;> intro hc <;> try omega) | refine Cw.cond_bool rfl ?_ ?_ <;> intro hc) | (refine Ops.k_calla ?_; first | (refine Ops.k_callf 19 ?_; refine Ops.callV (out_fn _ _ _) (Evs.cons rfl (Evs.cons rfl (Evs.cons rfl Evs.nil))) rfl ?_)) | fail)
 exact Fin.ret Ent.refl (Outs.one rfl rfl) ⟨rfl, congrArg Tr.bool (by unfold dayB outB; rw [decide_not])⟩

theorem rows_at {α : Type} {f : α → List Tr} {l : List α} {k : Nat} {x : α} (h : l[k]? = some x) : (l.map f)[k]? = some (f x) := by
 rw [List.getElem?_map, h]
 rfl

def idxFrom {α : Type} (p : α → Bool) : List α → Int → Int
 |[], _ => -1
 |x :: l, k => if p x then k else idxFrom p l (k + 1)

theorem idxFrom_drop {α : Type} (p : α → Bool) {l : List α} {k : Nat} {x : α} (h : l[k]? = some x) : idxFrom p (l.drop k) k = if p x then (k : Int) else idxFrom p (l.drop (k + 1)) ((k + 1 : Nat) : Int) := by
 obtain ⟨hk, rfl⟩ := List.getElem?_eq_some_iff.1 h
 rw [List.drop_eq_getElem_cons hk, idxFrom]
 rfl

theorem idxFrom_ge {α : Type} (p : α → Bool) : ∀ (l : List α) (k : Int), 0 ≤ k → (0 ≤ idxFrom p l k ↔ l.any p = true)
 |[], k, _ => by simp [idxFrom]
 |x :: l, k, hk => by
  unfold idxFrom
  by_cases h : p x = true
  ·simp [h, hk]
  ·simp [h, idxFrom_ge p l (k + 1) (by omega)]
end Lg
end
section
set_option linter.all false
set_option maxRecDepth 100000
set_option maxHeartbeats 2000000
namespace Lg
open Go Go.Proofs

@[simp] theorem rowsOf_len (k n : Nat) (ts : List Tr) : (rowsOf k n ts).length = n := by simp [rowsOf]
theorem intRows_app (a b : List Int) : intRows (a ++ b) = intRows a ++ intRows b := by simp [intRows]

end Lg
end
section
set_option linter.all false
set_option maxRecDepth 100000
set_option maxHeartbeats 1000000
namespace Lg
open Go Go.Proofs

theorem drop_at {α : Type} {l : List α} {k : Nat} {x : α} (h : l[k]? = some x) : l.drop k = x :: l.drop (k + 1) := by
 obtain ⟨hk, rfl⟩ := List.getElem?_eq_some_iff.1 h
 exact List.drop_eq_getElem_cons hk
theorem take_at {α : Type} {l : List α} {k : Nat} {x : α} (h : l[k]? = some x) : l.take (k + 1) = l.take k ++ [x] := by
 obtain ⟨hk, rfl⟩ := List.getElem?_eq_some_iff.1 h
 rw [List.take_add_one, h]
 rfl
theorem at_lt {α : Type} {l : List α} {k : Nat} (h : k < l.length) : ∃ x, l[k]? = some x := ⟨_, List.getElem?_eq_getElem h⟩

theorem outB_f {n lo hi : Int} : outB n lo hi = false ↔ (lo ≤ n ∧ n ≤ hi) := by simp [outB]
theorem agg_raw {w : World} {A : Nat → Prop} : ∀ {l : List Value} {v : Value}, (Tr.agg (l.map Tr.raw)).rd w A v → v = .agg l.toArray := by
 intro l v h
 unfold Tr.agg at h
 obtain ⟨vs, e, hr⟩ := h
 subst e
 congr 2
 induction l generalizing vs with
 |nil => simpa [RdC] using hr
 |cons u l ih =>
  obtain ⟨v, rest, rfl, hv, _, hr⟩ := hr
  have := rd_raw hv
  rw [this, ih rest hr]
theorem out_t (n lo hi : Int) (h : n < lo ∨ hi < n) : PFn Tryz.prog 19 [.int n, .int lo, .int hi] (· = .bool true) := by
 have := out_fn n lo hi
 rwa [show outB n lo hi = true from outB_eq.2 h] at this
theorem out_f (n lo hi : Int) (h : lo ≤ n ∧ n ≤ hi) : PFn Tryz.prog 19 [.int n, .int lo, .int hi] (· = .bool false) := by
 have := out_fn n lo hi
 rwa [show outB n lo hi = false by unfold outB; exact decide_eq_false (by omega)] at this

section
variable {Γ : Ctx} {env : Env} {cs : List Chunk} {x y : Operand} {T2 ty : TypeId}
theorem OpV.eqb {a b : Bool} (hx : ev env x = some (Tr.bool a)) (hy : ev env y = some (Tr.bool b)) : OpV Tryz.prog Γ (.binOp .eql 4 x y T2) ty env cs (.bool (a == b)) := by
 unfold OpV
 intro ac w d
 have h1 := rd_raw (d.ev hx)
 have h2 := rd_raw (d.ev hy)
 have h3 := run_eql_bool (P := Tryz.prog) w 4 a b Tryz.underlying4
 exact ⟨.bool (a == b), by simp [execOp, h1, h2, h3, eqGuard], by unfold Tr.bool Tr.raw; rfl⟩
end
end Lg
end
