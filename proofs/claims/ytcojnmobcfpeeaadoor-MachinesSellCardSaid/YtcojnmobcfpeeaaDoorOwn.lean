/- A part of the proof of a law of this seat: it adds no condition. By an AI agent. -/
import Derived.Test.YtcojnmobcfpeeaaDoorLgGo
import Derived.Test.YtcojnmobcfpeeaaDoorTypes
section
set_option linter.all false
set_option maxRecDepth 100000
set_option maxHeartbeats 1000000
namespace Lg
open Go Go.Proofs

theorem tmod_range (x n : Int) (hn : 1 ≤ n) : -n < x.tmod n ∧ x.tmod n < n := by
 rw [tmod_eq_if]
 have h1 := Int.emod_nonneg x (show n ≠ 0 by omega)
 have h2 := Int.emod_lt_of_pos x (show 0 < n by omega)
 have h3 := Int.emod_nonneg (-x) (show n ≠ 0 by omega)
 have h4 := Int.emod_lt_of_pos (-x) (show 0 < n by omega)
 split <;> omega

/-- a number of a range, or 0 -/
def InRange (n v : Int) : Prop := 0 ≤ v ∧ (v < n ∨ v = 0)

theorem below_fn (x n : Int) (hn : -9223372036854775808 ≤ n ∧ n ≤ 9223372036854775807) : PFn Tryd.prog 50 [.int x, .int n] (fun r => ∃ v, r = .int v ∧ InRange n v) := by
 refine PFn.mk (Spec.body Tryd.func50 rfl rfl (Tryd.ntmps50) rfl fun w0 own0 M => ?_)
 by_cases h1 : n < 1
 ·repeat' (first | refine goH ?_ | refine goV ?_ | refine goI ?_ | (refine Cw.k_cond ?_; first | (refine Cw.cond_dec rfl ?_ ?_ <;> intro hc <;> try omega) | refine Cw.cond_bool rfl ?_ ?_ <;> intro hc) | fail)
  refine Fin.ret Ent.refl (Outs.one rfl rfl) ⟨rfl, 0, rfl, ?_⟩
  exact ⟨Int.le_refl _, .inr rfl⟩
 ·have ht := tmod_range x n (by omega)
  repeat' (first | refine goH ?_ | refine goV ?_ | refine goI ?_ | (refine Cw.k_cond ?_; first | (refine Cw.cond_dec rfl ?_ ?_ <;> intro hc <;> try omega) | refine Cw.cond_bool rfl ?_ ?_ <;> intro hc) | fail)
  all_goals (refine Fin.ret Ent.refl (Outs.one rfl rfl) ⟨rfl, _, rfl, ?_⟩; unfold InRange; omega)

/-- the Stream's own Next -/
theorem next_gen (n : Int) (hn : -9223372036854775808 ≤ n ∧ n ≤ 9223372036854775807) :
  Gen Tryd.prog 25 10 [.int n] 1 (fun r => ∃ v, r = .int v ∧ InRange n v) := by
 unfold Gen
 intro b xs N hN
 refine Spec.body Tryd.func10 rfl rfl (Tryd.ntmps10) rfl fun w0 own0 M => ?_
 refine Cw.open_strm fun m hm => ?_
 by_cases h0 : (intRows xs).length = 0
 ·repeat' (first | refine goH ?_ | refine goV ?_ | refine goI ?_ | (refine Cw.k_cond ?_; first | (refine Cw.cond_dec rfl ?_ ?_ <;> intro hc <;> try omega) | refine Cw.cond_bool rfl ?_ ?_ <;> intro hc) | (refine Ops.k_calla ?_; first | (refine Ops.k_callf 50 ?_; (refine Ops.callF (below_fn _ _ (by omega)) (Evs.cons rfl (Evs.cons rfl Evs.nil)) rfl ?_; rintro r ⟨v, rfl, hv⟩))) | refine goR ?_ | refine goP ?_ | apply PSeq.cons | apply PSeq.yes rfl rfl rfl | exact goW | fail)
  refine Fin.ret (Ent.shut_strm (m := m + 1) (n := N + 1) (by omega)) (Outs.one rfl rfl) ⟨rfl, v, rfl, hv⟩
 ·have hlt : ((↑m + 1 - 1) % ↑(intRows xs).length : Int).toNat < (intRows xs).length := by
   have h1 := Int.emod_nonneg ((m : Int) + 1 - 1) (show ((intRows xs).length : Int) ≠ 0 by omega)
   have h2 := Int.emod_lt_of_pos ((m : Int) + 1 - 1) (show 0 < ((intRows xs).length : Int) by omega)
   omega
  obtain ⟨y, hy⟩ : ∃ y, (intRows xs)[((↑m + 1 - 1) % ↑(intRows xs).length : Int).toNat]? = some [Tr.int y] := by
   have hlt' := hlt
   generalize ((↑m + 1 - 1) % ↑(intRows xs).length : Int).toNat = j at hlt'
   rw [intRows_len] at hlt'
   exact ⟨xs[j], by simp [intRows, hlt']⟩
  have hi0 := Int.emod_nonneg ((m : Int) + 1 - 1) (show ((intRows xs).length : Int) ≠ 0 by omega)
  repeat' (first | refine goH ?_ | refine goV ?_ | (refine Ops.k_b_mul ?_; first | refine Ops.mulW rfl rfl rfl ?_) | (refine Ops.k_b_add ?_; first | refine Ops.addW rfl rfl rfl ?_) | refine goI ?_ | (refine Cw.k_cond ?_; first | (refine Cw.cond_dec rfl ?_ ?_ <;> intro hc <;> try omega) | refine Cw.cond_bool rfl ?_ ?_ <;> intro hc) | (refine Ops.k_calla ?_; first | (refine Ops.k_callf 50 ?_; (refine Ops.callF (below_fn _ _ (by omega)) (Evs.cons rfl (Evs.cons rfl Evs.nil)) rfl ?_; rintro r ⟨v, rfl, hv⟩))) | refine goR ?_ | refine goP ?_ | apply PSeq.cons | apply PSeq.yes rfl rfl rfl | exact goW | fail)
  refine Fin.ret (Ent.shut_strm (m := m + 1) (n := N + 1) (by omega)) (Outs.one rfl rfl) ⟨rfl, v, rfl, hv⟩

theorem flip_gen (n : Int) (h : -1000000000000 ≤ n ∧ n ≤ 1000000000000) :
  Gen Tryd.prog 25 20 [.int n] 1 (fun r => ∃ v, r = .bool v) := by
 unfold Gen
 intro b xs N hN
 refine Spec.body Tryd.func20 rfl rfl (Tryd.ntmps20) rfl fun w0 own0 M => ?_
 repeat' (first | refine goH ?_ | refine goV ?_ | refine goI ?_ | (refine Cw.k_cond ?_; first | (refine Cw.cond_dec rfl ?_ ?_ <;> intro hc <;> try omega) | refine Cw.cond_bool rfl ?_ ?_ <;> intro hc) | (refine Ops.k_calla ?_; first | (refine Ops.k_callf 10 ?_; (refine Ops.callG (next_gen _ (by omega)) (Evs.cons rfl (Evs.cons rfl Evs.nil)) goPk (by omega) rfl ?_; rintro r ⟨v, rfl, hv⟩; unfold InRange at hv))) | fail)
 exact Fin.ret Ent.refl (Outs.one rfl rfl) ⟨rfl, _, rfl⟩

/-- a list of the numbers of a slice of one cell each -/
inductive IsInts : List (List Tr) → List Int → Prop
 |nil : IsInts [] []
 |cons {rows : List (List Tr)} {l : List Int} {x : Int} (h : IsInts rows l) : IsInts ([Tr.int x] :: rows) (x :: l)
theorem IsInts.eq {rows : List (List Tr)} {l : List Int} (h : IsInts rows l) : rows = intRows l := by
 induction h with
 |nil => rfl
 |cons h ih => rw [ih]; rfl

/-- one of some numbers -/
theorem pick_gen {rows : List (List Tr)} {l : List Int} (hr : IsInts rows l) (h : 0 < l.length ∧ l.length ≤ 100000) :
  Gen Tryd.prog 25 12 [.sl 1 rows] 1 (fun r => ∃ v, r = .int v ∧ v ∈ l) := by
 have h := hr.eq
 subst h
 unfold Gen
 intro b xs N hN
 refine Spec.body Tryd.func12 rfl rfl (Tryd.ntmps12) rfl fun w0 own0 M => ?_
 have hl := intRows_len l
 repeat' (first | refine goH ?_ | refine goV ?_ | refine goI ?_ | (refine Cw.k_cond ?_; first | (refine Cw.cond_dec rfl ?_ ?_ <;> intro hc <;> try omega) | refine Cw.cond_bool rfl ?_ ?_ <;> intro hc) | (refine Ops.k_calla ?_; first | (refine Ops.k_callf 10 ?_; (refine Ops.callG (next_gen _ (by omega)) (Evs.cons rfl (Evs.cons rfl Evs.nil)) goPk (by omega) rfl ?_; rintro r ⟨v, rfl, hv⟩; unfold InRange at hv; have hj : v.toNat < l.length := (by omega); have hj2 := intRows_get hj))) | fail)
 exact Fin.ret Ent.refl (Outs.one rfl rfl) ⟨rfl, _, rfl, List.getElem_mem hj⟩

def outB (n lo hi : Int) : Bool := decide (n < lo ∨ hi < n)
theorem outB_eq {n lo hi : Int} : outB n lo hi = true ↔ (n < lo ∨ hi < n) := by simp [outB]
theorem out_fn (n lo hi : Int) : PFn Tryd.prog 45 [.int n, .int lo, .int hi] (· = .bool (outB n lo hi)) := by
 refine PFn.mk (Spec.body Tryd.func45 rfl rfl (Tryd.ntmps45) rfl fun w0 own0 M => ?_)
 by_cases h1 : n < lo
 ·repeat' (first | refine goH ?_ | refine goV ?_ | refine goG ?_ | (refine Ops.k_guard ?_; first | (refine Ops.guard_dec rfl rfl ?_ ?_ <;> intro hc <;> try omega) | refine Ops.guard_split rfl rfl ?_ ?_ <;> intro hc) | refine goI ?_ | (refine Cw.k_cond ?_; first | (refine Cw.cond_dec rfl ?_ ?_ <;> intro hc <;> try omega) | refine Cw.cond_bool rfl ?_ ?_ <;> intro hc) | fail)
  refine Fin.ret Ent.refl (Outs.one rfl rfl) ⟨rfl, congrArg Tr.bool ?_⟩
  simp [outB, h1]
 ·repeat' (first | refine goH ?_ | refine goV ?_ | refine goG ?_ | (refine Ops.k_guard ?_; first | (refine Ops.guard_dec rfl rfl ?_ ?_ <;> intro hc <;> try omega) | refine Ops.guard_split rfl rfl ?_ ?_ <;> intro hc) | refine goI ?_ | (refine Cw.k_cond ?_; first | (refine Cw.cond_dec rfl ?_ ?_ <;> intro hc <;> try omega) | refine Cw.cond_bool rfl ?_ ?_ <;> intro hc) | fail)
  all_goals (refine Fin.ret Ent.refl (Outs.one rfl rfl) ⟨rfl, congrArg Tr.bool ?_⟩)
  all_goals simp [outB, h1]
theorem rows_at {α : Type} {f : α → List Tr} {l : List α} {k : Nat} {x : α} (h : l[k]? = some x) : (l.map f)[k]? = some (f x) := by
 rw [List.getElem?_map, h]
 rfl

def idxFrom {α : Type} (p : α → Bool) : List α → Int → Int
 |[], _ => -1
 |x :: l, k => if p x then k else idxFrom p l (k + 1)

theorem idxFrom_drop {α : Type} (p : α → Bool) {l : List α} {k : Nat} {x : α} (h : l[k]? = some x) : idxFrom p (l.drop k) k = if p x then (k : Int) else idxFrom p (l.drop (k + 1)) ((k + 1 : Nat) : Int) := by
 obtain ⟨hk, rfl⟩ := List.getElem?_eq_some_iff.1 h
 rw [List.drop_eq_getElem_cons hk, idxFrom]
 rfl

theorem idxFrom_ge {α : Type} (p : α → Bool) : ∀ (l : List α) (k : Int), 0 ≤ k → (0 ≤ idxFrom p l k ↔ l.any p = true)
 |[], k, _ => by simp [idxFrom]
 |x :: l, k, hk => by
  unfold idxFrom
  by_cases h : p x = true
  ·simp [h, hk]
  ·simp [h, idxFrom_ge p l (k + 1) (by omega)]
end Lg
end
section
set_option linter.all false
set_option maxRecDepth 100000
set_option maxHeartbeats 1000000
namespace Lg
open Go Go.Proofs

theorem drop_at {α : Type} {l : List α} {k : Nat} {x : α} (h : l[k]? = some x) : l.drop k = x :: l.drop (k + 1) := by
 obtain ⟨hk, rfl⟩ := List.getElem?_eq_some_iff.1 h
 exact List.drop_eq_getElem_cons hk
theorem take_at {α : Type} {l : List α} {k : Nat} {x : α} (h : l[k]? = some x) : l.take (k + 1) = l.take k ++ [x] := by
 obtain ⟨hk, rfl⟩ := List.getElem?_eq_some_iff.1 h
 rw [List.take_add_one, h]
 rfl
theorem at_lt {α : Type} {l : List α} {k : Nat} (h : k < l.length) : ∃ x, l[k]? = some x := ⟨_, List.getElem?_eq_getElem h⟩

theorem outB_f {n lo hi : Int} : outB n lo hi = false ↔ (lo ≤ n ∧ n ≤ hi) := by simp [outB]
theorem Ent.own_strm {Γ : Ctx} {env : Env} {cs cs1 cf : List Chunk} {c : Chunk} {ty b m n : Nat} {rows : List (List Tr)} (hp1 : cs.Perm (Chunk.strm ty b rows m :: cs1)) (hp2 : cs1.Perm (c :: cf)) (hm : m ≤ n) : Ent Γ env cs env [c, Chunk.strm ty b rows n] :=
 Ent.trans (Ent.take (Take.cons hp1 (Take.cons hp2 Take.nil))) (Ent.trans (Ent.more_strm hm) (Ent.perm (List.Perm.swap _ _ _)))
theorem agg_raw {w : World} {A : Nat → Prop} : ∀ {l : List Value} {v : Value}, (Tr.agg (l.map Tr.raw)).rd w A v → v = .agg l.toArray := by
 intro l v h
 unfold Tr.agg at h
 obtain ⟨vs, e, hr⟩ := h
 subst e
 congr 2
 induction l generalizing vs with
 |nil => simpa [RdC] using hr
 |cons u l ih =>
  obtain ⟨v, rest, rfl, hv, _, hr⟩ := hr
  have := rd_raw hv
  rw [this, ih rest hr]
section
variable {Γ : Ctx} {env : Env} {cs : List Chunk} {x y : Operand} {T2 ty : TypeId}
theorem OpV.eqb {a b : Bool} (hx : ev env x = some (Tr.bool a)) (hy : ev env y = some (Tr.bool b)) : OpV Tryd.prog Γ (.binOp .eql 4 x y T2) ty env cs (.bool (a == b)) := by
 unfold OpV
 intro ac w d
 have h1 := rd_raw (d.ev hx)
 have h2 := rd_raw (d.ev hy)
 have h3 := run_eql_bool (P := Tryd.prog) w 4 a b Tryd.underlying4
 exact ⟨.bool (a == b), by simp [execOp, h1, h2, h3, eqGuard], by unfold Tr.bool Tr.raw; rfl⟩
end
end Lg
end
section
set_option linter.all false
set_option maxRecDepth 100000
set_option maxHeartbeats 2000000
namespace Lg
open Go Go.Proofs

@[simp] theorem rowsOf_len (k n : Nat) (ts : List Tr) : (rowsOf k n ts).length = n := by simp [rowsOf]
theorem equalInts_same (xs : List Int) (h : xs.length ≤ 1000000000) : PFn Tryd.prog 17 [.ints xs, .ints xs] (· = .bool true) := by
 refine PFn.mk (Spec.body Tryd.func17 rfl rfl (Tryd.ntmps17) rfl fun w0 own0 M => ?_)
 have hL := intRows_len xs
 repeat' (first | refine goH ?_ | refine goV ?_ | refine goB (fun b => ?_) | refine goC (fun ad cap => ?_) | refine goG ?_ | (refine Ops.k_guard ?_; first | (refine Ops.guard_dec rfl rfl ?_ ?_ <;> intro hc <;> try omega) | refine Ops.guard_split rfl rfl ?_ ?_ <;> intro hc) | refine goI ?_ | (refine Cw.k_cond ?_; first | (refine Cw.cond_dec rfl ?_ ?_ <;> intro hc <;> try omega) | refine Cw.cond_bool rfl ?_ ?_ <;> intro hc) | refine goR ?_ | refine goP ?_ | apply PSeq.cons | apply PSeq.yes rfl rfl rfl | exact goW | fail)
 refine Cw.loop (ι := Nat) (fun k => k ≤ xs.length) (fun k => [(0, .ints xs), (1, .ints xs), (11, .ints xs), (12, .int (intRows xs).length), (13, .int k)]) (fun _ => []) (fun k => xs.length - k) ⟨0, by omega, (Ent.mk goSub goTk)⟩ ?_
 intro k hk
 by_cases hkl : k < xs.length
 ·obtain ⟨d, hd⟩ : ∃ x, xs[k]? = some x := ⟨_, List.getElem?_eq_getElem hkl⟩
  have hrow := intRows_at hd
  repeat' (first | refine goH ?_ | refine goV ?_ | refine goB (fun b => ?_) | refine goC (fun ad cap => ?_) | refine goG ?_ | (refine Ops.k_guard ?_; first | (refine Ops.guard_dec rfl rfl ?_ ?_ <;> intro hc <;> try omega) | refine Ops.guard_split rfl rfl ?_ ?_ <;> intro hc) | refine goI ?_ | (refine Cw.k_cond ?_; first | (refine Cw.cond_dec rfl ?_ ?_ <;> intro hc <;> try omega) | refine Cw.cond_bool rfl ?_ ?_ <;> intro hc) | refine goR ?_ | refine goP ?_ | apply PSeq.cons | apply PSeq.yes rfl rfl rfl | exact goW | fail)
  exact ⟨k + 1, by omega, by omega, (Ent.mk goSub goTk)⟩
 ·repeat' (first | refine goH ?_ | refine goV ?_ | refine goB (fun b => ?_) | refine goC (fun ad cap => ?_) | refine goG ?_ | (refine Ops.k_guard ?_; first | (refine Ops.guard_dec rfl rfl ?_ ?_ <;> intro hc <;> try omega) | refine Ops.guard_split rfl rfl ?_ ?_ <;> intro hc) | refine goI ?_ | (refine Cw.k_cond ?_; first | (refine Cw.cond_dec rfl ?_ ?_ <;> intro hc <;> try omega) | refine Cw.cond_bool rfl ?_ ?_ <;> intro hc) | refine goR ?_ | refine goP ?_ | apply PSeq.cons | apply PSeq.yes rfl rfl rfl | exact goW | fail)
  exact Fin.ret Ent.refl (Outs.one rfl rfl) ⟨rfl, rfl⟩
end Lg
end
