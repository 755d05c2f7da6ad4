/- A part of the proof of a law of this seat: it adds no condition. By an AI agent. -/
import Derived.Test.YtgjiiacknhdabaaDoorStr
import Derived.Test.YtgjiiacknhdabaaDoorOwn
import Derived.Test.YtgjiiacknhdabaaDoorKey
set_option linter.all false
set_option maxRecDepth 100000
set_option maxHeartbeats 4000000
namespace Lg
open Go Go.Proofs

def strRows (l : List ByteArray) : List (List Tr) := l.map fun x => [Tr.str x]
abbrev Tr.strs (l : List ByteArray) : Tr := Tr.sl 1 (strRows l)
theorem strRows_len (l : List ByteArray) : (strRows l).length = l.length := by simp [strRows]
theorem strRows_at {l : List ByteArray} {j : Nat} {x : ByteArray} (h : l[j]? = some x) : (strRows l)[j]? = some [Tr.str x] := rows_at h
theorem strRows_app (a b : List ByteArray) : strRows (a ++ b) = strRows a ++ strRows b := by simp [strRows]
theorem strRows_get {l : List ByteArray} {j : Nat} (h : j < l.length) : (strRows l)[j]? = some [Tr.str l[j]] := strRows_at (List.getElem?_eq_getElem h)
inductive IsStrs : List (List Tr) → List ByteArray → Prop
  | nil : IsStrs [] []
  | cons {rows : List (List Tr)} {l : List ByteArray} {x : ByteArray} (h : IsStrs rows l) : IsStrs ([Tr.str x] :: rows) (x :: l)
theorem IsStrs.eq {rows : List (List Tr)} {l : List ByteArray} (h : IsStrs rows l) : rows = strRows l := by
  induction h with
  | nil => rfl
  | cons h ih => rw [ih]; rfl
/-- one of some strings -/
theorem one_gen {rows : List (List Tr)} {l : List ByteArray} (hr : IsStrs rows l) (h : 0 < l.length ∧ l.length ≤ 100000) :
    Gen Tryd.prog 25 35 [.sl 1 rows] 1 (fun r => ∃ v, r = .str v ∧ v ∈ l) := by
  have h := hr.eq
  subst h
  unfold Gen
  intro b xs N hN
  refine Spec.body Tryd.func35 rfl rfl (Tryd.ntmps35) rfl fun w0 own0 M => ?_
  have hl := strRows_len l
  repeat' (first | refine goH ?_ | refine goV ?_ | refine goI ?_ | (refine Cw.k_cond ?_; first | (refine Cw.cond_dec rfl (fun hc => ?_) (fun hc => ?_) <;> try (exfalso; omega)) | refine Cw.cond_bool rfl (fun hc => ?_) (fun hc => ?_)) | (refine Ops.k_calla ?_; first | (refine Ops.k_callf 6 ?_; (refine Ops.callG (next_gen _ (by omega)) (Evs.cons rfl (Evs.cons rfl Evs.nil)) (by first | exact pick0 | (apply pickS; first | exact pick0 | (apply pickS; first | exact pick0 | (apply pickS; first | exact pick0 | (apply pickS; first | exact pick0 | (apply pickS; first | exact pick0 | (apply pickS; first | exact pick0 | (apply pickS; first | exact pick0 | (apply pickS; first | exact pick0 | (apply pickS; first | exact pick0 | (apply pickS; exact pick0))))))))))) (by omega) rfl ?_; rintro r ⟨v, rfl, hv⟩; unfold InRange at hv; have hj : v.toNat < l.length := (by omega); have hj2 := strRows_get hj))) | fail)
  exact Fin.ret Ent.refl (Outs.one rfl rfl) ⟨rfl, _, rfl, List.getElem_mem hj⟩
end Lg
