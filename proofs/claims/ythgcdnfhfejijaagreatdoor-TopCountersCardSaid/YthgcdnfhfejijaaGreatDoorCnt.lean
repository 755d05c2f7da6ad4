/- A part of the proof of a law of this seat: it adds no condition. By an AI agent. -/
import Derived.Test.YthgcdnfhfejijaaGreatDoorCmpOr
section
set_option linter.all false
set_option maxRecDepth 100000
set_option maxHeartbeats 4000000
namespace Lg
open Go Go.Proofs



end Lg
end
section
set_option linter.all false
set_option maxRecDepth 100000
set_option maxHeartbeats 4000000
namespace Lg
open Go Go.Proofs

theorem lotsErr_ok {l : List Lot} (h : lotsErr l = 0) : l.length ≤ 500 ∧ ∀ x ∈ l, isKey x.id = true ∧ isKey x.prod = true ∧ 0 ≤ x.exp ∧ x.exp ≤ 4000 ∧ 0 ≤ x.many ∧ x.many ≤ 100000 := by
 unfold lotsErr at h
 split at h
 ·omega
 ·refine ⟨by omega, fun x hx => ?_⟩
  obtain ⟨j, hj⟩ := List.getElem?_of_mem hx
  have hlt := (List.getElem?_eq_some_iff.1 hj).1
  have he := firstE_zero h j (by omega) (by omega)
  unfold lotE at he
  rw [hj] at he
  simp only at he
  split at he
  ·omega
  ·rename_i h1
   split at he
   ·omega
   ·unfold lotErr at he
    split at he
    ·omega
    ·rename_i h3
     split at he
     ·omega
     ·exact ⟨by simpa using h1, by simpa using h3, by omega, by omega, by omega, by omega⟩

end Lg
end
section
set_option linter.all false
set_option maxRecDepth 100000
set_option maxHeartbeats 4000000
namespace Lg
open Go Go.Proofs

def countI (l : List Lot) (p : ByteArray) : Int := sumF (fun x => if x.prod = p then x.many else 0) l
def countErr (l : List Lot) (p : ByteArray) : Int := if lotsErr l ≠ 0 then lotsErr l else if isKey p = false then 5 else 0
theorem count_fn (l : List Lot) (hl : l.length ≤ 1000000) (p : ByteArray) : PFn Tryz.prog 40 [.lots l, .str p] (· = .tup [.int (if countErr l p ≠ 0 then 0 else countI l p), .int (countErr l p)]) := by
 have h1 := checkLots_fn l hl
 have h2 := key_fn p
 refine PFn.mk (Spec.body Tryz.func40 rfl rfl (Tryz.ntmps40) rfl fun w0 own0 M => ?_)
 by_cases h0 : lotsErr l ≠ 0
 ·rw [show countErr l p = lotsErr l by unfold countErr; rw [if_pos h0], if_pos h0]
  repeat' (first | refine goH ?_ | refine goV ?_ | refine goB (fun b => ?_) | refine goI ?_ | (refine Cw.k_cond ?_; first | (refine Cw.cond_dec rfl ?_ ?_ <;> intro hc <;> try omega) | refine Cw.cond_bool rfl ?_ ?_ <;> intro hc) | (refine Ops.k_calla ?_; first | (refine Ops.k_callf 69 ?_; refine Ops.callV h1 (Evs.cons rfl Evs.nil) rfl ?_)) | fail)
  refine Fin.ret (Ent.take goTk) (Outs.many rfl (OutL.cons goOe (OutL.cons goOe OutL.nil)) rfl) ⟨rfl, rfl⟩
 have he : lotsErr l = 0 := by omega
 rw [he] at h1
 by_cases hk : isKey p = false
 ·rw [show countErr l p = 5 by unfold countErr; rw [if_neg h0, if_pos hk]]
  rw [hk] at h2
  repeat' (first | refine goH ?_ | refine goV ?_ | refine goB (fun b => ?_) | refine goI ?_ | (refine Cw.k_cond ?_; first | (refine Cw.cond_dec rfl ?_ ?_ <;> intro hc <;> try omega) | refine Cw.cond_bool rfl ?_ ?_ <;> intro hc) | (refine Ops.k_calla ?_; first | (refine Ops.k_callf 69 ?_; refine Ops.callV h1 (Evs.cons rfl Evs.nil) rfl ?_) | (refine Ops.k_callf 49 ?_; refine Ops.callV h2 (Evs.cons rfl Evs.nil) rfl ?_)) | fail)
  refine Fin.ret (Ent.take goTk) (Outs.many rfl (OutL.cons goOe (OutL.cons goOe OutL.nil)) rfl) ⟨rfl, rfl⟩
 rw [show countErr l p = 0 by unfold countErr; rw [if_neg h0, if_neg hk], if_neg (by decide)]
 replace hk : isKey p = true := by simpa using hk
 rw [hk] at h2
 obtain ⟨_, hx⟩ := lotsErr_ok he
 have hL : (l.map Lot.row).length = l.length := List.length_map _
 repeat' (first | refine goH ?_ | refine goV ?_ | refine goB (fun b => ?_) | refine goI ?_ | (refine Cw.k_cond ?_; first | (refine Cw.cond_dec rfl ?_ ?_ <;> intro hc <;> try omega) | refine Cw.cond_bool rfl ?_ ?_ <;> intro hc) | (refine Ops.k_calla ?_; first | (refine Ops.k_callf 69 ?_; refine Ops.callV h1 (Evs.cons rfl Evs.nil) rfl ?_) | (refine Ops.k_callf 49 ?_; refine Ops.callV h2 (Evs.cons rfl Evs.nil) rfl ?_)) | fail)
 refine Cw.loopI [(1, _), (18, _), (19, _)] _ (fun n e c => ∃ (k : Nat) (s : Int), n = l.length - k ∧ (k ≤ l.length ∧ s + countI (l.drop k) p = countI l p ∧ 0 ≤ s ∧ s ≤ 100000 * (k : Int)) ∧ e = [(7, .int s), (20, .int k)] ∧ c = []) ⟨_, _, _, (Ent.mkP goSub goPm), 0, 0, rfl, ⟨by omega, by simp, by omega, by omega⟩, rfl, rfl⟩ ?_
 rintro _ _ _ ⟨k, s, rfl, ⟨hk, hV, b1, b2⟩, rfl, rfl⟩
 by_cases hkl : k < l.length
 ·obtain ⟨x, hx'⟩ := at_lt hkl
  have hrow : (l.map Lot.row)[k]? = some [.str x.id, .str x.prod, .int x.exp, .int x.many] := rows_at hx'
  obtain ⟨_, _, _, _, m1, m2⟩ := hx x (List.mem_of_getElem? hx')
  rw [drop_at hx', countI, sumF_cons, ← countI] at hV
  by_cases hp : x.prod = p
  ·rw [if_pos hp] at hV
   repeat' (first | refine goH ?_ | refine goV ?_ | refine goB (fun b => ?_) | refine goI ?_ | (refine Cw.k_cond ?_; first | (refine Cw.cond_dec rfl ?_ ?_ <;> intro hc <;> try omega) | refine Cw.cond_bool rfl ?_ ?_ <;> intro hc) | fail)
   exact ⟨_, _, _, (Ent.mk goSub goTk), ⟨k + 1, _, rfl, ⟨by omega, by omega, by omega, by omega⟩, rfl, rfl⟩, by omega⟩
  ·rw [if_neg hp] at hV
   repeat' (first | refine goH ?_ | refine goV ?_ | refine goB (fun b => ?_) | refine goI ?_ | (refine Cw.k_cond ?_; first | (refine Cw.cond_dec rfl ?_ ?_ <;> intro hc <;> try omega) | refine Cw.cond_bool rfl ?_ ?_ <;> intro hc) | fail)
   exact ⟨_, _, _, (Ent.mk goSub goTk), ⟨k + 1, _, rfl, ⟨by omega, by omega, by omega, by omega⟩, rfl, rfl⟩, by omega⟩
 ·rw [List.drop_eq_nil_of_le (by omega), countI, sumF] at hV
  repeat' (first | refine goH ?_ | refine goV ?_ | refine goB (fun b => ?_) | refine goI ?_ | (refine Cw.k_cond ?_; first | (refine Cw.cond_dec rfl ?_ ?_ <;> intro hc <;> try omega) | refine Cw.cond_bool rfl ?_ ?_ <;> intro hc) | fail)
  refine Fin.ret (Ent.take goTk) (Outs.many rfl (OutL.cons goOe (OutL.cons goOe OutL.nil)) rfl) ⟨rfl, ?_⟩
  rw [show s = countI l p by omega]

end Lg
end
