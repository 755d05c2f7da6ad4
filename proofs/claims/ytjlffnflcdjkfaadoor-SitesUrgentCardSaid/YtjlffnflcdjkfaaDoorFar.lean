/- A part of the proof of a law of this seat: it adds no condition. By an AI agent. -/
import Derived.Test.YtjlffnflcdjkfaaDoorLst
import Derived.Test.YtjlffnflcdjkfaaDoorKey
import Derived.Test.YtjlffnflcdjkfaaDoorOwn
import Derived.Test.YtjlffnflcdjkfaaDoorLgX2
set_option linter.all false
set_option maxRecDepth 100000
set_option maxHeartbeats 4000000
namespace Lg
open Go Go.Proofs

structure Spot where
  x : Int
  y : Int
def Spot.row (s : Spot) : List Tr := [.int s.x, .int s.y]
def spotB (s : Spot) : Bool := decide (-10000 ≤ s.x ∧ s.x ≤ 10000 ∧ -10000 ≤ s.y ∧ s.y ≤ 10000)
def farI (a b : Spot) : Int := max (a.x - b.x) (b.x - a.x) + max (a.y - b.y) (b.y - a.y)
def SpBd (s : Spot) : Prop := -1000000 ≤ s.x ∧ s.x ≤ 1000000 ∧ -1000000 ≤ s.y ∧ s.y ≤ 1000000
theorem spotB_iff {s : Spot} : spotB s = true ↔ (-10000 ≤ s.x ∧ s.x ≤ 10000 ∧ -10000 ≤ s.y ∧ s.y ≤ 10000) := by simp [spotB]
theorem far_fn (a b : Spot) (ha : SpBd a) (hb : SpBd b) : PFn Tryd.prog 48 [.agg a.row, .agg b.row] (· = .int (farI a b)) := by
  obtain ⟨ax, ay⟩ := a
  obtain ⟨bx, by_⟩ := b
  unfold SpBd at ha hb
  simp only at ha hb
  refine PFn.mk (Spec.body Tryd.func48 rfl rfl (Tryd.ntmps48) rfl fun w0 own0 M => ?_)
  unfold Spot.row farI
  simp only
  repeat' (first | refine goH ?_ | refine goV ?_ | refine goB (fun b => ?_) | refine goI ?_ | (refine Cw.k_cond ?_; first | (refine Cw.cond_dec rfl (fun hc => ?_) (fun hc => ?_) <;> try (exfalso; omega)) | refine Cw.cond_bool rfl (fun hc => ?_) (fun hc => ?_)) | fail)
  exact Fin.ret (Ent.take (by repeat' (first | exact Take.nil | refine Take.cons (by first | exact pick0 | exact pickS pick0 | exact pickS (pickS pick0) | exact pickS (pickS (pickS pick0)) | exact pickS (pickS (pickS (pickS pick0)))) ?_))) (Outs.one rfl rfl) ⟨rfl, rfl⟩
theorem isSpot_fn (a : Spot) : PFn Tryd.prog 66 [.agg a.row] (· = .bool (spotB a)) := by
  obtain ⟨ax, ay⟩ := a
  refine PFn.mk (Spec.body Tryd.func66 rfl rfl (Tryd.ntmps66) rfl fun w0 own0 M => ?_)
  unfold Spot.row
  simp only
  by_cases h1 : -10000 ≤ ax ∧ ax ≤ 10000
  · by_cases h2 : -10000 ≤ ay ∧ ay ≤ 10000
    · repeat' (first | refine goH ?_ | refine goV ?_ | refine goB (fun b => ?_) | refine goG ?_ | (refine Ops.k_guard ?_; first | (refine Ops.guard_dec rfl rfl (fun hc => ?_) (fun hc => ?_) <;> try (exfalso; omega)) | refine Ops.guard_split rfl rfl (fun hc => ?_) (fun hc => ?_)) | refine goI ?_ | (refine Cw.k_cond ?_; first | (refine Cw.cond_dec rfl (fun hc => ?_) (fun hc => ?_) <;> try (exfalso; omega)) | refine Cw.cond_bool rfl (fun hc => ?_) (fun hc => ?_)) | (refine Ops.k_calla ?_; first | (refine Ops.k_callf 56 ?_; refine Ops.callV (out_f ax (-10000) 10000 (by omega)) (Evs.cons rfl (Evs.cons rfl (Evs.cons rfl Evs.nil))) rfl ?_) | (refine Ops.k_callf 56 ?_; refine Ops.callV (out_f ay (-10000) 10000 (by omega)) (Evs.cons rfl (Evs.cons rfl (Evs.cons rfl Evs.nil))) rfl ?_)) | fail)
      exact Fin.ret (Ent.take (by repeat' (first | exact Take.nil | refine Take.cons (by first | exact pick0 | exact pickS pick0 | exact pickS (pickS pick0) | exact pickS (pickS (pickS pick0)) | exact pickS (pickS (pickS (pickS pick0)))) ?_))) (Outs.one rfl rfl) ⟨rfl, congrArg Tr.bool (spotB_iff.2 ⟨h1.1, h1.2, h2.1, h2.2⟩).symm⟩
    · repeat' (first | refine goH ?_ | refine goV ?_ | refine goB (fun b => ?_) | refine goG ?_ | (refine Ops.k_guard ?_; first | (refine Ops.guard_dec rfl rfl (fun hc => ?_) (fun hc => ?_) <;> try (exfalso; omega)) | refine Ops.guard_split rfl rfl (fun hc => ?_) (fun hc => ?_)) | refine goI ?_ | (refine Cw.k_cond ?_; first | (refine Cw.cond_dec rfl (fun hc => ?_) (fun hc => ?_) <;> try (exfalso; omega)) | refine Cw.cond_bool rfl (fun hc => ?_) (fun hc => ?_)) | (refine Ops.k_calla ?_; first | (refine Ops.k_callf 56 ?_; refine Ops.callV (out_f ax (-10000) 10000 (by omega)) (Evs.cons rfl (Evs.cons rfl (Evs.cons rfl Evs.nil))) rfl ?_) | (refine Ops.k_callf 56 ?_; refine Ops.callV (out_t ay (-10000) 10000 (by omega)) (Evs.cons rfl (Evs.cons rfl (Evs.cons rfl Evs.nil))) rfl ?_)) | fail)
      refine Fin.ret (Ent.take (by repeat' (first | exact Take.nil | refine Take.cons (by first | exact pick0 | exact pickS pick0 | exact pickS (pickS pick0) | exact pickS (pickS (pickS pick0)) | exact pickS (pickS (pickS (pickS pick0)))) ?_))) (Outs.one rfl rfl) ⟨rfl, congrArg Tr.bool ?_⟩
      exact (decide_eq_false (fun h => h2 ⟨h.2.2.1, h.2.2.2⟩)).symm
  · repeat' (first | refine goH ?_ | refine goV ?_ | refine goB (fun b => ?_) | refine goG ?_ | (refine Ops.k_guard ?_; first | (refine Ops.guard_dec rfl rfl (fun hc => ?_) (fun hc => ?_) <;> try (exfalso; omega)) | refine Ops.guard_split rfl rfl (fun hc => ?_) (fun hc => ?_)) | refine goI ?_ | (refine Cw.k_cond ?_; first | (refine Cw.cond_dec rfl (fun hc => ?_) (fun hc => ?_) <;> try (exfalso; omega)) | refine Cw.cond_bool rfl (fun hc => ?_) (fun hc => ?_)) | (refine Ops.k_calla ?_; first | (refine Ops.k_callf 56 ?_; refine Ops.callV (out_t ax (-10000) 10000 (by omega)) (Evs.cons rfl (Evs.cons rfl (Evs.cons rfl Evs.nil))) rfl ?_)) | fail)
    refine Fin.ret (Ent.take (by repeat' (first | exact Take.nil | refine Take.cons (by first | exact pick0 | exact pickS pick0 | exact pickS (pickS pick0) | exact pickS (pickS (pickS pick0)) | exact pickS (pickS (pickS (pickS pick0)))) ?_))) (Outs.one rfl rfl) ⟨rfl, congrArg Tr.bool ?_⟩
    exact (decide_eq_false (fun h => h1 ⟨h.1, h.2.1⟩)).symm
def farE (a b : Spot) : Int := if spotB a = true ∧ spotB b = true then 0 else 1
theorem farU_fn (a b : Spot) : PFn Tryd.prog 33 [.agg a.row, .agg b.row] (· = .tup [.int (if farE a b ≠ 0 then 0 else farI a b), .int (farE a b)]) := by
  have k1 := isSpot_fn a
  have k2 := isSpot_fn b
  refine PFn.mk (Spec.body Tryd.func33 rfl rfl (Tryd.ntmps33) rfl fun w0 own0 M => ?_)
  cases h1 : spotB a
  · rw [h1] at k1
    have e : farE a b = 1 := by unfold farE; rw [h1, if_neg (by simp)]
    rw [e]
    unfold Spot.row at *
    repeat' (first | refine goH ?_ | refine goV ?_ | refine goB (fun b => ?_) | refine goG ?_ | (refine Ops.k_guard ?_; first | (refine Ops.guard_dec rfl rfl (fun hc => ?_) (fun hc => ?_) <;> try (exfalso; omega)) | refine Ops.guard_split rfl rfl (fun hc => ?_) (fun hc => ?_)) | refine goI ?_ | (refine Cw.k_cond ?_; first | (refine Cw.cond_dec rfl (fun hc => ?_) (fun hc => ?_) <;> try (exfalso; omega)) | refine Cw.cond_bool rfl (fun hc => ?_) (fun hc => ?_)) | (refine Ops.k_calla ?_; first | (refine Ops.k_callf 66 ?_; refine Ops.callV k1 (Evs.cons rfl Evs.nil) rfl ?_)) | fail)
    refine Fin.ret (Ent.take (by repeat' (first | exact Take.nil | refine Take.cons (by first | exact pick0 | exact pickS pick0 | exact pickS (pickS pick0) | exact pickS (pickS (pickS pick0)) | exact pickS (pickS (pickS (pickS pick0)))) ?_))) (Outs.many rfl (OutL.cons (by first | exact OutE.tmp rfl | exact OutE.agg inferInstance rfl rfl | exact OutE.one inferInstance rfl) (OutL.cons (by first | exact OutE.tmp rfl | exact OutE.agg inferInstance rfl rfl | exact OutE.one inferInstance rfl) OutL.nil)) rfl) ⟨rfl, rfl⟩
  rw [h1] at k1
  cases h2 : spotB b
  · rw [h2] at k2
    have e : farE a b = 1 := by unfold farE; rw [h2, if_neg (by simp)]
    rw [e]
    unfold Spot.row at *
    repeat' (first | refine goH ?_ | refine goV ?_ | refine goB (fun b => ?_) | refine goG ?_ | (refine Ops.k_guard ?_; first | (refine Ops.guard_dec rfl rfl (fun hc => ?_) (fun hc => ?_) <;> try (exfalso; omega)) | refine Ops.guard_split rfl rfl (fun hc => ?_) (fun hc => ?_)) | refine goI ?_ | (refine Cw.k_cond ?_; first | (refine Cw.cond_dec rfl (fun hc => ?_) (fun hc => ?_) <;> try (exfalso; omega)) | refine Cw.cond_bool rfl (fun hc => ?_) (fun hc => ?_)) | (refine Ops.k_calla ?_; first | (refine Ops.k_callf 66 ?_; refine Ops.callV k1 (Evs.cons rfl Evs.nil) rfl ?_) | (refine Ops.k_callf 66 ?_; refine Ops.callV k2 (Evs.cons rfl Evs.nil) rfl ?_)) | fail)
    refine Fin.ret (Ent.take (by repeat' (first | exact Take.nil | refine Take.cons (by first | exact pick0 | exact pickS pick0 | exact pickS (pickS pick0) | exact pickS (pickS (pickS pick0)) | exact pickS (pickS (pickS (pickS pick0)))) ?_))) (Outs.many rfl (OutL.cons (by first | exact OutE.tmp rfl | exact OutE.agg inferInstance rfl rfl | exact OutE.one inferInstance rfl) (OutL.cons (by first | exact OutE.tmp rfl | exact OutE.agg inferInstance rfl rfl | exact OutE.one inferInstance rfl) OutL.nil)) rfl) ⟨rfl, rfl⟩
  rw [h2] at k2
  have e : farE a b = 0 := by unfold farE; rw [if_pos ⟨h1, h2⟩]
  rw [e]
  have b1 := spotB_iff.1 h1
  have b2 := spotB_iff.1 h2
  have k3 := far_fn a b ⟨by omega, by omega, by omega, by omega⟩ ⟨by omega, by omega, by omega, by omega⟩
  unfold Spot.row at *
  repeat' (first | refine goH ?_ | refine goV ?_ | refine goB (fun b => ?_) | refine goG ?_ | (refine Ops.k_guard ?_; first | (refine Ops.guard_dec rfl rfl (fun hc => ?_) (fun hc => ?_) <;> try (exfalso; omega)) | refine Ops.guard_split rfl rfl (fun hc => ?_) (fun hc => ?_)) | refine goI ?_ | (refine Cw.k_cond ?_; first | (refine Cw.cond_dec rfl (fun hc => ?_) (fun hc => ?_) <;> try (exfalso; omega)) | refine Cw.cond_bool rfl (fun hc => ?_) (fun hc => ?_)) | (refine Ops.k_calla ?_; first | (refine Ops.k_callf 66 ?_; refine Ops.callV k1 (Evs.cons rfl Evs.nil) rfl ?_) | (refine Ops.k_callf 66 ?_; refine Ops.callV k2 (Evs.cons rfl Evs.nil) rfl ?_) | (refine Ops.k_callf 48 ?_; refine Ops.callV k3 (Evs.cons rfl (Evs.cons rfl Evs.nil)) rfl ?_)) | fail)
  refine Fin.ret (Ent.take (by repeat' (first | exact Take.nil | refine Take.cons (by first | exact pick0 | exact pickS pick0 | exact pickS (pickS pick0) | exact pickS (pickS (pickS pick0)) | exact pickS (pickS (pickS (pickS pick0)))) ?_))) (Outs.many rfl (OutL.cons (by first | exact OutE.tmp rfl | exact OutE.agg inferInstance rfl rfl | exact OutE.one inferInstance rfl) (OutL.cons (by first | exact OutE.tmp rfl | exact OutE.agg inferInstance rfl rfl | exact OutE.one inferInstance rfl) OutL.nil)) rfl) ⟨rfl, rfl⟩
theorem rounds_fn : PFn Tryd.prog 13 [] (· = .bool true) := by
  have h := farU_fn ⟨3, 0⟩ ⟨0, -4⟩
  have e1 : farE ⟨3, 0⟩ ⟨0, -4⟩ = 0 := by decide +kernel
  have e2 : farI ⟨3, 0⟩ ⟨0, -4⟩ = 7 := by decide +kernel
  rw [e1, e2] at h
  refine PFn.mk (Spec.body Tryd.func13 rfl rfl (Tryd.ntmps13) rfl fun w0 own0 M => ?_)
  unfold Spot.row at h
  repeat' (first | refine goH ?_ | refine goV ?_ | refine goG ?_ | (refine Ops.k_guard ?_; first | (refine Ops.guard_dec rfl rfl (fun hc => ?_) (fun hc => ?_) <;> try (exfalso; omega)) | refine Ops.guard_split rfl rfl (fun hc => ?_) (fun hc => ?_)) | refine goI ?_ | (refine Cw.k_cond ?_; first | (refine Cw.cond_dec rfl (fun hc => ?_) (fun hc => ?_) <;> try (exfalso; omega)) | refine Cw.cond_bool rfl (fun hc => ?_) (fun hc => ?_)) | (refine Ops.k_calla ?_; first | (refine Ops.k_callf 33 ?_; refine Ops.callV h (Evs.cons rfl (Evs.cons rfl Evs.nil)) rfl ?_)) | fail)
  exact Fin.ret (Ent.take (by repeat' (first | exact Take.nil | refine Take.cons (by first | exact pick0 | exact pickS pick0 | exact pickS (pickS pick0) | exact pickS (pickS (pickS pick0)) | exact pickS (pickS (pickS (pickS pick0)))) ?_))) (Outs.one rfl rfl) ⟨rfl, rfl⟩
end Lg
