/- A part of the proof of a law of this seat: it adds no condition. By an AI agent. -/
import Derived.Test.YtfecflnngkhneaaDoorAge2
set_option linter.all false
set_option maxRecDepth 100000
set_option maxHeartbeats 4000000
namespace Lg
open Go Go.Proofs

def freshP (p : ByteArray) (fr : Int) (x : Lot) : Int := if x.prod = p ∧ fr ≤ x.exp then x.many else 0
def freshI (l : List Lot) (p : ByteArray) (fr : Int) : Int := sumF (freshP p fr) l
def countI (l : List Lot) (p : ByteArray) : Int := sumF (fun x => if x.prod = p then x.many else 0) l
def countErr (l : List Lot) (p : ByteArray) : Int := if lotsErr l ≠ 0 then lotsErr l else if isKey p = false then 5 else 0
theorem countI_fresh {l : List Lot} {p : ByteArray} (h : ∀ x ∈ l, 0 ≤ x.exp) : freshI l p 0 = countI l p :=
  sumF_ext fun x hx => by
    unfold freshP
    by_cases hp : x.prod = p
    · rw [if_pos ⟨hp, h x hx⟩, if_pos hp]
    · rw [if_neg (fun h => hp h.1), if_neg hp]

theorem count_fn (l : List Lot) (hl : l.length ≤ 1000000) (p : ByteArray) : PFn Tryd.prog 24 [.lots l, .str p] (· = .tup [.int (if countErr l p ≠ 0 then 0 else countI l p), .int (countErr l p)]) := by
  have h1 := checkLots_fn l hl
  have h2 := key_fn p
  refine PFn.mk (Spec.body Tryd.func24 rfl rfl (Tryd.ntmps24) rfl fun w0 own0 M => ?_)
  by_cases h0 : lotsErr l ≠ 0
  · rw [show countErr l p = lotsErr l by unfold countErr; rw [if_pos h0], if_pos h0]
    repeat' (first | refine goH ?_ | refine goV ?_ | refine goB (fun b => ?_) | refine goI ?_ | (refine Cw.k_cond ?_; first | (refine Cw.cond_dec rfl (fun hc => ?_) (fun hc => ?_) <;> try (exfalso; omega)) | refine Cw.cond_bool rfl (fun hc => ?_) (fun hc => ?_)) | (refine Ops.k_calla ?_; first | (refine Ops.k_callf 23 ?_; refine Ops.callV h1 (Evs.cons rfl Evs.nil) rfl ?_)) | fail)
    refine Fin.ret (Ent.take (by repeat' (first | exact Take.nil | refine Take.cons (by first | exact pick0 | exact pickS pick0 | exact pickS (pickS pick0) | exact pickS (pickS (pickS pick0)) | exact pickS (pickS (pickS (pickS pick0)))) ?_))) (Outs.many rfl (OutL.cons (by first | exact OutE.tmp rfl | exact OutE.agg inferInstance rfl rfl | exact OutE.one inferInstance rfl) (OutL.cons (by first | exact OutE.tmp rfl | exact OutE.agg inferInstance rfl rfl | exact OutE.one inferInstance rfl) OutL.nil)) rfl) ⟨rfl, rfl⟩
  have he : lotsErr l = 0 := by omega
  rw [he] at h1
  by_cases hk : isKey p = false
  · rw [show countErr l p = 5 by unfold countErr; rw [if_neg h0, if_pos hk]]
    rw [hk] at h2
    repeat' (first | refine goH ?_ | refine goV ?_ | refine goB (fun b => ?_) | refine goI ?_ | (refine Cw.k_cond ?_; first | (refine Cw.cond_dec rfl (fun hc => ?_) (fun hc => ?_) <;> try (exfalso; omega)) | refine Cw.cond_bool rfl (fun hc => ?_) (fun hc => ?_)) | (refine Ops.k_calla ?_; first | (refine Ops.k_callf 23 ?_; refine Ops.callV h1 (Evs.cons rfl Evs.nil) rfl ?_) | (refine Ops.k_callf 53 ?_; refine Ops.callV h2 (Evs.cons rfl Evs.nil) rfl ?_)) | fail)
    refine Fin.ret (Ent.take (by repeat' (first | exact Take.nil | refine Take.cons (by first | exact pick0 | exact pickS pick0 | exact pickS (pickS pick0) | exact pickS (pickS (pickS pick0)) | exact pickS (pickS (pickS (pickS pick0)))) ?_))) (Outs.many rfl (OutL.cons (by first | exact OutE.tmp rfl | exact OutE.agg inferInstance rfl rfl | exact OutE.one inferInstance rfl) (OutL.cons (by first | exact OutE.tmp rfl | exact OutE.agg inferInstance rfl rfl | exact OutE.one inferInstance rfl) OutL.nil)) rfl) ⟨rfl, rfl⟩
  rw [show countErr l p = 0 by unfold countErr; rw [if_neg h0, if_neg hk], if_neg (by decide)]
  replace hk : isKey p = true := by simpa using hk
  rw [hk] at h2
  obtain ⟨_, hx⟩ := lotsErr_ok he
  have hL : (l.map Lot.row).length = l.length := List.length_map _
  repeat' (first | refine goH ?_ | refine goV ?_ | refine goB (fun b => ?_) | refine goI ?_ | (refine Cw.k_cond ?_; first | (refine Cw.cond_dec rfl (fun hc => ?_) (fun hc => ?_) <;> try (exfalso; omega)) | refine Cw.cond_bool rfl (fun hc => ?_) (fun hc => ?_)) | (refine Ops.k_calla ?_; first | (refine Ops.k_callf 23 ?_; refine Ops.callV h1 (Evs.cons rfl Evs.nil) rfl ?_) | (refine Ops.k_callf 53 ?_; refine Ops.callV h2 (Evs.cons rfl Evs.nil) rfl ?_)) | fail)
  refine Cw.loopI [(1, _), (18, _), (19, _)] _ (fun n e c => ∃ (k : Nat) (s : Int), n = l.length - k ∧ (k ≤ l.length ∧ s + countI (l.drop k) p = countI l p ∧ 0 ≤ s ∧ s ≤ 100000 * (k : Int)) ∧ e = [(7, .int s), (20, .int k)] ∧ c = []) ⟨_, _, _, (Ent.mkP (by repeat' (first | exact Sub.nil | refine Sub.cons rfl ?_)) (by repeat' (first | exact List.Perm.refl _ | refine Perm.cons' (by first | exact pick0 | exact pickS pick0 | exact pickS (pickS pick0) | exact pickS (pickS (pickS pick0)) | exact pickS (pickS (pickS (pickS pick0)))) ?_))), 0, 0, rfl, ⟨by omega, by simp, by omega, by omega⟩, rfl, rfl⟩ ?_
  rintro _ _ _ ⟨k, s, rfl, ⟨hk, hV, b1, b2⟩, rfl, rfl⟩
  by_cases hkl : k < l.length
  · obtain ⟨x, hx'⟩ := at_lt hkl
    have hrow : (l.map Lot.row)[k]? = some [.str x.id, .str x.prod, .int x.exp, .int x.many] := rows_at hx'
    obtain ⟨_, _, _, _, m1, m2⟩ := hx x (List.mem_of_getElem? hx')
    rw [drop_at hx', countI, sumF_cons, ← countI] at hV
    by_cases hp : x.prod = p
    · rw [if_pos hp] at hV
      repeat' (first | refine goH ?_ | refine goV ?_ | refine goB (fun b => ?_) | refine goI ?_ | (refine Cw.k_cond ?_; first | (refine Cw.cond_dec rfl (fun hc => ?_) (fun hc => ?_) <;> try (exfalso; omega)) | refine Cw.cond_bool rfl (fun hc => ?_) (fun hc => ?_)) | fail)
      exact ⟨_, _, _, (Ent.mk (by repeat' (first | exact Sub.nil | refine Sub.cons rfl ?_)) (by repeat' (first | exact Take.nil | refine Take.cons (by first | exact pick0 | exact pickS pick0 | exact pickS (pickS pick0) | exact pickS (pickS (pickS pick0)) | exact pickS (pickS (pickS (pickS pick0)))) ?_))), ⟨k + 1, _, rfl, ⟨by omega, by omega, by omega, by omega⟩, rfl, rfl⟩, by omega⟩
    · rw [if_neg hp] at hV
      repeat' (first | refine goH ?_ | refine goV ?_ | refine goB (fun b => ?_) | refine goI ?_ | (refine Cw.k_cond ?_; first | (refine Cw.cond_dec rfl (fun hc => ?_) (fun hc => ?_) <;> try (exfalso; omega)) | refine Cw.cond_bool rfl (fun hc => ?_) (fun hc => ?_)) | fail)
      exact ⟨_, _, _, (Ent.mk (by repeat' (first | exact Sub.nil | refine Sub.cons rfl ?_)) (by repeat' (first | exact Take.nil | refine Take.cons (by first | exact pick0 | exact pickS pick0 | exact pickS (pickS pick0) | exact pickS (pickS (pickS pick0)) | exact pickS (pickS (pickS (pickS pick0)))) ?_))), ⟨k + 1, _, rfl, ⟨by omega, by omega, by omega, by omega⟩, rfl, rfl⟩, by omega⟩
  · rw [List.drop_eq_nil_of_le (by omega), countI, sumF] at hV
    repeat' (first | refine goH ?_ | refine goV ?_ | refine goB (fun b => ?_) | refine goI ?_ | (refine Cw.k_cond ?_; first | (refine Cw.cond_dec rfl (fun hc => ?_) (fun hc => ?_) <;> try (exfalso; omega)) | refine Cw.cond_bool rfl (fun hc => ?_) (fun hc => ?_)) | fail)
    refine Fin.ret (Ent.take (by repeat' (first | exact Take.nil | refine Take.cons (by first | exact pick0 | exact pickS pick0 | exact pickS (pickS pick0) | exact pickS (pickS (pickS pick0)) | exact pickS (pickS (pickS (pickS pick0)))) ?_))) (Outs.many rfl (OutL.cons (by first | exact OutE.tmp rfl | exact OutE.agg inferInstance rfl rfl | exact OutE.one inferInstance rfl) (OutL.cons (by first | exact OutE.tmp rfl | exact OutE.agg inferInstance rfl rfl | exact OutE.one inferInstance rfl) OutL.nil)) rfl) ⟨rfl, ?_⟩
    rw [show s = countI l p by omega]

theorem stocks_fn : PFn Tryd.prog 17 [] (· = .bool true) := by
  have h := count_fn [⟨⟨#[97]⟩, ⟨#[99, 97, 110]⟩, 0, 3⟩] (by simp) ⟨#[99, 97, 110]⟩
  have e1 : lotsErr [⟨⟨#[97]⟩, ⟨#[99, 97, 110]⟩, 0, 3⟩] = 0 := by decide +kernel
  have e2 : isKey ⟨#[99, 97, 110]⟩ = true := by decide +kernel
  have e3 : countI [⟨⟨#[97]⟩, ⟨#[99, 97, 110]⟩, 0, 3⟩] ⟨#[99, 97, 110]⟩ = 3 := by simp [countI, sumF]
  rw [show countErr [⟨⟨#[97]⟩, ⟨#[99, 97, 110]⟩, 0, 3⟩] ⟨#[99, 97, 110]⟩ = 0 by unfold countErr; rw [e1, e2]; rfl, e3] at h
  refine PFn.mk (Spec.body Tryd.func17 rfl rfl (Tryd.ntmps17) rfl fun w0 own0 M => ?_)
  repeat' (first | refine goH ?_ | refine goV ?_ | refine goG ?_ | (refine Ops.k_guard ?_; first | (refine Ops.guard_dec rfl rfl (fun hc => ?_) (fun hc => ?_) <;> try (exfalso; omega)) | refine Ops.guard_split rfl rfl (fun hc => ?_) (fun hc => ?_)) | refine goI ?_ | (refine Cw.k_cond ?_; first | (refine Cw.cond_dec rfl (fun hc => ?_) (fun hc => ?_) <;> try (exfalso; omega)) | refine Cw.cond_bool rfl (fun hc => ?_) (fun hc => ?_)) | (refine Ops.k_calla ?_; first | (refine Ops.k_callf 24 ?_; refine Ops.callV h (Evs.cons rfl (Evs.cons rfl Evs.nil)) rfl ?_)) | fail)
  exact Fin.ret (Ent.take (by repeat' (first | exact Take.nil | refine Take.cons (by first | exact pick0 | exact pickS pick0 | exact pickS (pickS pick0) | exact pickS (pickS (pickS pick0)) | exact pickS (pickS (pickS (pickS pick0)))) ?_))) (Outs.one rfl rfl) ⟨rfl, rfl⟩
end Lg
