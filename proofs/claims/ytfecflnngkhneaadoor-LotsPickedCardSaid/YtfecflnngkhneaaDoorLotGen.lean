/- A part of the proof of a law of this seat: it adds no condition. By an AI agent. -/
import Derived.Test.YtfecflnngkhneaaDoorCoil
import Derived.Test.YtfecflnngkhneaaDoorSGen
set_option linter.all false
set_option maxRecDepth 100000
set_option maxHeartbeats 4000000
namespace Lg
open Go Go.Proofs

theorem rightLots_gen : GenO Tryd.prog 25 38 [] 20 4 64 (fun rows => ∃ l : List Lot, rows = l.map Lot.row ∧ l.length ≤ 5) := by
  unfold GenO
  intro b xs N hN
  refine Spec.body Tryd.func38 rfl rfl (Tryd.ntmps38) rfl fun w0 own0 M => ?_
  repeat' (first | refine goH ?_ | refine goV ?_ | refine goC (fun ad cap => ?_) | refine goI ?_ | (refine Cw.k_cond ?_; first | (refine Cw.cond_dec rfl (fun hc => ?_) (fun hc => ?_) <;> try (exfalso; omega)) | refine Cw.cond_bool rfl (fun hc => ?_) (fun hc => ?_)) | fail)
  refine Cw.loopI [(0, _), (6, _), (7, .int 5)] _ (fun q e cc => ∃ (k : Nat) (ad : Option Addr) (cap : Nat) (rows : List (List Tr)) (c : Nat), q = 5 - k ∧ (k ≤ 5 ∧ (∃ l : List Lot, rows = l.map Lot.row ∧ l.length ≤ k) ∧ rows.length ≤ k ∧ c ≤ N + 4 * k) ∧ e = [(3, Tr.raw (.slice ad rows.length cap)), (8, .int k)] ∧ cc = [Chunk.own ad cap 4 64 rows, Chunk.strm 25 b (intRows xs) c])
    ⟨_, _, _, Ent.trans (Ent.nil 4 64) (Ent.mkP (by repeat' (first | exact Sub.nil | refine Sub.cons rfl ?_)) (by repeat' (first | exact List.Perm.refl _ | refine Perm.cons' (by first | exact pick0 | exact pickS pick0 | exact pickS (pickS pick0) | exact pickS (pickS (pickS pick0)) | exact pickS (pickS (pickS (pickS pick0)))) ?_))), 0, none, 0, [], N, rfl, ⟨by omega, ⟨[], rfl, by simp⟩, by simp, by omega⟩, rfl, rfl⟩ ?_
  rintro _ _ _ ⟨k, ad, cap, rows, c, rfl, ⟨hk, ⟨l, hrows, hll⟩, hlen, h3⟩, rfl, rfl⟩
  by_cases hkl : k < 5
  · obtain ⟨y, hy⟩ : ∃ y : ByteArray, ([[Tr.str ⟨#[108, 97]⟩], [Tr.str ⟨#[108, 98]⟩], [Tr.str ⟨#[108, 99]⟩], [Tr.str ⟨#[108, 100]⟩], [Tr.str ⟨#[108, 101]⟩]] : List (List Tr))[k]? = some [Tr.str y] := by
      match k, hkl with
      | 0, _ => exact ⟨_, rfl⟩
      | 1, _ => exact ⟨_, rfl⟩
      | 2, _ => exact ⟨_, rfl⟩
      | 3, _ => exact ⟨_, rfl⟩
      | 4, _ => exact ⟨_, rfl⟩
    have key : ∀ x : Lot, rows ++ [x.row] = (l ++ [x]).map Lot.row := by intro x; rw [hrows, List.map_append]; rfl
    repeat' (first | refine goH ?_ | refine goV ?_ | refine goC (fun ad cap => ?_) | refine goI ?_ | (refine Cw.k_cond ?_; first | (refine Cw.cond_dec rfl (fun hc => ?_) (fun hc => ?_) <;> try (exfalso; omega)) | refine Cw.cond_bool rfl (fun hc => ?_) (fun hc => ?_)) | (refine Ops.k_calla ?_; first | (refine Ops.k_callf 37 ?_; (refine Ops.callG (flip_gen _ (by omega)) (Evs.cons rfl (Evs.cons rfl Evs.nil)) (by first | exact pick0 | exact pickS pick0 | exact pickS (pickS pick0) | exact pickS (pickS (pickS pick0)) | exact pickS (pickS (pickS (pickS pick0)))) (by omega) rfl ?_; rintro r ⟨v, rfl⟩)) | (refine Ops.k_callf 21 ?_; (refine Ops.callG (pick_gen (by repeat' (first | exact IsInts.nil | apply IsInts.cons)) (by simp)) (Evs.cons rfl (Evs.cons rfl Evs.nil)) (by first | exact pick0 | exact pickS pick0 | exact pickS (pickS pick0) | exact pickS (pickS (pickS pick0)) | exact pickS (pickS (pickS (pickS pick0)))) (by omega) rfl ?_; rintro r ⟨u, rfl, hu⟩; clear hu)) | (refine Ops.k_callf 36 ?_; (refine Ops.callG (one_gen (by repeat' (first | exact IsStrs.nil | apply IsStrs.cons)) (by simp)) (Evs.cons rfl (Evs.cons rfl Evs.nil)) (by first | exact pick0 | exact pickS pick0 | exact pickS (pickS pick0) | exact pickS (pickS (pickS pick0)) | exact pickS (pickS (pickS (pickS pick0)))) (by omega) rfl ?_; rintro r ⟨w, rfl, hw⟩; clear hw))) | fail)
    · exact ⟨_, _, _, (Ent.mk (by repeat' (first | exact Sub.nil | refine Sub.cons rfl ?_)) (by repeat' (first | exact Take.nil | refine Take.cons (by first | exact pick0 | exact pickS pick0 | exact pickS (pickS pick0) | exact pickS (pickS (pickS pick0)) | exact pickS (pickS (pickS (pickS pick0)))) ?_))), ⟨k + 1, _, _, _, _, rfl, ⟨by omega, ⟨l, hrows, by omega⟩, by omega, by omega⟩, rfl, rfl⟩, by omega⟩
    · exact ⟨_, _, _, (Ent.mk (by repeat' (first | exact Sub.nil | refine Sub.cons rfl ?_)) (by repeat' (first | exact Take.nil | refine Take.cons (by first | exact pick0 | exact pickS pick0 | exact pickS (pickS pick0) | exact pickS (pickS (pickS pick0)) | exact pickS (pickS (pickS (pickS pick0)))) ?_))), ⟨k + 1, _, _, _, _, rfl, ⟨by omega, ⟨_, key ⟨_, _, _, _⟩, by simp; omega⟩, by simp only [List.length_append, List.length_cons, List.length_nil]; omega, by omega⟩, rfl, rfl⟩, by omega⟩
  · repeat' (first | refine goH ?_ | refine goV ?_ | refine goC (fun ad cap => ?_) | refine goI ?_ | (refine Cw.k_cond ?_; first | (refine Cw.cond_dec rfl (fun hc => ?_) (fun hc => ?_) <;> try (exfalso; omega)) | refine Cw.cond_bool rfl (fun hc => ?_) (fun hc => ?_)) | fail)
    exact Fin.ret (Ent.own_strm (by first | exact pick0 | exact pickS pick0 | exact pickS (pickS pick0) | exact pickS (pickS (pickS pick0)) | exact pickS (pickS (pickS (pickS pick0)))) (by first | exact pick0 | exact pickS pick0 | exact pickS (pickS pick0) | exact pickS (pickS (pickS pick0)) | exact pickS (pickS (pickS (pickS pick0)))) (by omega)) (Outs.one rfl rfl) ⟨ad, cap, rows, rfl, rfl, l, hrows, by omega⟩

theorem lots_gen : Gen Tryd.prog 25 6 [] 30 (fun r => ∃ l : List Lot, r = .lots l ∧ l.length ≤ 6) := by
  unfold Gen
  intro b xs N hN
  refine Spec.body Tryd.func6 rfl rfl (Tryd.ntmps6) rfl fun w0 own0 M => ?_
  repeat' (first | refine goH ?_ | refine goV ?_ | refine goC (fun ad cap => ?_) | refine goI ?_ | (refine Cw.k_cond ?_; first | (refine Cw.cond_dec rfl (fun hc => ?_) (fun hc => ?_) <;> try (exfalso; omega)) | refine Cw.cond_bool rfl (fun hc => ?_) (fun hc => ?_)) | (refine Ops.k_calla ?_; first | (refine Ops.k_callf 38 ?_; (refine Ops.callGO rightLots_gen (Evs.cons rfl Evs.nil) (by first | exact pick0 | exact pickS pick0 | exact pickS (pickS pick0) | exact pickS (pickS (pickS pick0)) | exact pickS (pickS (pickS (pickS pick0)))) (by omega) rfl (fun ad cap rows hr => ?_); obtain ⟨l, hrows, hl⟩ := hr; have hrl : rows.length = l.length := (by rw [hrows]; simp))) | (refine Ops.k_callf 37 ?_; (refine Ops.callG (flip_gen _ (by omega)) (Evs.cons rfl (Evs.cons rfl Evs.nil)) (by first | exact pick0 | exact pickS pick0 | exact pickS (pickS pick0) | exact pickS (pickS (pickS pick0)) | exact pickS (pickS (pickS (pickS pick0)))) (by omega) rfl ?_; rintro r ⟨v, rfl⟩)) | (refine Ops.k_callf 21 ?_; (refine Ops.callG (pick_gen (by repeat' (first | exact IsInts.nil | apply IsInts.cons)) (by simp)) (Evs.cons rfl (Evs.cons rfl Evs.nil)) (by first | exact pick0 | exact pickS pick0 | exact pickS (pickS pick0) | exact pickS (pickS (pickS pick0)) | exact pickS (pickS (pickS (pickS pick0)))) (by omega) rfl ?_; rintro r ⟨u, rfl, hu⟩; clear hu)) | (refine Ops.k_callf 36 ?_; (refine Ops.callG (one_gen (by repeat' (first | exact IsStrs.nil | apply IsStrs.cons)) (by simp)) (Evs.cons rfl (Evs.cons rfl Evs.nil)) (by first | exact pick0 | exact pickS pick0 | exact pickS (pickS pick0) | exact pickS (pickS (pickS pick0)) | exact pickS (pickS (pickS (pickS pick0)))) (by omega) rfl ?_; rintro r ⟨w, rfl, hw⟩; clear hw))) | fail)
  all_goals (have key : ∀ x : Lot, rows ++ [x.row] = (l ++ [x]).map Lot.row := by intro x; rw [hrows, List.map_append]; rfl)
  · refine Fin.ret (Ent.trans (Ent.settle (s := 2) rfl (by first | exact pick0 | exact pickS pick0 | exact pickS (pickS pick0) | exact pickS (pickS (pickS pick0)) | exact pickS (pickS (pickS (pickS pick0)))) rfl) (Ent.strm_only (by first | exact pick0 | exact pickS pick0 | exact pickS (pickS pick0) | exact pickS (pickS (pickS pick0)) | exact pickS (pickS (pickS (pickS pick0)))) (by omega))) (Outs.one rfl rfl) ⟨rfl, _, congrArg (Tr.sl 4) (key ⟨_, _, _, _⟩), ?_⟩
    simp only [List.length_append, List.length_cons, List.length_nil]; omega
  · exact Fin.ret (Ent.trans (Ent.settle (s := 2) rfl (by first | exact pick0 | exact pickS pick0 | exact pickS (pickS pick0) | exact pickS (pickS (pickS pick0)) | exact pickS (pickS (pickS (pickS pick0)))) rfl) (Ent.strm_only (by first | exact pick0 | exact pickS pick0 | exact pickS (pickS pick0) | exact pickS (pickS (pickS pick0)) | exact pickS (pickS (pickS (pickS pick0)))) (by omega))) (Outs.one rfl rfl) ⟨rfl, _, congrArg (Tr.sl 4) hrows, by omega⟩
end Lg
