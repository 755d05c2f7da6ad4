/- A part of the proof of a law of this seat: it adds no condition. By an AI agent. -/
import Derived.Test.YtflfdomajimpjaaWk12
section
set_option linter.all false
set_option maxRecDepth 100000
set_option maxHeartbeats 8000000
namespace Lg
open Go Go.Proofs

attribute [local irreducible] intRows
theorem visits_fn (l : List Int) (f t : Int) (hl : l.length ≤ 1000) (hf : -1000000 ≤ f ∧ f ≤ 1000000) (ht : -1000000 ≤ t ∧ t ≤ 1000000) : PFn Try.prog 16 [.ints l, .int f, .int t] (· = if visE l f t ≠ 0 then .tup [.sl 1 [], .int (visE l f t)] else .tup [.ints (visL l f (t - f).toNat), .int 0]) := by
  have hL := intRows_len l
  obtain ⟨Z, hZ⟩ : ∃ Z, Z = visE l f t := ⟨_, rfl⟩
  rw [← hZ]
  unfold visE at hZ
  by_cases h7 : l.length > 7
  · rw [if_pos h7] at hZ
    rw [hZ, if_pos (by decide)]
    refine PFn.mk (Spec.body Try.func16 rfl rfl (Try.ntmps16) rfl fun w0 own0 M => ?_)
    repeat' (first | refine goH ?_ | refine goV ?_ | refine goC (fun ad cap => ?_) | refine goG ?_ | (refine Ops.k_guard ?_; first | (refine Ops.guard_dec rfl rfl (fun hc => ?_) (fun hc => ?_) <;> try (exfalso; omega)) | refine Ops.guard_split rfl rfl (fun hc => ?_) (fun hc => ?_)) | refine goI ?_ | (refine Cw.k_cond ?_; first | (refine Cw.cond_dec rfl (fun hc => ?_) (fun hc => ?_) <;> try (exfalso; omega)) | refine Cw.cond_bool rfl (fun hc => ?_) (fun hc => ?_)) | fail)
    refine Fin.ret (Ent.trans (Ent.nilsl 1 (s := 6) rfl) (Ent.take goTk)) (Outs.many rfl (OutL.cons goOe (OutL.cons goOe OutL.nil)) rfl) ⟨rfl, rfl⟩
  rw [if_neg h7] at hZ
  obtain ⟨E, hE⟩ : ∃ E, E = visG (-1) l := ⟨_, rfl⟩
  rw [← hE] at hZ
  refine PFn.mk (Spec.body Try.func16 rfl rfl (Try.ntmps16) rfl fun w0 own0 M => ?_)
  repeat' (first | refine goH ?_ | refine goV ?_ | refine goC (fun ad cap => ?_) | refine goG ?_ | (refine Ops.k_guard ?_; first | (refine Ops.guard_dec rfl rfl (fun hc => ?_) (fun hc => ?_) <;> try (exfalso; omega)) | refine Ops.guard_split rfl rfl (fun hc => ?_) (fun hc => ?_)) | refine goI ?_ | (refine Cw.k_cond ?_; first | (refine Cw.cond_dec rfl (fun hc => ?_) (fun hc => ?_) <;> try (exfalso; omega)) | refine Cw.cond_bool rfl (fun hc => ?_) (fun hc => ?_)) | fail)
  refine Cw.loopI [(0, _), (1, _), (2, _), (15, _), (16, _)] _ (fun q e cc => ∃ (k : Nat) (p : Int), q = l.length - k ∧ (k ≤ l.length ∧ E = visG p (l.drop k) ∧ (k = 0 → p = -1) ∧ (0 < k → (intRows l)[((k : Int) - 1).toNat]? = some [Tr.int p])) ∧ e = [(17, .int k)] ∧ cc = [])
    ⟨_, _, _, (Ent.mkP goSub goPm), 0, -1, rfl, ⟨by omega, by rw [List.drop_zero]; exact hE, fun _ => rfl, fun h => absurd h (by omega)⟩, rfl, rfl⟩ ?_
  clear hE
  rintro _ _ _ ⟨k, p, rfl, ⟨hk, hV, hp0, hp1⟩, rfl, rfl⟩
  by_cases hkl : k < l.length
  · obtain ⟨x, hx⟩ := at_lt hkl
    have r1 := intRows_at hx
    rw [visG_step hx] at hV
    have r3 : (intRows l)[(((k + 1 : Nat) : Int) - 1).toNat]? = some [Tr.int x] := by
      rw [show (((k + 1 : Nat) : Int) - 1).toNat = k by omega]; exact r1
    clear hx
    by_cases h1 : x < 0 ∨ 6 < x
    · rw [if_pos h1] at hV
      rw [hV, if_pos (by decide)] at hZ
      rw [hZ, if_pos (by decide)]
      have kO := out_t x 0 6 h1
      clear r3 hp0 hp1 hV hZ
      repeat' (first | refine goH ?_ | refine goV ?_ | refine goC (fun ad cap => ?_) | refine goG ?_ | (refine Ops.k_guard ?_; first | (refine Ops.guard_dec rfl rfl (fun hc => ?_) (fun hc => ?_) <;> try (exfalso; omega)) | refine Ops.guard_split rfl rfl (fun hc => ?_) (fun hc => ?_)) | refine goI ?_ | (refine Cw.k_cond ?_; first | (refine Cw.cond_dec rfl (fun hc => ?_) (fun hc => ?_) <;> try (exfalso; omega)) | refine Cw.cond_bool rfl (fun hc => ?_) (fun hc => ?_)) | (refine Ops.k_calla ?_; first | (refine Ops.k_callf 29 ?_; refine Ops.callV kO (Evs.cons rfl (Evs.cons rfl (Evs.cons rfl Evs.nil))) rfl ?_)) | fail)
      refine Fin.ret (Ent.trans (Ent.nilsl 1 (s := 6) rfl) (Ent.take goTk)) (Outs.many rfl (OutL.cons goOe (OutL.cons goOe OutL.nil)) rfl) ⟨rfl, rfl⟩
    rw [if_neg h1] at hV
    have kO := out_f x 0 6 (by omega)
    by_cases hk0 : k = 0
    · have hp := hp0 hk0
      rw [if_neg (by omega)] at hV
      clear hp0 hp1
      subst hk0
      repeat' (first | refine goH ?_ | refine goV ?_ | refine goC (fun ad cap => ?_) | refine goG ?_ | (refine Ops.k_guard ?_; first | (refine Ops.guard_dec rfl rfl (fun hc => ?_) (fun hc => ?_) <;> try (exfalso; omega)) | refine Ops.guard_split rfl rfl (fun hc => ?_) (fun hc => ?_)) | refine goI ?_ | (refine Cw.k_cond ?_; first | (refine Cw.cond_dec rfl (fun hc => ?_) (fun hc => ?_) <;> try (exfalso; omega)) | refine Cw.cond_bool rfl (fun hc => ?_) (fun hc => ?_)) | (refine Ops.k_calla ?_; first | (refine Ops.k_callf 29 ?_; refine Ops.callV kO (Evs.cons rfl (Evs.cons rfl (Evs.cons rfl Evs.nil))) rfl ?_)) | fail)
      exact ⟨_, _, _, (Ent.mk goSub goTk), ⟨1, _, rfl, ⟨by omega, hV, fun h => absurd h (by omega), fun _ => r3⟩, rfl, rfl⟩, by omega⟩
    have hp2 := hp1 (by omega)
    clear hp0 hp1
    by_cases h2 : x ≤ p
    · rw [if_pos h2] at hV
      rw [hV, if_pos (by decide)] at hZ
      rw [hZ, if_pos (by decide)]
      clear r3 hV hZ
      repeat' (first | refine goH ?_ | refine goV ?_ | refine goC (fun ad cap => ?_) | refine goG ?_ | (refine Ops.k_guard ?_; first | (refine Ops.guard_dec rfl rfl (fun hc => ?_) (fun hc => ?_) <;> try (exfalso; omega)) | refine Ops.guard_split rfl rfl (fun hc => ?_) (fun hc => ?_)) | refine goI ?_ | (refine Cw.k_cond ?_; first | (refine Cw.cond_dec rfl (fun hc => ?_) (fun hc => ?_) <;> try (exfalso; omega)) | refine Cw.cond_bool rfl (fun hc => ?_) (fun hc => ?_)) | (refine Ops.k_calla ?_; first | (refine Ops.k_callf 29 ?_; refine Ops.callV kO (Evs.cons rfl (Evs.cons rfl (Evs.cons rfl Evs.nil))) rfl ?_)) | fail)
      refine Fin.ret (Ent.trans (Ent.nilsl 1 (s := 6) rfl) (Ent.take goTk)) (Outs.many rfl (OutL.cons goOe (OutL.cons goOe OutL.nil)) rfl) ⟨rfl, rfl⟩
    · rw [if_neg h2] at hV
      repeat' (first | refine goH ?_ | refine goV ?_ | refine goC (fun ad cap => ?_) | refine goG ?_ | (refine Ops.k_guard ?_; first | (refine Ops.guard_dec rfl rfl (fun hc => ?_) (fun hc => ?_) <;> try (exfalso; omega)) | refine Ops.guard_split rfl rfl (fun hc => ?_) (fun hc => ?_)) | refine goI ?_ | (refine Cw.k_cond ?_; first | (refine Cw.cond_dec rfl (fun hc => ?_) (fun hc => ?_) <;> try (exfalso; omega)) | refine Cw.cond_bool rfl (fun hc => ?_) (fun hc => ?_)) | (refine Ops.k_calla ?_; first | (refine Ops.k_callf 29 ?_; refine Ops.callV kO (Evs.cons rfl (Evs.cons rfl (Evs.cons rfl Evs.nil))) rfl ?_)) | fail)
      exact ⟨_, _, _, (Ent.mk goSub goTk), ⟨k + 1, _, rfl, ⟨by omega, hV, fun h => absurd h (by omega), fun _ => r3⟩, rfl, rfl⟩, by omega⟩
  rw [visG_end (by omega)] at hV
  subst hV
  clear hp0 hp1
  rw [if_neg (by decide)] at hZ
  by_cases h1 : f < 0 ∨ t < f
  · rw [if_pos (by omega)] at hZ
    rw [hZ, if_pos (by decide)]
    clear hZ
    have kO := out_t f 0 t h1
    repeat' (first | refine goH ?_ | refine goV ?_ | refine goC (fun ad cap => ?_) | refine goG ?_ | (refine Ops.k_guard ?_; first | (refine Ops.guard_dec rfl rfl (fun hc => ?_) (fun hc => ?_) <;> try (exfalso; omega)) | refine Ops.guard_split rfl rfl (fun hc => ?_) (fun hc => ?_)) | refine goI ?_ | (refine Cw.k_cond ?_; first | (refine Cw.cond_dec rfl (fun hc => ?_) (fun hc => ?_) <;> try (exfalso; omega)) | refine Cw.cond_bool rfl (fun hc => ?_) (fun hc => ?_)) | (refine Ops.k_calla ?_; first | (refine Ops.k_callf 29 ?_; refine Ops.callV kO (Evs.cons rfl (Evs.cons rfl (Evs.cons rfl Evs.nil))) rfl ?_)) | fail)
    refine Fin.ret (Ent.trans (Ent.nilsl 1 (s := 6) rfl) (Ent.take goTk)) (Outs.many rfl (OutL.cons goOe (OutL.cons goOe OutL.nil)) rfl) ⟨rfl, rfl⟩
  have kO := out_f f 0 t (by omega)
  by_cases h3 : 4001 < t
  · rw [if_pos (.inr (.inr h3))] at hZ
    rw [hZ, if_pos (by decide)]
    clear hZ
    repeat' (first | refine goH ?_ | refine goV ?_ | refine goC (fun ad cap => ?_) | refine goG ?_ | (refine Ops.k_guard ?_; first | (refine Ops.guard_dec rfl rfl (fun hc => ?_) (fun hc => ?_) <;> try (exfalso; omega)) | refine Ops.guard_split rfl rfl (fun hc => ?_) (fun hc => ?_)) | refine goI ?_ | (refine Cw.k_cond ?_; first | (refine Cw.cond_dec rfl (fun hc => ?_) (fun hc => ?_) <;> try (exfalso; omega)) | refine Cw.cond_bool rfl (fun hc => ?_) (fun hc => ?_)) | (refine Ops.k_calla ?_; first | (refine Ops.k_callf 29 ?_; refine Ops.callV kO (Evs.cons rfl (Evs.cons rfl (Evs.cons rfl Evs.nil))) rfl ?_)) | fail)
    refine Fin.ret (Ent.trans (Ent.nilsl 1 (s := 6) rfl) (Ent.take goTk)) (Outs.many rfl (OutL.cons goOe (OutL.cons goOe OutL.nil)) rfl) ⟨rfl, rfl⟩
  rw [if_neg (by omega)] at hZ
  rw [hZ, if_neg (by decide)]
  clear hZ
  obtain ⟨R, hR⟩ : ∃ R, R = intRows (visL l f (t - f).toNat) := ⟨_, rfl⟩
  unfold Tr.ints
  rw [← hR]
  repeat' (first | refine goH ?_ | refine goV ?_ | refine goC (fun ad cap => ?_) | refine goG ?_ | (refine Ops.k_guard ?_; first | (refine Ops.guard_dec rfl rfl (fun hc => ?_) (fun hc => ?_) <;> try (exfalso; omega)) | refine Ops.guard_split rfl rfl (fun hc => ?_) (fun hc => ?_)) | refine goI ?_ | (refine Cw.k_cond ?_; first | (refine Cw.cond_dec rfl (fun hc => ?_) (fun hc => ?_) <;> try (exfalso; omega)) | refine Cw.cond_bool rfl (fun hc => ?_) (fun hc => ?_)) | (refine Ops.k_calla ?_; first | (refine Ops.k_callf 29 ?_; refine Ops.callV kO (Evs.cons rfl (Evs.cons rfl (Evs.cons rfl Evs.nil))) rfl ?_)) | fail)
  refine Cw.loopI [(0, _), (2, _)] _ (fun q e cc => ∃ (d : Int) (rows : List (List Tr)) (ad : Option Addr) (cap n : Nat), q = (t - d).toNat ∧ ((f ≤ d ∧ d ≤ t) ∧ R = rows ++ intRows (visL l d (t - d).toNat) ∧ rows.length = n ∧ (n : Int) + f ≤ d) ∧ e = [(10, Tr.raw (.slice ad n cap)), (11, .int d)] ∧ cc = [Chunk.own ad cap 1 3 rows])
    ⟨_, _, _, Ent.trans (Ent.nil 1 3) (Ent.mkP goSub goPm), f, [], none, 0, 0, rfl, ⟨by omega, by rw [List.nil_append]; exact hR, rfl, by omega⟩, rfl, rfl⟩ ?_
  clear hR
  rintro _ _ _ ⟨d, rows, ad, cap, n, rfl, ⟨hd, hV, hrl, hn⟩, rfl, rfl⟩
  by_cases hdt : d < t
  · rw [visL_step hdt] at hV
    have kC := contains_fn l (d % 7) hl
    by_cases hm : d % 7 ∈ l
    · rw [if_pos hm] at hV
      rw [decide_eq_true hm] at kC
      have hV2 : R = (rows ++ [[Tr.int d]]) ++ intRows (visL l (d + 1) (t - (d + 1)).toNat) := by rw [hV]; unfold intRows; simp
      have hrl2 : (rows ++ [[Tr.int d]]).length = n + 1 := by rw [List.length_append, hrl]; rfl
      clear hV hm
      repeat' (first | refine goH ?_ | refine goV ?_ | refine goC (fun ad cap => ?_) | refine goG ?_ | (refine Ops.k_guard ?_; first | (refine Ops.guard_dec rfl rfl (fun hc => ?_) (fun hc => ?_) <;> try (exfalso; omega)) | refine Ops.guard_split rfl rfl (fun hc => ?_) (fun hc => ?_)) | refine goI ?_ | (refine Cw.k_cond ?_; first | (refine Cw.cond_dec rfl (fun hc => ?_) (fun hc => ?_) <;> try (exfalso; omega)) | refine Cw.cond_bool rfl (fun hc => ?_) (fun hc => ?_)) | (refine Ops.k_calla ?_; first | (refine Ops.k_callf 44 ?_; refine Ops.callV kC (Evs.cons rfl (Evs.cons rfl Evs.nil)) rfl ?_)) | fail)
      erw [hrl2]
      exact ⟨_, _, _, (Ent.mk goSub goTk), ⟨d + 1, _, _, _, _, rfl, ⟨by omega, hV2, hrl2, by omega⟩, rfl, rfl⟩, by omega⟩
    · rw [if_neg hm] at hV
      rw [decide_eq_false hm] at kC
      clear hm
      repeat' (first | refine goH ?_ | refine goV ?_ | refine goC (fun ad cap => ?_) | refine goG ?_ | (refine Ops.k_guard ?_; first | (refine Ops.guard_dec rfl rfl (fun hc => ?_) (fun hc => ?_) <;> try (exfalso; omega)) | refine Ops.guard_split rfl rfl (fun hc => ?_) (fun hc => ?_)) | refine goI ?_ | (refine Cw.k_cond ?_; first | (refine Cw.cond_dec rfl (fun hc => ?_) (fun hc => ?_) <;> try (exfalso; omega)) | refine Cw.cond_bool rfl (fun hc => ?_) (fun hc => ?_)) | (refine Ops.k_calla ?_; first | (refine Ops.k_callf 44 ?_; refine Ops.callV kC (Evs.cons rfl (Evs.cons rfl Evs.nil)) rfl ?_)) | fail)
      exact ⟨_, _, _, (Ent.mk goSub goTk), ⟨d + 1, _, _, _, _, rfl, ⟨by omega, hV, hrl, by omega⟩, rfl, rfl⟩, by omega⟩
  · rw [visL_end hdt] at hV
    have e : R = rows := by rw [hV]; unfold intRows; simp
    rw [e]
    clear hV
    subst hrl
    repeat' (first | refine goH ?_ | refine goV ?_ | refine goC (fun ad cap => ?_) | refine goG ?_ | (refine Ops.k_guard ?_; first | (refine Ops.guard_dec rfl rfl (fun hc => ?_) (fun hc => ?_) <;> try (exfalso; omega)) | refine Ops.guard_split rfl rfl (fun hc => ?_) (fun hc => ?_)) | refine goI ?_ | (refine Cw.k_cond ?_; first | (refine Cw.cond_dec rfl (fun hc => ?_) (fun hc => ?_) <;> try (exfalso; omega)) | refine Cw.cond_bool rfl (fun hc => ?_) (fun hc => ?_)) | fail)
    refine Fin.ret (Ent.trans (Ent.settle (s := 6) rfl goPk rfl) (Ent.take goTk)) (Outs.many rfl (OutL.cons goOe (OutL.cons goOe OutL.nil)) rfl) ⟨rfl, rfl⟩
end Lg
end
section
set_option linter.all false
set_option maxRecDepth 100000
set_option maxHeartbeats 8000000
namespace Lg
open Go Go.Proofs

theorem less_fn (x y : Int) : PFn Try.prog 60 [.int x, .int y] (· = .bool (decide (x < y))) := by
  have k1 := isNaN_fn x
  refine PFn.mk (Spec.body Try.func60 rfl rfl (Try.ntmps60) rfl fun w0 own0 M => ?_)
  repeat' (first | refine goH ?_ | refine goV ?_ | refine goG ?_ | (refine Ops.k_guard ?_; first | (refine Ops.guard_dec rfl rfl (fun hc => ?_) (fun hc => ?_) <;> try (exfalso; omega)) | refine Ops.guard_split rfl rfl (fun hc => ?_) (fun hc => ?_)) | refine goI ?_ | (refine Cw.k_cond ?_; first | (refine Cw.cond_dec rfl (fun hc => ?_) (fun hc => ?_) <;> try (exfalso; omega)) | refine Cw.cond_bool rfl (fun hc => ?_) (fun hc => ?_)) | (refine Ops.k_calla ?_; first | (refine Ops.k_callf 53 ?_; refine Ops.callV k1 (Evs.cons rfl Evs.nil) rfl ?_)) | fail)
  exact Fin.ret (Ent.take goTk) (Outs.one rfl rfl) ⟨rfl, rfl⟩
attribute [local irreducible] intRows
theorem insSortO {n : Nat} {xs : List Int} {ad : Option Addr} {cap : Nat} (hl : xs.length ≤ 1000000) (hn : n = xs.length) :
    Spec Try.prog 54 [Tr.raw (.slice ad n cap), .int 0, .int n] [Chunk.own ad cap 1 3 (intRows xs)] (fun r cs => r = Tr.tup [] ∧ ∃ ys : List Int, ys.length = n ∧ cs = [Chunk.own ad cap 1 3 (intRows ys)]) := by
  refine Spec.body Try.func54 rfl rfl (Try.ntmps54) rfl fun w0 own0 M => ?_
  repeat' (first | refine goH ?_ | refine goV ?_ | refine goG ?_ | (refine Ops.k_guard ?_; first | (refine Ops.guard_dec rfl rfl (fun hc => ?_) (fun hc => ?_) <;> try (exfalso; omega)) | refine Ops.guard_split rfl rfl (fun hc => ?_) (fun hc => ?_)) | refine goI ?_ | (refine Cw.k_cond ?_; first | (refine Cw.cond_dec rfl (fun hc => ?_) (fun hc => ?_) <;> try (exfalso; omega)) | refine Cw.cond_bool rfl (fun hc => ?_) (fun hc => ?_)) | refine goR ?_ | refine goP ?_ | apply PSeq.cons | apply PSeq.yes rfl rfl rfl | exact goW | fail)
  refine Cw.loopI [(0, _), (1, _), (2, _)] _ (fun q e c => ∃ (i : Nat) (ys : List Int), q = n - i ∧ (1 ≤ i ∧ i ≤ max 1 n ∧ ys.length = n) ∧ e = [(6, .int i)] ∧ c = [Chunk.own ad cap 1 3 (intRows ys)])
    ⟨_, _, _, (Ent.mkP goSub goPm), 1, xs, rfl, ⟨by omega, by omega, hn.symm⟩, rfl, rfl⟩ ?_
  rintro _ _ _ ⟨i, ys, rfl, ⟨hi1, hi2, hyl⟩, rfl, rfl⟩
  by_cases hil : i < n
  · repeat' (first | refine goH ?_ | refine goV ?_ | refine goG ?_ | (refine Ops.k_guard ?_; first | (refine Ops.guard_dec rfl rfl (fun hc => ?_) (fun hc => ?_) <;> try (exfalso; omega)) | refine Ops.guard_split rfl rfl (fun hc => ?_) (fun hc => ?_)) | refine goI ?_ | (refine Cw.k_cond ?_; first | (refine Cw.cond_dec rfl (fun hc => ?_) (fun hc => ?_) <;> try (exfalso; omega)) | refine Cw.cond_bool rfl (fun hc => ?_) (fun hc => ?_)) | refine goR ?_ | refine goP ?_ | apply PSeq.cons | apply PSeq.yes rfl rfl rfl | exact goW | fail)
    refine Cw.loopI [(0, _), (1, _), (2, _), (6, _)] _ (fun q e c => ∃ (j : Nat) (ys : List Int), q = 0 + j ∧ (j ≤ i ∧ ys.length = n) ∧ e = [(7, .int j)] ∧ c = [Chunk.own ad cap 1 3 (intRows ys)])
      ⟨_, _, _, (Ent.mkP goSub goPm), i, ys, rfl, ⟨by omega, hyl⟩, rfl, rfl⟩ ?_
    clear hyl ys
    rintro _ _ _ ⟨j, ys, rfl, ⟨hj, hyl⟩, rfl, rfl⟩
    have hyr := (intRows_len ys).trans hyl
    by_cases hj0 : j = 0
    · subst hj0
      repeat' (first | refine goH ?_ | refine goV ?_ | refine goG ?_ | (refine Ops.k_guard ?_; first | (refine Ops.guard_dec rfl rfl (fun hc => ?_) (fun hc => ?_) <;> try (exfalso; omega)) | refine Ops.guard_split rfl rfl (fun hc => ?_) (fun hc => ?_)) | refine goI ?_ | (refine Cw.k_cond ?_; first | (refine Cw.cond_dec rfl (fun hc => ?_) (fun hc => ?_) <;> try (exfalso; omega)) | refine Cw.cond_bool rfl (fun hc => ?_) (fun hc => ?_)) | refine goR ?_ | refine goP ?_ | apply PSeq.cons | apply PSeq.yes rfl rfl rfl | exact goW | fail)
      exact ⟨_, _, _, (Ent.mkP goSub goPm), ⟨i + 1, ys, rfl, ⟨by omega, by omega, hyl⟩, rfl, rfl⟩, by omega⟩
    obtain ⟨m, rfl⟩ : ∃ m, j = m + 1 := ⟨j - 1, by omega⟩
    obtain ⟨x, hx⟩ := at_lt (l := ys) (k := m + 1) (by omega)
    obtain ⟨y, hy⟩ := at_lt (l := ys) (k := m) (by omega)
    have r1 := intRows_at hx
    have r2 : (intRows ys)[(((m + 1 : Nat) : Int) - 1).toNat]? = some [Tr.int y] := by
      rw [show (((m + 1 : Nat) : Int) - 1).toNat = m by omega]; exact intRows_at hy
    have r1' : (intRows ys)[((m + 1 : Nat) : Int).toNat]? = some [Tr.int x] := by rw [Int.toNat_natCast]; exact r1
    have kL := less_fn x y
    clear hx hy
    by_cases hc : x < y
    · rw [decide_eq_true hc] at kL
      have hset : ((intRows ys).set ((m + 1 : Nat) : Int).toNat [Tr.int y])[(((m + 1 : Nat) : Int) - 1).toNat]? = some [Tr.int y] := by
        rw [List.getElem?_set_ne (by omega)]
        exact r2
      have hlen2 : ((intRows ys).set ((m + 1 : Nat) : Int).toNat [Tr.int y]).length = n := by rw [List.length_set]; exact hyr
      repeat' (first | refine goH ?_ | refine goV ?_ | refine goG ?_ | (refine Ops.k_guard ?_; first | (refine Ops.guard_dec rfl rfl (fun hc => ?_) (fun hc => ?_) <;> try (exfalso; omega)) | refine Ops.guard_split rfl rfl (fun hc => ?_) (fun hc => ?_)) | refine goI ?_ | (refine Cw.k_cond ?_; first | (refine Cw.cond_dec rfl (fun hc => ?_) (fun hc => ?_) <;> try (exfalso; omega)) | refine Cw.cond_bool rfl (fun hc => ?_) (fun hc => ?_)) | (refine Ops.k_calla ?_; first | (refine Ops.k_callf 60 ?_; refine Ops.callV kL (Evs.cons rfl (Evs.cons rfl Evs.nil)) rfl ?_)) | (apply OpW.k_call; first | (apply OpW.k_callf 60; exact OpW.callV kL (Evs.cons rfl (Evs.cons rfl Evs.nil)))) | refine goR ?_ | refine goP ?_ | apply PSeq.cons | apply PSeq.yes rfl rfl rfl | exact goW | fail)
      refine Cw.region_seqF (m := 15) [2, 3, 4] rfl (by decide +kernel) rfl (fun a w d => ?_) ?_
      · have h9 := rd_raw (d.env 7 _ rfl)
        have hs : a.tmps.size = 49 := d.tmps
        have h9' : a.tmps[7]'(by omega) = .int .i64 ((m + 1 : Nat) : Int) := by simpa [hs] using h9
        exact FlRun.move rfl rfl rfl rfl (FlRun.move rfl rfl rfl rfl (FlRun.sub1 (p := ((m + 1 : Nat) : Int)) rfl rfl rfl rfl (by simp [Act.put, Act.eval, hs, h9']) FlRun.nil))
      repeat' (first | refine goH ?_ | refine goV ?_ | refine goG ?_ | (refine Ops.k_guard ?_; first | (refine Ops.guard_dec rfl rfl (fun hc => ?_) (fun hc => ?_) <;> try (exfalso; omega)) | refine Ops.guard_split rfl rfl (fun hc => ?_) (fun hc => ?_)) | refine goI ?_ | (refine Cw.k_cond ?_; first | (refine Cw.cond_dec rfl (fun hc => ?_) (fun hc => ?_) <;> try (exfalso; omega)) | refine Cw.cond_bool rfl (fun hc => ?_) (fun hc => ?_)) | refine NoP.norm ?_ | refine goR ?_ | refine goP ?_ | apply PSeq.cons | apply PSeq.yes rfl rfl rfl | exact goW | fail)
      erw [int_set, int_set]
      refine ⟨_, _, _, ?_, ⟨m, (ys.set (((m + 1 : Nat) : Int)).toNat y).set (((m + 1 : Nat) : Int) - 1).toNat x, rfl, ⟨by omega, by rw [List.length_set, List.length_set]; exact hyl⟩, rfl, rfl⟩, by omega⟩
      rw [show ((m + 1 : Nat) : Int) - 1 = (m : Int) by omega]
      exact (Ent.mkP goSub goPm)
    · rw [decide_eq_false hc] at kL
      repeat' (first | refine goH ?_ | refine goV ?_ | refine goG ?_ | (refine Ops.k_guard ?_; first | (refine Ops.guard_dec rfl rfl (fun hc => ?_) (fun hc => ?_) <;> try (exfalso; omega)) | refine Ops.guard_split rfl rfl (fun hc => ?_) (fun hc => ?_)) | refine goI ?_ | (refine Cw.k_cond ?_; first | (refine Cw.cond_dec rfl (fun hc => ?_) (fun hc => ?_) <;> try (exfalso; omega)) | refine Cw.cond_bool rfl (fun hc => ?_) (fun hc => ?_)) | (refine Ops.k_calla ?_; first | (refine Ops.k_callf 60 ?_; refine Ops.callV kL (Evs.cons rfl (Evs.cons rfl Evs.nil)) rfl ?_)) | (apply OpW.k_call; first | (apply OpW.k_callf 60; exact OpW.callV kL (Evs.cons rfl (Evs.cons rfl Evs.nil)))) | refine goR ?_ | refine goP ?_ | apply PSeq.cons | apply PSeq.yes rfl rfl rfl | exact goW | fail)
      exact ⟨_, _, _, (Ent.mkP goSub goPm), ⟨i + 1, ys, rfl, ⟨by omega, by omega, hyl⟩, rfl, rfl⟩, by omega⟩
  · repeat' (first | refine goH ?_ | refine goV ?_ | refine goG ?_ | (refine Ops.k_guard ?_; first | (refine Ops.guard_dec rfl rfl (fun hc => ?_) (fun hc => ?_) <;> try (exfalso; omega)) | refine Ops.guard_split rfl rfl (fun hc => ?_) (fun hc => ?_)) | refine goI ?_ | (refine Cw.k_cond ?_; first | (refine Cw.cond_dec rfl (fun hc => ?_) (fun hc => ?_) <;> try (exfalso; omega)) | refine Cw.cond_bool rfl (fun hc => ?_) (fun hc => ?_)) | refine goR ?_ | refine goP ?_ | apply PSeq.cons | apply PSeq.yes rfl rfl rfl | exact goW | fail)
    exact Fin.norm (Ent.mkP goSub goPm) (Outs.zero rfl) ⟨rfl, ys, hyl, rfl⟩
theorem pdqO {n : Nat} {d : Int} {xs : List Int} {ad : Option Addr} {cap : Nat} (hl : xs.length ≤ 12) (hn : n = xs.length) :
    Spec Try.prog 42 [Tr.raw (.slice ad n cap), .int 0, .int n, .int d] [Chunk.own ad cap 1 3 (intRows xs)] (fun r cs => r = Tr.tup [] ∧ ∃ ys : List Int, ys.length = n ∧ cs = [Chunk.own ad cap 1 3 (intRows ys)]) := by
  have hi := insSortO (ad := ad) (cap := cap) (show xs.length ≤ 1000000 by omega) hn
  refine Spec.body Try.func42 rfl rfl (Try.ntmps42) rfl fun w0 own0 M => ?_
  repeat' (first | refine goH ?_ | refine goV ?_ | refine goG ?_ | (refine Ops.k_guard ?_; first | (refine Ops.guard_dec rfl rfl (fun hc => ?_) (fun hc => ?_) <;> try (exfalso; omega)) | refine Ops.guard_split rfl rfl (fun hc => ?_) (fun hc => ?_)) | refine goI ?_ | (refine Cw.k_cond ?_; first | (refine Cw.cond_dec rfl (fun hc => ?_) (fun hc => ?_) <;> try (exfalso; omega)) | refine Cw.cond_bool rfl (fun hc => ?_) (fun hc => ?_)) | refine goR ?_ | refine goP ?_ | apply PSeq.cons | apply PSeq.yes rfl rfl rfl | exact goW | fail)
  refine Cw.loopI [(0, _)] _ (fun q e c => q = 0 ∧ e = [(1, .int 0), (2, .int n), (3, .int d), (8, .bool true), (9, .bool true)] ∧ c = [Chunk.own ad cap 1 3 (intRows xs)]) ⟨_, _, _, (Ent.mkP goSub goPm), rfl, rfl, rfl⟩ ?_
  rintro _ _ _ ⟨rfl, rfl, rfl⟩
  repeat' (first | refine goH ?_ | refine goV ?_ | refine goG ?_ | (refine Ops.k_guard ?_; first | (refine Ops.guard_dec rfl rfl (fun hc => ?_) (fun hc => ?_) <;> try (exfalso; omega)) | refine Ops.guard_split rfl rfl (fun hc => ?_) (fun hc => ?_)) | refine goI ?_ | (refine Cw.k_cond ?_; first | (refine Cw.cond_dec rfl (fun hc => ?_) (fun hc => ?_) <;> try (exfalso; omega)) | refine Cw.cond_bool rfl (fun hc => ?_) (fun hc => ?_)) | (refine Ops.k_calla ?_; first | (refine Ops.k_callf 54 ?_; (refine Ops.call hi (Evs.cons rfl (Evs.cons rfl (Evs.cons rfl Evs.nil))) goPm rfl ?_; rintro r cs' ⟨rfl, ys, hy, rfl⟩))) | refine goR ?_ | refine goP ?_ | apply PSeq.cons | apply PSeq.yes rfl rfl rfl | exact goW | fail)
  first | exact Fin.norm (Ent.mkP goSub (by simp)) (Outs.zero rfl) ⟨rfl, ys, hy, rfl⟩ | exact Fin.ret (Ent.mkP goSub (by simp)) (Outs.zero rfl) ⟨rfl, ys, hy, rfl⟩
theorem sortO_fn {n : Nat} {xs : List Int} {ad : Option Addr} {cap : Nat} (hl : xs.length ≤ 12) (hn : n = xs.length) :
    Spec Try.prog 15 [Tr.raw (.slice ad n cap)] [Chunk.own ad cap 1 3 (intRows xs)] (fun r cs => r = Tr.tup [] ∧ ∃ ys : List Int, ys.length = n ∧ cs = [Chunk.own ad cap 1 3 (intRows ys)]) := by
  have hi := fun d => pdqO (d := d) (ad := ad) (cap := cap) hl hn
  have hb := bitsLen_fn n (by omega)
  unfold PFn at hb
  refine Spec.body Try.func15 rfl rfl (Try.ntmps15) rfl fun w0 own0 M => ?_
  repeat' (first | refine goH ?_ | (refine Ops.k_convert ?_; first | (refine Ops.convN Try.underlying3 Try.underlying64 rfl (wrap_u64 (by omega)) rfl ?_)) | refine goV ?_ | refine goI ?_ | (refine Cw.k_cond ?_; first | (refine Cw.cond_dec rfl (fun hc => ?_) (fun hc => ?_) <;> try (exfalso; omega)) | refine Cw.cond_bool rfl (fun hc => ?_) (fun hc => ?_)) | (refine Ops.k_calla ?_; first | (refine Ops.k_callf 43 ?_; (refine Ops.call hb (Evs.cons rfl Evs.nil) (by rw [List.nil_append]) rfl ?_; rintro r cs' ⟨rfl, v, rfl⟩; rw [List.nil_append])) | (refine Ops.k_callf 42 ?_; (refine Ops.call (hi _) (Evs.cons rfl (Evs.cons rfl (Evs.cons rfl (Evs.cons rfl Evs.nil)))) goPm rfl ?_; rintro r cs' ⟨rfl, ys, hy, rfl⟩))) | fail)
  first | exact Fin.norm (Ent.mkP goSub (by simp)) (Outs.zero rfl) ⟨rfl, ys, hy, rfl⟩ | exact Fin.ret (Ent.mkP goSub (by simp)) (Outs.zero rfl) ⟨rfl, ys, hy, rfl⟩
end Lg
end
section
set_option linter.all false
set_option maxRecDepth 100000
set_option maxHeartbeats 8000000
namespace Lg
open Go Go.Proofs

theorem numbersO_gen (n m : Int) (h : 0 ≤ n ∧ n ≤ 20) (hm : 0 ≤ m ∧ m ≤ 1000000) : GenO Try.prog 25 13 [.int n, .int m] 60 1 3 (fun rows => ∃ gs : List Int, rows = intRows gs ∧ gs.length ≤ n.toNat + 1) := by
  unfold GenO
  intro b xs N hN
  refine Spec.body Try.func13 rfl rfl (Try.ntmps13) rfl fun w0 own0 M => ?_
  repeat' (first | refine goH ?_ | refine goV ?_ | refine goC (fun ad cap => ?_) | refine goG ?_ | (refine Ops.k_guard ?_; first | (refine Ops.guard_dec rfl rfl (fun hc => ?_) (fun hc => ?_) <;> try (exfalso; omega)) | refine Ops.guard_split rfl rfl (fun hc => ?_) (fun hc => ?_)) | refine goI ?_ | (refine Cw.k_cond ?_; first | (refine Cw.cond_dec rfl (fun hc => ?_) (fun hc => ?_) <;> try (exfalso; omega)) | refine Cw.cond_bool rfl (fun hc => ?_) (fun hc => ?_)) | fail)
  refine Cw.loopI [(0, _), (2, _), (8, _)] _ (fun q e cc => ∃ (k : Nat) (ad : Option Addr) (cap : Nat) (gs : List Int) (c : Nat), q = 20 - k ∧ ((k : Int) ≤ n ∧ gs.length = k ∧ c ≤ N + k) ∧ e = [(7, Tr.raw (.slice ad (intRows gs).length cap)), (9, .int k)] ∧ cc = [Chunk.own ad cap 1 3 (intRows gs), Chunk.strm 25 b (intRows xs) c])
    ⟨_, _, _, Ent.trans (Ent.nil 1 3) (Ent.mkP goSub goPm), 0, none, 0, [], N, rfl, ⟨by omega, rfl, by omega⟩, rfl, rfl⟩ ?_
  rintro _ _ _ ⟨k, ad, cap, gs, c, rfl, ⟨hk, hlen, h3⟩, rfl, rfl⟩
  have hrl : (intRows gs).length = k := by rw [intRows_len, hlen]
  have key : ∀ a : Int, intRows gs ++ [[Tr.int a]] = intRows (gs ++ [a]) := by intro a; rw [intRows_app]; rfl
  by_cases hkl : (k : Int) < n
  · repeat' (first | refine goH ?_ | refine goV ?_ | refine goC (fun ad cap => ?_) | refine goG ?_ | (refine Ops.k_guard ?_; first | (refine Ops.guard_dec rfl rfl (fun hc => ?_) (fun hc => ?_) <;> try (exfalso; omega)) | refine Ops.guard_split rfl rfl (fun hc => ?_) (fun hc => ?_)) | refine goI ?_ | (refine Cw.k_cond ?_; first | (refine Cw.cond_dec rfl (fun hc => ?_) (fun hc => ?_) <;> try (exfalso; omega)) | refine Cw.cond_bool rfl (fun hc => ?_) (fun hc => ?_)) | (refine Ops.k_calla ?_; first | (refine Ops.k_callf 14 ?_; (refine Ops.callG (next_gen _ (by omega)) (Evs.cons rfl (Evs.cons rfl Evs.nil)) goPk (by omega) rfl ?_; rintro r ⟨v, rfl, hv⟩; unfold InRange at hv))) | fail)
    rw [key]
    exact ⟨_, _, _, (Ent.mk goSub goTk), ⟨k + 1, _, _, gs ++ [v], _, rfl, ⟨by omega, by simp [hlen], by omega⟩, rfl, rfl⟩, by omega⟩
  · repeat' (first | refine goH ?_ | refine goV ?_ | refine goC (fun ad cap => ?_) | refine goG ?_ | (refine Ops.k_guard ?_; first | (refine Ops.guard_dec rfl rfl (fun hc => ?_) (fun hc => ?_) <;> try (exfalso; omega)) | refine Ops.guard_split rfl rfl (fun hc => ?_) (fun hc => ?_)) | refine goI ?_ | (refine Cw.k_cond ?_; first | (refine Cw.cond_dec rfl (fun hc => ?_) (fun hc => ?_) <;> try (exfalso; omega)) | refine Cw.cond_bool rfl (fun hc => ?_) (fun hc => ?_)) | (refine Ops.k_calla ?_; first | (refine Ops.k_callf 5 ?_; (refine Ops.callG (pick_gen (by repeat' (first | exact IsInts.nil | apply IsInts.cons)) (by simp)) (Evs.cons rfl (Evs.cons rfl Evs.nil)) goPk (by omega) rfl ?_; rintro r ⟨v, rfl, hv⟩)) | (refine Ops.k_callf 14 ?_; (refine Ops.callG (next_gen _ (by first | omega | (simp; omega))) (Evs.cons rfl (Evs.cons rfl Evs.nil)) goPk (by omega) rfl ?_; rintro r ⟨v, rfl, hv⟩; unfold InRange at hv; try simp only [List.length_append, List.length_cons, List.length_nil] at hv; try simp only [List.length_append, List.length_cons, List.length_nil] at hc)) | (refine Ops.k_callf 26 ?_; (refine Ops.callG (flip_gen _ (by omega)) (Evs.cons rfl (Evs.cons rfl Evs.nil)) goPk (by omega) rfl ?_; rintro r ⟨v, rfl⟩))) | fail)
    all_goals first
      | exact Fin.ret (Ent.trans (Ent.take (Take.cons goPk (Take.cons goPk Take.nil))) (Ent.trans (Ent.perm (List.Perm.swap _ _ _)) (Ent.trans (Ent.more_strm (by omega)) (Ent.perm (List.Perm.swap _ _ _))))) (Outs.one rfl rfl) ⟨_, _, _, rfl, rfl, _, key _, by simp only [List.length_append, List.length_cons, List.length_nil]; omega⟩
      | exact Fin.ret (Ent.trans (Ent.take (Take.cons goPk (Take.cons goPk Take.nil))) (Ent.trans (Ent.perm (List.Perm.swap _ _ _)) (Ent.trans (Ent.more_strm (by omega)) (Ent.perm (List.Perm.swap _ _ _))))) (Outs.one rfl rfl) ⟨_, _, _, rfl, rfl, _, rfl, by omega⟩
      | skip
    · rename_i i hi
      obtain ⟨y, hy⟩ : ∃ y, (intRows gs ++ [[Tr.int 1]])[i.toNat]? = some [Tr.int y] := by
        rw [key]
        exact ⟨_, intRows_get (by simp only [List.length_append, List.length_cons, List.length_nil]; omega)⟩
      have e : (intRows gs ++ [[Tr.int 1]]).set i.toNat [Tr.int v] = intRows ((gs ++ [1]).set i.toNat v) := by rw [key, int_set]
      have e2 : (intRows gs ++ [[Tr.int 1]]).length = (intRows ((gs ++ [1]).set i.toNat v)).length := by rw [← e, List.length_set]
      refine Ops.store_own1 rfl rfl goPk hy (by decide) ?_
      repeat' (first | refine goH ?_ | refine goV ?_ | refine goC (fun ad cap => ?_) | refine goG ?_ | (refine Ops.k_guard ?_; first | (refine Ops.guard_dec rfl rfl (fun hc => ?_) (fun hc => ?_) <;> try (exfalso; omega)) | refine Ops.guard_split rfl rfl (fun hc => ?_) (fun hc => ?_)) | refine goI ?_ | (refine Cw.k_cond ?_; first | (refine Cw.cond_dec rfl (fun hc => ?_) (fun hc => ?_) <;> try (exfalso; omega)) | refine Cw.cond_bool rfl (fun hc => ?_) (fun hc => ?_)) | fail)
      exact Fin.ret (Ent.trans (Ent.take (Take.cons goPk (Take.cons goPk Take.nil))) (Ent.trans (Ent.perm (List.Perm.swap _ _ _)) (Ent.trans (Ent.more_strm (by omega)) (Ent.perm (List.Perm.swap _ _ _))))) (Outs.one rfl rfl) ⟨_, _, intRows ((gs ++ [1]).set i.toNat v), by simp [intRows_len], congrArg (fun z => [Chunk.own _ _ 1 3 z, _]) e, _, rfl, by simp only [List.length_set, List.length_append, List.length_cons, List.length_nil]; omega⟩
    · rename_i i hi
      obtain ⟨y, hy⟩ : ∃ y, (intRows gs)[i.toNat]? = some [Tr.int y] := ⟨_, intRows_get (by omega)⟩
      have e : (intRows gs).set i.toNat [Tr.int v] = intRows (gs.set i.toNat v) := by rw [int_set]
      have e2 : (intRows gs).length = (intRows (gs.set i.toNat v)).length := by rw [← e, List.length_set]
      refine Ops.store_own1 rfl rfl goPk hy (by decide) ?_
      repeat' (first | refine goH ?_ | refine goV ?_ | refine goC (fun ad cap => ?_) | refine goG ?_ | (refine Ops.k_guard ?_; first | (refine Ops.guard_dec rfl rfl (fun hc => ?_) (fun hc => ?_) <;> try (exfalso; omega)) | refine Ops.guard_split rfl rfl (fun hc => ?_) (fun hc => ?_)) | refine goI ?_ | (refine Cw.k_cond ?_; first | (refine Cw.cond_dec rfl (fun hc => ?_) (fun hc => ?_) <;> try (exfalso; omega)) | refine Cw.cond_bool rfl (fun hc => ?_) (fun hc => ?_)) | fail)
      exact Fin.ret (Ent.trans (Ent.take (Take.cons goPk (Take.cons goPk Take.nil))) (Ent.trans (Ent.perm (List.Perm.swap _ _ _)) (Ent.trans (Ent.more_strm (by omega)) (Ent.perm (List.Perm.swap _ _ _))))) (Outs.one rfl rfl) ⟨_, _, intRows (gs.set i.toNat v), by simp [intRows_len], congrArg (fun z => [Chunk.own _ _ 1 3 z, _]) e, _, rfl, by simp only [List.length_set]; omega⟩
end Lg
end
section
set_option linter.all false
set_option maxRecDepth 100000
set_option maxHeartbeats 8000000
namespace Lg
open Go Go.Proofs

theorem Fin.ent {P : Program} {Γ : Ctx} {env env1 : Env} {cs cs1 : List Chunk} {fn : Func} {post : Tr → List Chunk → Prop} {ex : Exit} (h : Ent Γ env cs env1 cs1) (k : Fin P fn Γ post ex env1 cs1) : Fin P fn Γ post ex env cs := by
  unfold Fin at k ⊢
  obtain ⟨h0, e2, c2, r, h1, h2, h3⟩ := k
  exact ⟨h0, e2, c2, r, h.trans h1, h2, h3⟩
attribute [local irreducible] intRows
theorem week_gen (m : Int) (hm : 0 ≤ m ∧ m ≤ 10) : Gen Try.prog 25 4 [.int m] 20 (fun r => ∃ (J : List Int) (D : Int), r = .week J D ∧ J.length ≤ 11 ∧ 0 ≤ D ∧ D ≤ 8) := by
  unfold Gen
  intro bs xs N hN
  refine Spec.body Try.func4 rfl rfl (Try.ntmps4) rfl fun w0 own0 M => ?_
  repeat' (first | refine goH ?_ | refine goV ?_ | refine goB (fun b => ?_) | refine goC (fun ad cap => ?_) | refine goI ?_ | (refine Cw.k_cond ?_; first | (refine Cw.cond_dec rfl (fun hc => ?_) (fun hc => ?_) <;> try (exfalso; omega)) | refine Cw.cond_bool rfl (fun hc => ?_) (fun hc => ?_)) | (refine Ops.k_calla ?_; first | (refine Ops.k_callf 5 ?_; (refine Ops.callG (pick_gen (by repeat' (first | exact IsInts.nil | apply IsInts.cons)) (by simp)) (Evs.cons rfl (Evs.cons rfl Evs.nil)) goPk (by omega) rfl ?_; rintro r ⟨D, rfl, hx⟩; have hxbD : 0 ≤ D ∧ D ≤ 8 := (by simp at hx; omega); clear hx)) | (refine Ops.k_callf 14 ?_; (refine Ops.callG (next_gen _ (by omega)) (Evs.cons rfl (Evs.cons rfl Evs.nil)) goPk (by omega) rfl ?_; rintro r ⟨n, rfl, hn⟩; unfold InRange at hn))) | refine goR ?_ | refine goP ?_ | apply PSeq.cons | apply PSeq.yes rfl rfl rfl | exact goW | fail)
  rename_i b4
  refine Cw.loopI [(0, _), (4, _), (5, _), (13, _)] _ (fun q e cc => ∃ (k : Nat) (rows : List (List Tr)) (l : List Int) (ad : Option Addr) (cap : Nat) (c : Nat), q = 10 - k ∧ ((k : Int) ≤ n ∧ rows = intRows l ∧ (intRows l).length = k ∧ l.length = k ∧ c ≤ N + 2 + k) ∧ e = [(14, .int k)] ∧ cc = [Chunk.box b 27 [Tr.raw (.slice ad k cap), .int D], Chunk.own ad cap 1 3 rows, Chunk.strm 25 bs (intRows xs) c])
    ⟨_, _, _, Ent.trans (Ent.nil 1 3) (Ent.mkP goSub goPm), 0, [], [], none, 0, N + 2, rfl, ⟨by omega, intRows_nil.symm, by rw [intRows_nil]; rfl, rfl, by omega⟩, rfl, rfl⟩ ?_
  rintro _ _ _ ⟨k, _, l, ad, cap, c, rfl, ⟨hk, rfl, hrl, hll, hc⟩, rfl, rfl⟩
  by_cases hkn : (k : Int) < n
  · repeat' (first | refine goH ?_ | refine goV ?_ | refine goB (fun b => ?_) | refine goC (fun ad cap => ?_) | refine goI ?_ | (refine Cw.k_cond ?_; first | (refine Cw.cond_dec rfl (fun hc => ?_) (fun hc => ?_) <;> try (exfalso; omega)) | refine Cw.cond_bool rfl (fun hc => ?_) (fun hc => ?_)) | fail)
    first | refine Cw.region_YP (fun ξ S => Chunk.strm 25 bs (intRows xs) (c + b2n (S 4)) :: Chunk.box b4 27 (List.map Tr.raw [.slice none 0 0, .int .i64 0]) :: Chunk.box b 27 [stg (S 8) (Tr.raw (.slice ad k cap)) (Tr.raw (.slice (vAd (ξ 6)) (k + 1) (vCap (ξ 6)))), .int D] :: stg (S 6) (Chunk.own ad cap 1 3 (intRows l)) (ownV (ξ 6) 1 3 (intRows l ++ [[.int (vInt (ξ 4))]])) :: []) rfl (by decide +kernel) rfl ((fun (ξ : Nat → Value) (S : Nat → Bool) => Chunk.strm 25 bs (intRows xs) (c + b2n (S 4)) :: Chunk.box b4 27 (List.map Tr.raw [.slice none 0 0, .int .i64 0]) :: Chunk.box b 27 [stg (S 8) (Tr.raw (.slice ad k cap)) (Tr.raw (.slice (vAd (ξ 6)) (k + 1) (vCap (ξ 6)))), .int D] :: stg (S 6) (Chunk.own ad cap 1 3 (intRows l)) (ownV (ξ 6) 1 3 (intRows l ++ [[.int (vInt (ξ 4))]])) :: []) (fun _ => undef) (fun _ => false)) (by simp only [upd_same, updD_same, upd_ne, updD_ne, ne_eq, Nat.reduceEqDiff, not_false_eq_true, stg_t, stg_f, vAd_s, vCap_s, blk_p, List.cons_append, List.nil_append, b2n_t, b2n_f]; exact goXm) (fun _ => rfl) ?_ | fail
    apply YSeq.w (by intro _ _ _; rfl)
    · intro ξ S h1 h2 h3 h4
      have hN0_1 := closed_false h1 h3 (k := 1) rfl (by decide)
      have hN0_6 := closed_false hN0_1 h3 (k := 6) rfl (by decide)
      have hN0_8 := closed_false h1 h3 (k := 8) rfl (by decide)
      try simp only [upd_same, updD_same, upd_ne, updD_ne, ne_eq, Nat.reduceEqDiff, not_false_eq_true, stg_t, stg_f, vAd_s, vCap_s, blk_p, List.cons_append, List.nil_append, b2n_t, b2n_f, hN0_6, hN0_8]
      exact goW
    · intro ξ v; rfl
    · intro ξ k v S h3 hn hk
      first
      | rfl
    apply YSeq.w (by intro _ _ _; rfl)
    · intro ξ S h1 h2 h3 h4
      have hN1_6 := closed_false h1 h3 (k := 6) rfl (by decide)
      have hN1_8 := closed_false h1 h3 (k := 8) rfl (by decide)
      try simp only [upd_same, updD_same, upd_ne, updD_ne, ne_eq, Nat.reduceEqDiff, not_false_eq_true, stg_t, stg_f, vAd_s, vCap_s, blk_p, List.cons_append, List.nil_append, b2n_t, b2n_f, hN1_6, hN1_8]
      exact goW
    · intro ξ v; rfl
    · intro ξ k v S h3 hn hk
      first
      | rfl
    apply YSeq.w (by intro _ _ _; rfl)
    · intro ξ S h1 h2 h3 h4
      have hN2_4 := closed_false h1 h3 (k := 4) rfl (by decide)
      have hN2_6 := closed_false hN2_4 h3 (k := 6) rfl (by decide)
      have hN2_8 := closed_false h1 h3 (k := 8) rfl (by decide)
      try simp only [upd_same, updD_same, upd_ne, updD_ne, ne_eq, Nat.reduceEqDiff, not_false_eq_true, stg_t, stg_f, vAd_s, vCap_s, blk_p, List.cons_append, List.nil_append, b2n_t, b2n_f, hN2_4, hN2_6, hN2_8]
      exact goW
    · intro ξ v; rfl
    · intro ξ k v S h3 hn hk
      first
      | rfl
    apply YSeq.w (by intro _ _ _; rfl)
    · intro ξ S h1 h2 h3 h4
      have hN3_4 := closed_false h1 h3 (k := 4) rfl (by decide)
      have hN3_6 := closed_false hN3_4 h3 (k := 6) rfl (by decide)
      have hN3_8 := closed_false h1 h3 (k := 8) rfl (by decide)
      try simp only [upd_same, updD_same, upd_ne, updD_ne, ne_eq, Nat.reduceEqDiff, not_false_eq_true, stg_t, stg_f, vAd_s, vCap_s, blk_p, List.cons_append, List.nil_append, b2n_t, b2n_f, hN3_4, hN3_6, hN3_8]
      exact goW
    · intro ξ v; rfl
    · intro ξ k v S h3 hn hk
      first
      | rfl
    apply YSeq.callI (pick_gen (l := [0, 1, 3, 4, 7, 10]) (by repeat' (first | exact IsInts.nil | apply IsInts.cons)) (by simp)) (fun _ => (Evs.cons rfl (Evs.cons rfl Evs.nil)))
    · intro ξ S h1 h3
      have hN4_6 := closed_false h1 h3 (k := 6) rfl (by decide)
      have hN4_8 := closed_false h1 h3 (k := 8) rfl (by decide)
      have hq4 := b2n_le (S 4)
      simp only [upd_same, updD_same, upd_ne, updD_ne, ne_eq, Nat.reduceEqDiff, not_false_eq_true, stg_t, stg_f, vAd_s, vCap_s, blk_p, List.cons_append, List.nil_append, b2n_t, b2n_f, h1, hN4_6, hN4_8]
      refine ⟨_, _, ?_, goXp, fun v => ?_⟩
      · omega
      · refine List.Perm.trans goXp (perm_strm ?_)
        omega
    apply YSeq.w (by intro _ _ _; rfl)
    · intro ξ S h1 h2 h3 h4
      have hY5_4 : S 4 = true := h2 4 (by decide)
      have hN5_6 := closed_false h1 h3 (k := 6) rfl (by decide)
      have hN5_8 := closed_false h1 h3 (k := 8) rfl (by decide)
      have hR20 := pf_int (pick_gen (l := [0, 1, 3, 4, 7, 10]) (by repeat' (first | exact IsInts.nil | apply IsInts.cons)) (by simp)) (h4 4 hY5_4)
      try simp only [InRange] at hR20
      have hRn20 := hR20
      try simp only [Nat.zero_add, Nat.reduceAdd] at hRn20
      try simp only [upd_same, updD_same, upd_ne, updD_ne, ne_eq, Nat.reduceEqDiff, not_false_eq_true, stg_t, stg_f, vAd_s, vCap_s, blk_p, List.cons_append, List.nil_append, b2n_t, b2n_f, hY5_4, hN5_6, hN5_8]
      exact goW
    · intro ξ v; rfl
    · intro ξ k v S h3 hn hk
      first
      | rfl
      | skip
        have hY5_4 : S 4 = true := h3 5 _ rfl hn 4 (by decide)
        simp only [upd_S hY5_4 hk]
    apply YSeq.append (k + 1)
    · intro ξ S h1 h2 h3 h4
      have hY6_4 : S 4 = true := h2 4 (by decide)
      have hN6_8 := closed_false h1 h3 (k := 8) rfl (by decide)
      have hR20 := pf_int (pick_gen (l := [0, 1, 3, 4, 7, 10]) (by repeat' (first | exact IsInts.nil | apply IsInts.cons)) (by simp)) (h4 4 hY6_4)
      try simp only [InRange] at hR20
      have hRn20 := hR20
      try simp only [Nat.zero_add, Nat.reduceAdd] at hRn20
      simp only [upd_same, updD_same, upd_ne, updD_ne, ne_eq, Nat.reduceEqDiff, not_false_eq_true, stg_t, stg_f, vAd_s, vCap_s, blk_p, List.cons_append, List.nil_append, b2n_t, b2n_f, hY6_4, h1, hN6_8]
      refine ⟨_, _, _, _, _, _, rfl, rfl, goXp, (by first | rfl | (simp; done) | omega), (by first | rfl | omega | (simp; done) | (simp; omega)), (by first | omega | (simp; done) | (simp; omega)), (by first | omega | (simp; done) | (simp; omega)), fun ad' cap' => ?_⟩
      exact goXm
    apply YSeq.w (by intro _ _ _; rfl)
    · intro ξ S h1 h2 h3 h4
      have hY7_4 : S 4 = true := h2 4 (by decide)
      have hY7_6 : S 6 = true := h2 6 (by decide)
      have hN7_8 := closed_false h1 h3 (k := 8) rfl (by decide)
      have hR20 := pf_int (pick_gen (l := [0, 1, 3, 4, 7, 10]) (by repeat' (first | exact IsInts.nil | apply IsInts.cons)) (by simp)) (h4 4 hY7_4)
      try simp only [InRange] at hR20
      have hRn20 := hR20
      try simp only [Nat.zero_add, Nat.reduceAdd] at hRn20
      try simp only [upd_same, updD_same, upd_ne, updD_ne, ne_eq, Nat.reduceEqDiff, not_false_eq_true, stg_t, stg_f, vAd_s, vCap_s, blk_p, List.cons_append, List.nil_append, b2n_t, b2n_f, hY7_4, hY7_6, hN7_8]
      exact goW
    · intro ξ v; rfl
    · intro ξ k v S h3 hn hk
      first
      | rfl
      | skip
        have hY7_4 : S 4 = true := h3 7 _ rfl hn 4 (by decide)
        have hY7_6 : S 6 = true := h3 7 _ rfl hn 6 (by decide)
        simp only [upd_S hY7_4 hk, upd_S hY7_6 hk]
    apply YSeq.store
    · intro ξ S h1 h2 h3 h4
      have hY8_4 : S 4 = true := h2 4 (by decide)
      have hY8_6 : S 6 = true := h2 6 (by decide)
      have hR20 := pf_int (pick_gen (l := [0, 1, 3, 4, 7, 10]) (by repeat' (first | exact IsInts.nil | apply IsInts.cons)) (by simp)) (h4 4 hY8_4)
      try simp only [InRange] at hR20
      have hRn20 := hR20
      try simp only [Nat.zero_add, Nat.reduceAdd] at hRn20
      simp only [upd_same, updD_same, upd_ne, updD_ne, ne_eq, Nat.reduceEqDiff, not_false_eq_true, stg_t, stg_f, vAd_s, vCap_s, blk_p, List.cons_append, List.nil_append, b2n_t, b2n_f, hY8_4, hY8_6, h1]
      refine ⟨_, _, _, _, _, _, _, rfl, rfl, inferInstance, goXp, rfl, Nat.le_of_ble_eq_true rfl, ?_⟩
      exact goXm
    refine YSeq.nil fun ξ hf => ?_
    have hR20 := pf_int (pick_gen (l := [0, 1, 3, 4, 7, 10]) (by repeat' (first | exact IsInts.nil | apply IsInts.cons)) (by simp)) (hf 4)
    try simp only [InRange] at hR20
    refine ⟨[(0, _), (4, _), (5, _), (13, _), (14, _)], _, Ent.trans (Ent.eqc rfl (by simp only [upd_same, updD_same, upd_ne, updD_ne, ne_eq, Nat.reduceEqDiff, not_false_eq_true, stg_t, stg_f, vAd_s, vCap_s, blk_p, List.cons_append, List.nil_append, b2n_t, b2n_f, ownV, slV, ptV] <;> rfl)) (Ent.sub goSub), ?_⟩
    clear hf
    generalize vInt (ξ 4) = x20 at hR20 ⊢
    generalize vAd (ξ 6) = ad22
    generalize vCap (ξ 6) = cap22
    rw [intRows_snoc]
    repeat' (first | refine goH ?_ | refine goV ?_ | refine goB (fun b => ?_) | refine goC (fun ad cap => ?_) | refine goI ?_ | (refine Cw.k_cond ?_; first | (refine Cw.cond_dec rfl (fun hc => ?_) (fun hc => ?_) <;> try (exfalso; omega)) | refine Cw.cond_bool rfl (fun hc => ?_) (fun hc => ?_)) | refine goR ?_ | refine goP ?_ | apply PSeq.cons | apply PSeq.yes rfl rfl rfl | exact goW | fail)
    exact ⟨_, _, _, (Ent.mk goSub goTk), ⟨k + 1, _, l ++ [x20], _, _, _, rfl, ⟨by omega, rfl, by rw [intRows_len]; simp [hll], by simp [hll], by omega⟩, rfl, rfl⟩, by omega⟩
  have hk10 : k ≤ 10 := by omega
  repeat' (first | refine goH ?_ | refine goV ?_ | refine goB (fun b => ?_) | refine goC (fun ad cap => ?_) | refine goI ?_ | (refine Cw.k_cond ?_; first | (refine Cw.cond_dec rfl (fun hc => ?_) (fun hc => ?_) <;> try (exfalso; omega)) | refine Cw.cond_bool rfl (fun hc => ?_) (fun hc => ?_)) | (refine Ops.k_calla ?_; first | (refine Ops.k_callf 26 ?_; (refine Ops.callG (flip_gen _ (by omega)) (Evs.cons rfl (Evs.cons rfl Evs.nil)) goPk (by omega) rfl ?_; rintro r ⟨u, rfl⟩)) | (refine Ops.k_callf 5 ?_; (refine Ops.callG (pick_gen (by repeat' (first | exact IsInts.nil | apply IsInts.cons)) (by simp)) (Evs.cons rfl (Evs.cons rfl Evs.nil)) goPk (by omega) rfl ?_; rintro r ⟨D2, rfl, hx⟩; have hxbD2 : 0 ≤ D2 ∧ D2 ≤ 8 := (by simp at hx; omega); clear hx))) | fail)
  · first | refine Cw.region_YP (fun ξ S => Chunk.strm 25 bs (intRows xs) (c + 1 + 1 + 1 + b2n (S 4)) :: Chunk.box b4 27 (List.map Tr.raw [.slice none 0 0, .int .i64 0]) :: Chunk.box b 27 [stg (S 8) (Tr.raw (.slice ad k cap)) (Tr.raw (.slice (vAd (ξ 6)) (k + 1) (vCap (ξ 6)))), .int D2] :: stg (S 6) (Chunk.own ad cap 1 3 (intRows l)) (ownV (ξ 6) 1 3 (intRows l ++ [[.int (vInt (ξ 4))]])) :: []) rfl (by decide +kernel) rfl ((fun (ξ : Nat → Value) (S : Nat → Bool) => Chunk.strm 25 bs (intRows xs) (c + 1 + 1 + 1 + b2n (S 4)) :: Chunk.box b4 27 (List.map Tr.raw [.slice none 0 0, .int .i64 0]) :: Chunk.box b 27 [stg (S 8) (Tr.raw (.slice ad k cap)) (Tr.raw (.slice (vAd (ξ 6)) (k + 1) (vCap (ξ 6)))), .int D2] :: stg (S 6) (Chunk.own ad cap 1 3 (intRows l)) (ownV (ξ 6) 1 3 (intRows l ++ [[.int (vInt (ξ 4))]])) :: []) (fun _ => undef) (fun _ => false)) (by simp only [upd_same, updD_same, upd_ne, updD_ne, ne_eq, Nat.reduceEqDiff, not_false_eq_true, stg_t, stg_f, vAd_s, vCap_s, blk_p, List.cons_append, List.nil_append, b2n_t, b2n_f]; exact goXm) (fun _ => rfl) ?_ | fail
    apply YSeq.w (by intro _ _ _; rfl)
    · intro ξ S h1 h2 h3 h4
      have hN0_1 := closed_false h1 h3 (k := 1) rfl (by decide)
      have hN0_6 := closed_false hN0_1 h3 (k := 6) rfl (by decide)
      have hN0_8 := closed_false h1 h3 (k := 8) rfl (by decide)
      try simp only [upd_same, updD_same, upd_ne, updD_ne, ne_eq, Nat.reduceEqDiff, not_false_eq_true, stg_t, stg_f, vAd_s, vCap_s, blk_p, List.cons_append, List.nil_append, b2n_t, b2n_f, hN0_6, hN0_8]
      exact goW
    · intro ξ v; rfl
    · intro ξ k v S h3 hn hk
      first
      | rfl
    apply YSeq.w (by intro _ _ _; rfl)
    · intro ξ S h1 h2 h3 h4
      have hN1_6 := closed_false h1 h3 (k := 6) rfl (by decide)
      have hN1_8 := closed_false h1 h3 (k := 8) rfl (by decide)
      try simp only [upd_same, updD_same, upd_ne, updD_ne, ne_eq, Nat.reduceEqDiff, not_false_eq_true, stg_t, stg_f, vAd_s, vCap_s, blk_p, List.cons_append, List.nil_append, b2n_t, b2n_f, hN1_6, hN1_8]
      exact goW
    · intro ξ v; rfl
    · intro ξ k v S h3 hn hk
      first
      | rfl
    apply YSeq.w (by intro _ _ _; rfl)
    · intro ξ S h1 h2 h3 h4
      have hN2_4 := closed_false h1 h3 (k := 4) rfl (by decide)
      have hN2_6 := closed_false hN2_4 h3 (k := 6) rfl (by decide)
      have hN2_8 := closed_false h1 h3 (k := 8) rfl (by decide)
      try simp only [upd_same, updD_same, upd_ne, updD_ne, ne_eq, Nat.reduceEqDiff, not_false_eq_true, stg_t, stg_f, vAd_s, vCap_s, blk_p, List.cons_append, List.nil_append, b2n_t, b2n_f, hN2_4, hN2_6, hN2_8]
      exact goW
    · intro ξ v; rfl
    · intro ξ k v S h3 hn hk
      first
      | rfl
    apply YSeq.w (by intro _ _ _; rfl)
    · intro ξ S h1 h2 h3 h4
      have hN3_4 := closed_false h1 h3 (k := 4) rfl (by decide)
      have hN3_6 := closed_false hN3_4 h3 (k := 6) rfl (by decide)
      have hN3_8 := closed_false h1 h3 (k := 8) rfl (by decide)
      try simp only [upd_same, updD_same, upd_ne, updD_ne, ne_eq, Nat.reduceEqDiff, not_false_eq_true, stg_t, stg_f, vAd_s, vCap_s, blk_p, List.cons_append, List.nil_append, b2n_t, b2n_f, hN3_4, hN3_6, hN3_8]
      exact goW
    · intro ξ v; rfl
    · intro ξ k v S h3 hn hk
      first
      | rfl
    apply YSeq.callI (pick_gen (l := [-1, 10000, 10001]) (by repeat' (first | exact IsInts.nil | apply IsInts.cons)) (by simp)) (fun _ => (Evs.cons rfl (Evs.cons rfl Evs.nil)))
    · intro ξ S h1 h3
      have hN4_6 := closed_false h1 h3 (k := 6) rfl (by decide)
      have hN4_8 := closed_false h1 h3 (k := 8) rfl (by decide)
      have hq4 := b2n_le (S 4)
      simp only [upd_same, updD_same, upd_ne, updD_ne, ne_eq, Nat.reduceEqDiff, not_false_eq_true, stg_t, stg_f, vAd_s, vCap_s, blk_p, List.cons_append, List.nil_append, b2n_t, b2n_f, h1, hN4_6, hN4_8]
      refine ⟨_, _, ?_, goXp, fun v => ?_⟩
      · omega
      · refine List.Perm.trans goXp (perm_strm ?_)
        omega
    apply YSeq.w (by intro _ _ _; rfl)
    · intro ξ S h1 h2 h3 h4
      have hY5_4 : S 4 = true := h2 4 (by decide)
      have hN5_6 := closed_false h1 h3 (k := 6) rfl (by decide)
      have hN5_8 := closed_false h1 h3 (k := 8) rfl (by decide)
      have hR37 := pf_int (pick_gen (l := [-1, 10000, 10001]) (by repeat' (first | exact IsInts.nil | apply IsInts.cons)) (by simp)) (h4 4 hY5_4)
      try simp only [InRange] at hR37
      have hRn37 := hR37
      try simp only [Nat.zero_add, Nat.reduceAdd] at hRn37
      try simp only [upd_same, updD_same, upd_ne, updD_ne, ne_eq, Nat.reduceEqDiff, not_false_eq_true, stg_t, stg_f, vAd_s, vCap_s, blk_p, List.cons_append, List.nil_append, b2n_t, b2n_f, hY5_4, hN5_6, hN5_8]
      exact goW
    · intro ξ v; rfl
    · intro ξ k v S h3 hn hk
      first
      | rfl
      | skip
        have hY5_4 : S 4 = true := h3 5 _ rfl hn 4 (by decide)
        simp only [upd_S hY5_4 hk]
    apply YSeq.append (k + 1)
    · intro ξ S h1 h2 h3 h4
      have hY6_4 : S 4 = true := h2 4 (by decide)
      have hN6_8 := closed_false h1 h3 (k := 8) rfl (by decide)
      have hR37 := pf_int (pick_gen (l := [-1, 10000, 10001]) (by repeat' (first | exact IsInts.nil | apply IsInts.cons)) (by simp)) (h4 4 hY6_4)
      try simp only [InRange] at hR37
      have hRn37 := hR37
      try simp only [Nat.zero_add, Nat.reduceAdd] at hRn37
      simp only [upd_same, updD_same, upd_ne, updD_ne, ne_eq, Nat.reduceEqDiff, not_false_eq_true, stg_t, stg_f, vAd_s, vCap_s, blk_p, List.cons_append, List.nil_append, b2n_t, b2n_f, hY6_4, h1, hN6_8]
      refine ⟨_, _, _, _, _, _, rfl, rfl, goXp, (by first | rfl | (simp; done) | omega), (by first | rfl | omega | (simp; done) | (simp; omega)), (by first | omega | (simp; done) | (simp; omega)), (by first | omega | (simp; done) | (simp; omega)), fun ad' cap' => ?_⟩
      exact goXm
    apply YSeq.w (by intro _ _ _; rfl)
    · intro ξ S h1 h2 h3 h4
      have hY7_4 : S 4 = true := h2 4 (by decide)
      have hY7_6 : S 6 = true := h2 6 (by decide)
      have hN7_8 := closed_false h1 h3 (k := 8) rfl (by decide)
      have hR37 := pf_int (pick_gen (l := [-1, 10000, 10001]) (by repeat' (first | exact IsInts.nil | apply IsInts.cons)) (by simp)) (h4 4 hY7_4)
      try simp only [InRange] at hR37
      have hRn37 := hR37
      try simp only [Nat.zero_add, Nat.reduceAdd] at hRn37
      try simp only [upd_same, updD_same, upd_ne, updD_ne, ne_eq, Nat.reduceEqDiff, not_false_eq_true, stg_t, stg_f, vAd_s, vCap_s, blk_p, List.cons_append, List.nil_append, b2n_t, b2n_f, hY7_4, hY7_6, hN7_8]
      exact goW
    · intro ξ v; rfl
    · intro ξ k v S h3 hn hk
      first
      | rfl
      | skip
        have hY7_4 : S 4 = true := h3 7 _ rfl hn 4 (by decide)
        have hY7_6 : S 6 = true := h3 7 _ rfl hn 6 (by decide)
        simp only [upd_S hY7_4 hk, upd_S hY7_6 hk]
    apply YSeq.store
    · intro ξ S h1 h2 h3 h4
      have hY8_4 : S 4 = true := h2 4 (by decide)
      have hY8_6 : S 6 = true := h2 6 (by decide)
      have hR37 := pf_int (pick_gen (l := [-1, 10000, 10001]) (by repeat' (first | exact IsInts.nil | apply IsInts.cons)) (by simp)) (h4 4 hY8_4)
      try simp only [InRange] at hR37
      have hRn37 := hR37
      try simp only [Nat.zero_add, Nat.reduceAdd] at hRn37
      simp only [upd_same, updD_same, upd_ne, updD_ne, ne_eq, Nat.reduceEqDiff, not_false_eq_true, stg_t, stg_f, vAd_s, vCap_s, blk_p, List.cons_append, List.nil_append, b2n_t, b2n_f, hY8_4, hY8_6, h1]
      refine ⟨_, _, _, _, _, _, _, rfl, rfl, inferInstance, goXp, rfl, Nat.le_of_ble_eq_true rfl, ?_⟩
      exact goXm
    refine YSeq.nil fun ξ hf => ?_
    have hR37 := pf_int (pick_gen (l := [-1, 10000, 10001]) (by repeat' (first | exact IsInts.nil | apply IsInts.cons)) (by simp)) (hf 4)
    try simp only [InRange] at hR37
    refine ⟨[(0, _), (4, _), (5, _)], _, Ent.trans (Ent.eqc rfl (by simp only [upd_same, updD_same, upd_ne, updD_ne, ne_eq, Nat.reduceEqDiff, not_false_eq_true, stg_t, stg_f, vAd_s, vCap_s, blk_p, List.cons_append, List.nil_append, b2n_t, b2n_f, ownV, slV, ptV] <;> rfl)) (Ent.sub goSub), ?_⟩
    clear hf
    generalize vInt (ξ 4) = x37 at hR37 ⊢
    generalize vAd (ξ 6) = ad39
    generalize vCap (ξ 6) = cap39
    rw [intRows_snoc]
    repeat' (first | refine goH ?_ | refine goV ?_ | refine goB (fun b => ?_) | refine goC (fun ad cap => ?_) | refine goI ?_ | (refine Cw.k_cond ?_; first | (refine Cw.cond_dec rfl (fun hc => ?_) (fun hc => ?_) <;> try (exfalso; omega)) | refine Cw.cond_bool rfl (fun hc => ?_) (fun hc => ?_)) | refine goR ?_ | refine goP ?_ | apply PSeq.cons | apply PSeq.yes rfl rfl rfl | exact goW | fail)
    have hq2 : (intRows (l ++ [x37])).length = k + 1 := by rw [intRows_len, List.length_append, hll]; rfl
    refine Fin.ent (Ent.settle_box (b := b4) (i := 0) (ad := ad39) (kk := 1) (rows := intRows (l ++ [x37])) (by exact Perm.cons' goPk (Perm.cons' goPk (List.Perm.refl _))) rfl hq2.symm rfl) ?_
    refine Fin.ret (Ent.trans (Ent.setbox (s := 4) rfl goPk) (Ent.strm_only goPk (by omega))) (Outs.sole rfl goOe) ⟨rfl, l ++ [x37], D2, rfl, by simp; omega, by omega, by omega⟩
  · refine Fin.ent (Ent.settle_box (b := b4) (i := 0) (ad := ad) (kk := 1) (rows := intRows l) (by exact Perm.cons' goPk (Perm.cons' goPk (List.Perm.refl _))) rfl hrl.symm rfl) ?_
    refine Fin.ret (Ent.trans (Ent.setbox (s := 4) rfl goPk) (Ent.strm_only goPk (by omega))) (Outs.sole rfl goOe) ⟨rfl, l, D2, rfl, by omega, by omega, by omega⟩
  · first | refine Cw.region_YP (fun ξ S => Chunk.strm 25 bs (intRows xs) (c + 1 + 1 + b2n (S 4)) :: Chunk.box b4 27 (List.map Tr.raw [.slice none 0 0, .int .i64 0]) :: Chunk.box b 27 [stg (S 8) (Tr.raw (.slice ad k cap)) (Tr.raw (.slice (vAd (ξ 6)) (k + 1) (vCap (ξ 6)))), .int D] :: stg (S 6) (Chunk.own ad cap 1 3 (intRows l)) (ownV (ξ 6) 1 3 (intRows l ++ [[.int (vInt (ξ 4))]])) :: []) rfl (by decide +kernel) rfl ((fun (ξ : Nat → Value) (S : Nat → Bool) => Chunk.strm 25 bs (intRows xs) (c + 1 + 1 + b2n (S 4)) :: Chunk.box b4 27 (List.map Tr.raw [.slice none 0 0, .int .i64 0]) :: Chunk.box b 27 [stg (S 8) (Tr.raw (.slice ad k cap)) (Tr.raw (.slice (vAd (ξ 6)) (k + 1) (vCap (ξ 6)))), .int D] :: stg (S 6) (Chunk.own ad cap 1 3 (intRows l)) (ownV (ξ 6) 1 3 (intRows l ++ [[.int (vInt (ξ 4))]])) :: []) (fun _ => undef) (fun _ => false)) (by simp only [upd_same, updD_same, upd_ne, updD_ne, ne_eq, Nat.reduceEqDiff, not_false_eq_true, stg_t, stg_f, vAd_s, vCap_s, blk_p, List.cons_append, List.nil_append, b2n_t, b2n_f]; exact goXm) (fun _ => rfl) ?_ | fail
    apply YSeq.w (by intro _ _ _; rfl)
    · intro ξ S h1 h2 h3 h4
      have hN0_1 := closed_false h1 h3 (k := 1) rfl (by decide)
      have hN0_6 := closed_false hN0_1 h3 (k := 6) rfl (by decide)
      have hN0_8 := closed_false h1 h3 (k := 8) rfl (by decide)
      try simp only [upd_same, updD_same, upd_ne, updD_ne, ne_eq, Nat.reduceEqDiff, not_false_eq_true, stg_t, stg_f, vAd_s, vCap_s, blk_p, List.cons_append, List.nil_append, b2n_t, b2n_f, hN0_6, hN0_8]
      exact goW
    · intro ξ v; rfl
    · intro ξ k v S h3 hn hk
      first
      | rfl
    apply YSeq.w (by intro _ _ _; rfl)
    · intro ξ S h1 h2 h3 h4
      have hN1_6 := closed_false h1 h3 (k := 6) rfl (by decide)
      have hN1_8 := closed_false h1 h3 (k := 8) rfl (by decide)
      try simp only [upd_same, updD_same, upd_ne, updD_ne, ne_eq, Nat.reduceEqDiff, not_false_eq_true, stg_t, stg_f, vAd_s, vCap_s, blk_p, List.cons_append, List.nil_append, b2n_t, b2n_f, hN1_6, hN1_8]
      exact goW
    · intro ξ v; rfl
    · intro ξ k v S h3 hn hk
      first
      | rfl
    apply YSeq.w (by intro _ _ _; rfl)
    · intro ξ S h1 h2 h3 h4
      have hN2_4 := closed_false h1 h3 (k := 4) rfl (by decide)
      have hN2_6 := closed_false hN2_4 h3 (k := 6) rfl (by decide)
      have hN2_8 := closed_false h1 h3 (k := 8) rfl (by decide)
      try simp only [upd_same, updD_same, upd_ne, updD_ne, ne_eq, Nat.reduceEqDiff, not_false_eq_true, stg_t, stg_f, vAd_s, vCap_s, blk_p, List.cons_append, List.nil_append, b2n_t, b2n_f, hN2_4, hN2_6, hN2_8]
      exact goW
    · intro ξ v; rfl
    · intro ξ k v S h3 hn hk
      first
      | rfl
    apply YSeq.w (by intro _ _ _; rfl)
    · intro ξ S h1 h2 h3 h4
      have hN3_4 := closed_false h1 h3 (k := 4) rfl (by decide)
      have hN3_6 := closed_false hN3_4 h3 (k := 6) rfl (by decide)
      have hN3_8 := closed_false h1 h3 (k := 8) rfl (by decide)
      try simp only [upd_same, updD_same, upd_ne, updD_ne, ne_eq, Nat.reduceEqDiff, not_false_eq_true, stg_t, stg_f, vAd_s, vCap_s, blk_p, List.cons_append, List.nil_append, b2n_t, b2n_f, hN3_4, hN3_6, hN3_8]
      exact goW
    · intro ξ v; rfl
    · intro ξ k v S h3 hn hk
      first
      | rfl
    apply YSeq.callI (pick_gen (l := [-1, 10000, 10001]) (by repeat' (first | exact IsInts.nil | apply IsInts.cons)) (by simp)) (fun _ => (Evs.cons rfl (Evs.cons rfl Evs.nil)))
    · intro ξ S h1 h3
      have hN4_6 := closed_false h1 h3 (k := 6) rfl (by decide)
      have hN4_8 := closed_false h1 h3 (k := 8) rfl (by decide)
      have hq4 := b2n_le (S 4)
      simp only [upd_same, updD_same, upd_ne, updD_ne, ne_eq, Nat.reduceEqDiff, not_false_eq_true, stg_t, stg_f, vAd_s, vCap_s, blk_p, List.cons_append, List.nil_append, b2n_t, b2n_f, h1, hN4_6, hN4_8]
      refine ⟨_, _, ?_, goXp, fun v => ?_⟩
      · omega
      · refine List.Perm.trans goXp (perm_strm ?_)
        omega
    apply YSeq.w (by intro _ _ _; rfl)
    · intro ξ S h1 h2 h3 h4
      have hY5_4 : S 4 = true := h2 4 (by decide)
      have hN5_6 := closed_false h1 h3 (k := 6) rfl (by decide)
      have hN5_8 := closed_false h1 h3 (k := 8) rfl (by decide)
      have hR37 := pf_int (pick_gen (l := [-1, 10000, 10001]) (by repeat' (first | exact IsInts.nil | apply IsInts.cons)) (by simp)) (h4 4 hY5_4)
      try simp only [InRange] at hR37
      have hRn37 := hR37
      try simp only [Nat.zero_add, Nat.reduceAdd] at hRn37
      try simp only [upd_same, updD_same, upd_ne, updD_ne, ne_eq, Nat.reduceEqDiff, not_false_eq_true, stg_t, stg_f, vAd_s, vCap_s, blk_p, List.cons_append, List.nil_append, b2n_t, b2n_f, hY5_4, hN5_6, hN5_8]
      exact goW
    · intro ξ v; rfl
    · intro ξ k v S h3 hn hk
      first
      | rfl
      | skip
        have hY5_4 : S 4 = true := h3 5 _ rfl hn 4 (by decide)
        simp only [upd_S hY5_4 hk]
    apply YSeq.append (k + 1)
    · intro ξ S h1 h2 h3 h4
      have hY6_4 : S 4 = true := h2 4 (by decide)
      have hN6_8 := closed_false h1 h3 (k := 8) rfl (by decide)
      have hR37 := pf_int (pick_gen (l := [-1, 10000, 10001]) (by repeat' (first | exact IsInts.nil | apply IsInts.cons)) (by simp)) (h4 4 hY6_4)
      try simp only [InRange] at hR37
      have hRn37 := hR37
      try simp only [Nat.zero_add, Nat.reduceAdd] at hRn37
      simp only [upd_same, updD_same, upd_ne, updD_ne, ne_eq, Nat.reduceEqDiff, not_false_eq_true, stg_t, stg_f, vAd_s, vCap_s, blk_p, List.cons_append, List.nil_append, b2n_t, b2n_f, hY6_4, h1, hN6_8]
      refine ⟨_, _, _, _, _, _, rfl, rfl, goXp, (by first | rfl | (simp; done) | omega), (by first | rfl | omega | (simp; done) | (simp; omega)), (by first | omega | (simp; done) | (simp; omega)), (by first | omega | (simp; done) | (simp; omega)), fun ad' cap' => ?_⟩
      exact goXm
    apply YSeq.w (by intro _ _ _; rfl)
    · intro ξ S h1 h2 h3 h4
      have hY7_4 : S 4 = true := h2 4 (by decide)
      have hY7_6 : S 6 = true := h2 6 (by decide)
      have hN7_8 := closed_false h1 h3 (k := 8) rfl (by decide)
      have hR37 := pf_int (pick_gen (l := [-1, 10000, 10001]) (by repeat' (first | exact IsInts.nil | apply IsInts.cons)) (by simp)) (h4 4 hY7_4)
      try simp only [InRange] at hR37
      have hRn37 := hR37
      try simp only [Nat.zero_add, Nat.reduceAdd] at hRn37
      try simp only [upd_same, updD_same, upd_ne, updD_ne, ne_eq, Nat.reduceEqDiff, not_false_eq_true, stg_t, stg_f, vAd_s, vCap_s, blk_p, List.cons_append, List.nil_append, b2n_t, b2n_f, hY7_4, hY7_6, hN7_8]
      exact goW
    · intro ξ v; rfl
    · intro ξ k v S h3 hn hk
      first
      | rfl
      | skip
        have hY7_4 : S 4 = true := h3 7 _ rfl hn 4 (by decide)
        have hY7_6 : S 6 = true := h3 7 _ rfl hn 6 (by decide)
        simp only [upd_S hY7_4 hk, upd_S hY7_6 hk]
    apply YSeq.store
    · intro ξ S h1 h2 h3 h4
      have hY8_4 : S 4 = true := h2 4 (by decide)
      have hY8_6 : S 6 = true := h2 6 (by decide)
      have hR37 := pf_int (pick_gen (l := [-1, 10000, 10001]) (by repeat' (first | exact IsInts.nil | apply IsInts.cons)) (by simp)) (h4 4 hY8_4)
      try simp only [InRange] at hR37
      have hRn37 := hR37
      try simp only [Nat.zero_add, Nat.reduceAdd] at hRn37
      simp only [upd_same, updD_same, upd_ne, updD_ne, ne_eq, Nat.reduceEqDiff, not_false_eq_true, stg_t, stg_f, vAd_s, vCap_s, blk_p, List.cons_append, List.nil_append, b2n_t, b2n_f, hY8_4, hY8_6, h1]
      refine ⟨_, _, _, _, _, _, _, rfl, rfl, inferInstance, goXp, rfl, Nat.le_of_ble_eq_true rfl, ?_⟩
      exact goXm
    refine YSeq.nil fun ξ hf => ?_
    have hR37 := pf_int (pick_gen (l := [-1, 10000, 10001]) (by repeat' (first | exact IsInts.nil | apply IsInts.cons)) (by simp)) (hf 4)
    try simp only [InRange] at hR37
    refine ⟨[(0, _), (4, _), (5, _)], _, Ent.trans (Ent.eqc rfl (by simp only [upd_same, updD_same, upd_ne, updD_ne, ne_eq, Nat.reduceEqDiff, not_false_eq_true, stg_t, stg_f, vAd_s, vCap_s, blk_p, List.cons_append, List.nil_append, b2n_t, b2n_f, ownV, slV, ptV] <;> rfl)) (Ent.sub goSub), ?_⟩
    clear hf
    generalize vInt (ξ 4) = x37 at hR37 ⊢
    generalize vAd (ξ 6) = ad39
    generalize vCap (ξ 6) = cap39
    rw [intRows_snoc]
    repeat' (first | refine goH ?_ | refine goV ?_ | refine goB (fun b => ?_) | refine goC (fun ad cap => ?_) | refine goI ?_ | (refine Cw.k_cond ?_; first | (refine Cw.cond_dec rfl (fun hc => ?_) (fun hc => ?_) <;> try (exfalso; omega)) | refine Cw.cond_bool rfl (fun hc => ?_) (fun hc => ?_)) | refine goR ?_ | refine goP ?_ | apply PSeq.cons | apply PSeq.yes rfl rfl rfl | exact goW | fail)
    have hq2 : (intRows (l ++ [x37])).length = k + 1 := by rw [intRows_len, List.length_append, hll]; rfl
    refine Fin.ent (Ent.settle_box (b := b4) (i := 0) (ad := ad39) (kk := 1) (rows := intRows (l ++ [x37])) (by exact Perm.cons' goPk (Perm.cons' goPk (List.Perm.refl _))) rfl hq2.symm rfl) ?_
    refine Fin.ret (Ent.trans (Ent.setbox (s := 4) rfl goPk) (Ent.strm_only goPk (by omega))) (Outs.sole rfl goOe) ⟨rfl, l ++ [x37], D, rfl, by simp; omega, by omega, by omega⟩
  · refine Fin.ent (Ent.settle_box (b := b4) (i := 0) (ad := ad) (kk := 1) (rows := intRows l) (by exact Perm.cons' goPk (Perm.cons' goPk (List.Perm.refl _))) rfl hrl.symm rfl) ?_
    refine Fin.ret (Ent.trans (Ent.setbox (s := 4) rfl goPk) (Ent.strm_only goPk (by omega))) (Outs.sole rfl goOe) ⟨rfl, l, D, rfl, by omega, by omega, by omega⟩
theorem jobDays_gen (J : List Int) (D : Int) (hl : J.length ≤ 11) (hD : 0 ≤ D ∧ D ≤ 8) : Gen Try.prog 25 6 [.week J D] 20 (fun r => ∃ l : List Int, r = .ints l ∧ l.length ≤ 12) := by
  have hJR := intRows_len J
  unfold Gen
  intro bs xs N hN
  refine Spec.body Try.func6 rfl rfl (Try.ntmps6) rfl fun w0 own0 M => ?_
  repeat' (first | refine goH ?_ | refine goV ?_ | refine goB (fun b => ?_) | refine goC (fun ad cap => ?_) | refine goG ?_ | (refine Ops.k_guard ?_; first | (refine Ops.guard_dec rfl rfl (fun hc => ?_) (fun hc => ?_) <;> try (exfalso; omega)) | refine Ops.guard_split rfl rfl (fun hc => ?_) (fun hc => ?_)) | refine goI ?_ | (refine Cw.k_cond ?_; first | (refine Cw.cond_dec rfl (fun hc => ?_) (fun hc => ?_) <;> try (exfalso; omega)) | refine Cw.cond_bool rfl (fun hc => ?_) (fun hc => ?_)) | fail)
  refine Cw.loopI [(0, _), (3, _), (8, _)] _ (fun q e cc => ∃ (k : Nat) (rows : List (List Tr)) (l : List Int) (ad : Option Addr) (cap : Nat) (c : Nat), q = J.length - k ∧ (k ≤ J.length ∧ rows = intRows l ∧ (intRows l).length = k ∧ l.length = k ∧ c ≤ N + k) ∧ e = [(5, Tr.raw (.slice ad k cap)), (9, .int k)] ∧ cc = [Chunk.own ad cap 1 3 rows, Chunk.strm 25 bs (intRows xs) c])
    ⟨_, _, _, Ent.trans (Ent.nil 1 3) (Ent.mkP goSub goPm), 0, [], [], none, 0, N, rfl, ⟨by omega, intRows_nil.symm, by rw [intRows_nil]; rfl, rfl, by omega⟩, rfl, rfl⟩ ?_
  rintro _ _ _ ⟨k, _, l, ad, cap, c, rfl, ⟨hk, rfl, hrl, hll, hc⟩, rfl, rfl⟩
  by_cases hkn : k < J.length
  · repeat' (first | refine goH ?_ | refine goV ?_ | refine goB (fun b => ?_) | refine goC (fun ad cap => ?_) | refine goG ?_ | (refine Ops.k_guard ?_; first | (refine Ops.guard_dec rfl rfl (fun hc => ?_) (fun hc => ?_) <;> try (exfalso; omega)) | refine Ops.guard_split rfl rfl (fun hc => ?_) (fun hc => ?_)) | refine goI ?_ | (refine Cw.k_cond ?_; first | (refine Cw.cond_dec rfl (fun hc => ?_) (fun hc => ?_) <;> try (exfalso; omega)) | refine Cw.cond_bool rfl (fun hc => ?_) (fun hc => ?_)) | (refine Ops.k_calla ?_; first | (refine Ops.k_callf 14 ?_; (refine Ops.callG (next_gen _ (by omega)) (Evs.cons rfl (Evs.cons rfl Evs.nil)) goPk (by omega) rfl ?_; rintro r ⟨v, rfl, hv⟩; unfold InRange at hv))) | fail)
    rw [intRows_snoc]
    have hq : (intRows (l ++ [v])).length = k + 1 := by rw [intRows_len]; simp [hll]
    erw [hq]
    exact ⟨_, _, _, (Ent.mk goSub goTk), ⟨k + 1, _, l ++ [v], _, _, _, rfl, ⟨by omega, rfl, hq, by simp [hll], by omega⟩, rfl, rfl⟩, by omega⟩
  have hkJ : k = J.length := by omega
  clear hkn hk
  repeat' (first | refine goH ?_ | refine goV ?_ | refine goB (fun b => ?_) | refine goC (fun ad cap => ?_) | refine goG ?_ | (refine Ops.k_guard ?_; first | (refine Ops.guard_dec rfl rfl (fun hc => ?_) (fun hc => ?_) <;> try (exfalso; omega)) | refine Ops.guard_split rfl rfl (fun hc => ?_) (fun hc => ?_)) | refine goI ?_ | (refine Cw.k_cond ?_; first | (refine Cw.cond_dec rfl (fun hc => ?_) (fun hc => ?_) <;> try (exfalso; omega)) | refine Cw.cond_bool rfl (fun hc => ?_) (fun hc => ?_)) | fail)
  refine Ops.k_calla ?_
  refine Ops.callG (flip_gen _ (by omega)) (Evs.cons rfl (Evs.cons rfl Evs.nil)) goPk (by omega) rfl ?_
  rintro r ⟨u0, rfl⟩
  repeat' (first | refine goH ?_ | refine goV ?_ | refine goB (fun b => ?_) | refine goC (fun ad cap => ?_) | refine goG ?_ | (refine Ops.k_guard ?_; first | (refine Ops.guard_dec rfl rfl (fun hc => ?_) (fun hc => ?_) <;> try (exfalso; omega)) | refine Ops.guard_split rfl rfl (fun hc => ?_) (fun hc => ?_)) | refine goI ?_ | (refine Cw.k_cond ?_; first | (refine Cw.cond_dec rfl (fun hc => ?_) (fun hc => ?_) <;> try (exfalso; omega)) | refine Cw.cond_bool rfl (fun hc => ?_) (fun hc => ?_)) | fail)
  · rw [show ([[Tr.raw (Value.int .i64 0)]] : List (List Tr)) = [[Tr.int 0]] from rfl, intRows_snoc]
    obtain ⟨L, hL⟩ : ∃ L, L = l ++ [(0 : Int)] := ⟨_, rfl⟩
    rw [← hL]
    obtain ⟨n2, hn2⟩ : ∃ n2, n2 = (intRows L).length := ⟨_, rfl⟩
    have hr2 : (intRows L).length = n2 := hn2.symm
    have hl2 : L.length = n2 := by rw [hn2, intRows_len]
    have hl3 : L.length ≤ 12 := by rw [hL, List.length_append, hll]; simp; omega
    rw [← hn2]
    clear hn2 hL
    refine Ops.k_calla ?_
    refine Ops.callG (flip_gen _ (by omega)) (Evs.cons rfl (Evs.cons rfl Evs.nil)) goPk (by omega) rfl ?_
    rintro r ⟨u1, rfl⟩
    repeat' (first | refine goH ?_ | refine goV ?_ | refine goB (fun b => ?_) | refine goC (fun ad cap => ?_) | refine goG ?_ | (refine Ops.k_guard ?_; first | (refine Ops.guard_dec rfl rfl (fun hc => ?_) (fun hc => ?_) <;> try (exfalso; omega)) | refine Ops.guard_split rfl rfl (fun hc => ?_) (fun hc => ?_)) | refine goI ?_ | (refine Cw.k_cond ?_; first | (refine Cw.cond_dec rfl (fun hc => ?_) (fun hc => ?_) <;> try (exfalso; omega)) | refine Cw.cond_bool rfl (fun hc => ?_) (fun hc => ?_)) | (refine Ops.k_calla ?_; first | (refine Ops.k_callf 26 ?_; (refine Ops.callG (flip_gen _ (by omega)) (Evs.cons rfl (Evs.cons rfl Evs.nil)) goPk (by omega) rfl ?_; rintro r ⟨u, rfl⟩))) | fail)
    · obtain ⟨y, hy⟩ := at_lt (l := L) (k := 0) (by omega)
      have r1 := intRows_at hy
      clear hy
      repeat' (first | refine goH ?_ | refine goV ?_ | refine goB (fun b => ?_) | refine goC (fun ad cap => ?_) | refine goG ?_ | (refine Ops.k_guard ?_; first | (refine Ops.guard_dec rfl rfl (fun hc => ?_) (fun hc => ?_) <;> try (exfalso; omega)) | refine Ops.guard_split rfl rfl (fun hc => ?_) (fun hc => ?_)) | refine goI ?_ | (refine Cw.k_cond ?_; first | (refine Cw.cond_dec rfl (fun hc => ?_) (fun hc => ?_) <;> try (exfalso; omega)) | refine Cw.cond_bool rfl (fun hc => ?_) (fun hc => ?_)) | (refine Ops.k_calla ?_; first | (refine Ops.k_callf 5 ?_; (refine Ops.callG (pick_gen (l := [-1, D]) (by repeat' (first | exact IsInts.nil | apply IsInts.cons)) (by simp)) (Evs.cons rfl (Evs.cons rfl Evs.nil)) goPk (by omega) rfl ?_; rintro r ⟨x37, rfl, hx⟩; clear hx))) | fail)
      erw [int_set]
      have hq3 : (intRows ((L).set 0 x37)).length = n2 := by rw [intRows_len, List.length_set]; exact hl2
      rw [← hq3]
      refine Fin.ret (Ent.trans (Ent.settle (s := 4) rfl goPk rfl) (Ent.strm_only goPk (by omega))) (Outs.sole rfl goOe) ⟨rfl, (L).set 0 x37, rfl, by rw [List.length_set]; omega⟩
    · rw [← hr2]
      refine Fin.ret (Ent.trans (Ent.settle (s := 4) rfl goPk rfl) (Ent.strm_only goPk (by omega))) (Outs.sole rfl goOe) ⟨rfl, L, rfl, by omega⟩
    · rw [← hr2]
      refine Fin.ret (Ent.trans (Ent.settle (s := 4) rfl goPk rfl) (Ent.strm_only goPk (by omega))) (Outs.sole rfl goOe) ⟨rfl, L, rfl, by omega⟩
  · have hl3 : l.length ≤ 12 := by omega
    refine Ops.k_calla ?_
    refine Ops.callG (flip_gen _ (by omega)) (Evs.cons rfl (Evs.cons rfl Evs.nil)) goPk (by omega) rfl ?_
    rintro r ⟨u1, rfl⟩
    repeat' (first | refine goH ?_ | refine goV ?_ | refine goB (fun b => ?_) | refine goC (fun ad cap => ?_) | refine goG ?_ | (refine Ops.k_guard ?_; first | (refine Ops.guard_dec rfl rfl (fun hc => ?_) (fun hc => ?_) <;> try (exfalso; omega)) | refine Ops.guard_split rfl rfl (fun hc => ?_) (fun hc => ?_)) | refine goI ?_ | (refine Cw.k_cond ?_; first | (refine Cw.cond_dec rfl (fun hc => ?_) (fun hc => ?_) <;> try (exfalso; omega)) | refine Cw.cond_bool rfl (fun hc => ?_) (fun hc => ?_)) | (refine Ops.k_calla ?_; first | (refine Ops.k_callf 26 ?_; (refine Ops.callG (flip_gen _ (by omega)) (Evs.cons rfl (Evs.cons rfl Evs.nil)) goPk (by omega) rfl ?_; rintro r ⟨u, rfl⟩))) | fail)
    · obtain ⟨y, hy⟩ := at_lt (l := l) (k := 0) (by omega)
      have r1 := intRows_at hy
      clear hy
      repeat' (first | refine goH ?_ | refine goV ?_ | refine goB (fun b => ?_) | refine goC (fun ad cap => ?_) | refine goG ?_ | (refine Ops.k_guard ?_; first | (refine Ops.guard_dec rfl rfl (fun hc => ?_) (fun hc => ?_) <;> try (exfalso; omega)) | refine Ops.guard_split rfl rfl (fun hc => ?_) (fun hc => ?_)) | refine goI ?_ | (refine Cw.k_cond ?_; first | (refine Cw.cond_dec rfl (fun hc => ?_) (fun hc => ?_) <;> try (exfalso; omega)) | refine Cw.cond_bool rfl (fun hc => ?_) (fun hc => ?_)) | (refine Ops.k_calla ?_; first | (refine Ops.k_callf 5 ?_; (refine Ops.callG (pick_gen (l := [-1, D]) (by repeat' (first | exact IsInts.nil | apply IsInts.cons)) (by simp)) (Evs.cons rfl (Evs.cons rfl Evs.nil)) goPk (by omega) rfl ?_; rintro r ⟨x37, rfl, hx⟩; clear hx))) | fail)
      erw [int_set]
      have hq3 : (intRows ((l).set 0 x37)).length = k := by rw [intRows_len, List.length_set]; exact hll
      rw [← hq3]
      refine Fin.ret (Ent.trans (Ent.settle (s := 4) rfl goPk rfl) (Ent.strm_only goPk (by omega))) (Outs.sole rfl goOe) ⟨rfl, (l).set 0 x37, rfl, by rw [List.length_set]; omega⟩
    · rw [← hrl]
      refine Fin.ret (Ent.trans (Ent.settle (s := 4) rfl goPk rfl) (Ent.strm_only goPk (by omega))) (Outs.sole rfl goOe) ⟨rfl, l, rfl, by omega⟩
    · rw [← hrl]
      refine Fin.ret (Ent.trans (Ent.settle (s := 4) rfl goPk rfl) (Ent.strm_only goPk (by omega))) (Outs.sole rfl goOe) ⟨rfl, l, rfl, by omega⟩
end Lg
end
section
set_option linter.all false
set_option maxRecDepth 100000
set_option maxHeartbeats 4000000
namespace Lg
open Go Go.Proofs

structure Spot where
  x : Int
  y : Int
def Spot.row (s : Spot) : List Tr := [.int s.x, .int s.y]
def spotB (s : Spot) : Bool := decide (-10000 ≤ s.x ∧ s.x ≤ 10000 ∧ -10000 ≤ s.y ∧ s.y ≤ 10000)
def farI (a b : Spot) : Int := max (a.x - b.x) (b.x - a.x) + max (a.y - b.y) (b.y - a.y)
def SpBd (s : Spot) : Prop := -1000000 ≤ s.x ∧ s.x ≤ 1000000 ∧ -1000000 ≤ s.y ∧ s.y ≤ 1000000
theorem spotB_iff {s : Spot} : spotB s = true ↔ (-10000 ≤ s.x ∧ s.x ≤ 10000 ∧ -10000 ≤ s.y ∧ s.y ≤ 10000) := by simp [spotB]
theorem far_fn (a b : Spot) (ha : SpBd a) (hb : SpBd b) : PFn Try.prog 66 [.agg a.row, .agg b.row] (· = .int (farI a b)) := by
  obtain ⟨ax, ay⟩ := a
  obtain ⟨bx, by_⟩ := b
  unfold SpBd at ha hb
  simp only at ha hb
  refine PFn.mk (Spec.body Try.func66 rfl rfl (Try.ntmps66) rfl fun w0 own0 M => ?_)
  unfold Spot.row farI
  simp only
  repeat' (first | refine goH ?_ | refine goV ?_ | refine goB (fun b => ?_) | refine goI ?_ | (refine Cw.k_cond ?_; first | (refine Cw.cond_dec rfl (fun hc => ?_) (fun hc => ?_) <;> try (exfalso; omega)) | refine Cw.cond_bool rfl (fun hc => ?_) (fun hc => ?_)) | fail)
  exact Fin.ret (Ent.take goTk) (Outs.one rfl rfl) ⟨rfl, rfl⟩
theorem isSpot_fn (a : Spot) : PFn Try.prog 65 [.agg a.row] (· = .bool (spotB a)) := by
  obtain ⟨ax, ay⟩ := a
  refine PFn.mk (Spec.body Try.func65 rfl rfl (Try.ntmps65) rfl fun w0 own0 M => ?_)
  unfold Spot.row
  simp only
  by_cases h1 : -10000 ≤ ax ∧ ax ≤ 10000
  · by_cases h2 : -10000 ≤ ay ∧ ay ≤ 10000
    · repeat' (first | refine goH ?_ | refine goV ?_ | refine goB (fun b => ?_) | refine goG ?_ | (refine Ops.k_guard ?_; first | (refine Ops.guard_dec rfl rfl (fun hc => ?_) (fun hc => ?_) <;> try (exfalso; omega)) | refine Ops.guard_split rfl rfl (fun hc => ?_) (fun hc => ?_)) | refine goI ?_ | (refine Cw.k_cond ?_; first | (refine Cw.cond_dec rfl (fun hc => ?_) (fun hc => ?_) <;> try (exfalso; omega)) | refine Cw.cond_bool rfl (fun hc => ?_) (fun hc => ?_)) | (refine Ops.k_calla ?_; first | (refine Ops.k_callf 29 ?_; refine Ops.callV (out_f ax (-10000) 10000 (by omega)) (Evs.cons rfl (Evs.cons rfl (Evs.cons rfl Evs.nil))) rfl ?_) | (refine Ops.k_callf 29 ?_; refine Ops.callV (out_f ay (-10000) 10000 (by omega)) (Evs.cons rfl (Evs.cons rfl (Evs.cons rfl Evs.nil))) rfl ?_)) | fail)
      exact Fin.ret (Ent.take goTk) (Outs.one rfl rfl) ⟨rfl, congrArg Tr.bool (spotB_iff.2 ⟨h1.1, h1.2, h2.1, h2.2⟩).symm⟩
    · repeat' (first | refine goH ?_ | refine goV ?_ | refine goB (fun b => ?_) | refine goG ?_ | (refine Ops.k_guard ?_; first | (refine Ops.guard_dec rfl rfl (fun hc => ?_) (fun hc => ?_) <;> try (exfalso; omega)) | refine Ops.guard_split rfl rfl (fun hc => ?_) (fun hc => ?_)) | refine goI ?_ | (refine Cw.k_cond ?_; first | (refine Cw.cond_dec rfl (fun hc => ?_) (fun hc => ?_) <;> try (exfalso; omega)) | refine Cw.cond_bool rfl (fun hc => ?_) (fun hc => ?_)) | (refine Ops.k_calla ?_; first | (refine Ops.k_callf 29 ?_; refine Ops.callV (out_f ax (-10000) 10000 (by omega)) (Evs.cons rfl (Evs.cons rfl (Evs.cons rfl Evs.nil))) rfl ?_) | (refine Ops.k_callf 29 ?_; refine Ops.callV (out_t ay (-10000) 10000 (by omega)) (Evs.cons rfl (Evs.cons rfl (Evs.cons rfl Evs.nil))) rfl ?_)) | fail)
      refine Fin.ret (Ent.take goTk) (Outs.one rfl rfl) ⟨rfl, congrArg Tr.bool ?_⟩
      exact (decide_eq_false (fun h => h2 ⟨h.2.2.1, h.2.2.2⟩)).symm
  · repeat' (first | refine goH ?_ | refine goV ?_ | refine goB (fun b => ?_) | refine goG ?_ | (refine Ops.k_guard ?_; first | (refine Ops.guard_dec rfl rfl (fun hc => ?_) (fun hc => ?_) <;> try (exfalso; omega)) | refine Ops.guard_split rfl rfl (fun hc => ?_) (fun hc => ?_)) | refine goI ?_ | (refine Cw.k_cond ?_; first | (refine Cw.cond_dec rfl (fun hc => ?_) (fun hc => ?_) <;> try (exfalso; omega)) | refine Cw.cond_bool rfl (fun hc => ?_) (fun hc => ?_)) | (refine Ops.k_calla ?_; first | (refine Ops.k_callf 29 ?_; refine Ops.callV (out_t ax (-10000) 10000 (by omega)) (Evs.cons rfl (Evs.cons rfl (Evs.cons rfl Evs.nil))) rfl ?_)) | fail)
    refine Fin.ret (Ent.take goTk) (Outs.one rfl rfl) ⟨rfl, congrArg Tr.bool ?_⟩
    exact (decide_eq_false (fun h => h1 ⟨h.1, h.2.1⟩)).symm
def farE (a b : Spot) : Int := if spotB a = true ∧ spotB b = true then 0 else 1
theorem farU_fn (a b : Spot) : PFn Try.prog 45 [.agg a.row, .agg b.row] (· = .tup [.int (if farE a b ≠ 0 then 0 else farI a b), .int (farE a b)]) := by
  have k1 := isSpot_fn a
  have k2 := isSpot_fn b
  refine PFn.mk (Spec.body Try.func45 rfl rfl (Try.ntmps45) rfl fun w0 own0 M => ?_)
  cases h1 : spotB a
  · rw [h1] at k1
    have e : farE a b = 1 := by unfold farE; rw [h1, if_neg (by simp)]
    rw [e]
    unfold Spot.row at *
    repeat' (first | refine goH ?_ | refine goV ?_ | refine goB (fun b => ?_) | refine goG ?_ | (refine Ops.k_guard ?_; first | (refine Ops.guard_dec rfl rfl (fun hc => ?_) (fun hc => ?_) <;> try (exfalso; omega)) | refine Ops.guard_split rfl rfl (fun hc => ?_) (fun hc => ?_)) | refine goI ?_ | (refine Cw.k_cond ?_; first | (refine Cw.cond_dec rfl (fun hc => ?_) (fun hc => ?_) <;> try (exfalso; omega)) | refine Cw.cond_bool rfl (fun hc => ?_) (fun hc => ?_)) | (refine Ops.k_calla ?_; first | (refine Ops.k_callf 65 ?_; refine Ops.callV k1 (Evs.cons rfl Evs.nil) rfl ?_)) | fail)
    refine Fin.ret (Ent.take goTk) (Outs.many rfl (OutL.cons goOe (OutL.cons goOe OutL.nil)) rfl) ⟨rfl, rfl⟩
  rw [h1] at k1
  cases h2 : spotB b
  · rw [h2] at k2
    have e : farE a b = 1 := by unfold farE; rw [h2, if_neg (by simp)]
    rw [e]
    unfold Spot.row at *
    repeat' (first | refine goH ?_ | refine goV ?_ | refine goB (fun b => ?_) | refine goG ?_ | (refine Ops.k_guard ?_; first | (refine Ops.guard_dec rfl rfl (fun hc => ?_) (fun hc => ?_) <;> try (exfalso; omega)) | refine Ops.guard_split rfl rfl (fun hc => ?_) (fun hc => ?_)) | refine goI ?_ | (refine Cw.k_cond ?_; first | (refine Cw.cond_dec rfl (fun hc => ?_) (fun hc => ?_) <;> try (exfalso; omega)) | refine Cw.cond_bool rfl (fun hc => ?_) (fun hc => ?_)) | (refine Ops.k_calla ?_; first | (refine Ops.k_callf 65 ?_; refine Ops.callV k1 (Evs.cons rfl Evs.nil) rfl ?_) | (refine Ops.k_callf 65 ?_; refine Ops.callV k2 (Evs.cons rfl Evs.nil) rfl ?_)) | fail)
    refine Fin.ret (Ent.take goTk) (Outs.many rfl (OutL.cons goOe (OutL.cons goOe OutL.nil)) rfl) ⟨rfl, rfl⟩
  rw [h2] at k2
  have e : farE a b = 0 := by unfold farE; rw [if_pos ⟨h1, h2⟩]
  rw [e]
  have b1 := spotB_iff.1 h1
  have b2 := spotB_iff.1 h2
  have k3 := far_fn a b ⟨by omega, by omega, by omega, by omega⟩ ⟨by omega, by omega, by omega, by omega⟩
  unfold Spot.row at *
  repeat' (first | refine goH ?_ | refine goV ?_ | refine goB (fun b => ?_) | refine goG ?_ | (refine Ops.k_guard ?_; first | (refine Ops.guard_dec rfl rfl (fun hc => ?_) (fun hc => ?_) <;> try (exfalso; omega)) | refine Ops.guard_split rfl rfl (fun hc => ?_) (fun hc => ?_)) | refine goI ?_ | (refine Cw.k_cond ?_; first | (refine Cw.cond_dec rfl (fun hc => ?_) (fun hc => ?_) <;> try (exfalso; omega)) | refine Cw.cond_bool rfl (fun hc => ?_) (fun hc => ?_)) | (refine Ops.k_calla ?_; first | (refine Ops.k_callf 65 ?_; refine Ops.callV k1 (Evs.cons rfl Evs.nil) rfl ?_) | (refine Ops.k_callf 65 ?_; refine Ops.callV k2 (Evs.cons rfl Evs.nil) rfl ?_) | (refine Ops.k_callf 66 ?_; refine Ops.callV k3 (Evs.cons rfl (Evs.cons rfl Evs.nil)) rfl ?_)) | fail)
  refine Fin.ret (Ent.take goTk) (Outs.many rfl (OutL.cons goOe (OutL.cons goOe OutL.nil)) rfl) ⟨rfl, rfl⟩
theorem rounds_fn : PFn Try.prog 20 [] (· = .bool true) := by
  have h := farU_fn ⟨3, 0⟩ ⟨0, -4⟩
  have e1 : farE ⟨3, 0⟩ ⟨0, -4⟩ = 0 := by decide +kernel
  have e2 : farI ⟨3, 0⟩ ⟨0, -4⟩ = 7 := by decide +kernel
  rw [e1, e2] at h
  refine PFn.mk (Spec.body Try.func20 rfl rfl (Try.ntmps20) rfl fun w0 own0 M => ?_)
  unfold Spot.row at h
  repeat' (first | refine goH ?_ | refine goV ?_ | refine goG ?_ | (refine Ops.k_guard ?_; first | (refine Ops.guard_dec rfl rfl (fun hc => ?_) (fun hc => ?_) <;> try (exfalso; omega)) | refine Ops.guard_split rfl rfl (fun hc => ?_) (fun hc => ?_)) | refine goI ?_ | (refine Cw.k_cond ?_; first | (refine Cw.cond_dec rfl (fun hc => ?_) (fun hc => ?_) <;> try (exfalso; omega)) | refine Cw.cond_bool rfl (fun hc => ?_) (fun hc => ?_)) | (refine Ops.k_calla ?_; first | (refine Ops.k_callf 45 ?_; refine Ops.callV h (Evs.cons rfl (Evs.cons rfl Evs.nil)) rfl ?_)) | fail)
  exact Fin.ret (Ent.take goTk) (Outs.one rfl rfl) ⟨rfl, rfl⟩
end Lg
end
