/- A part of the proof of a law of this seat: it adds no condition. By an AI agent. -/
import Derived.Test.YtflfdomajimpjaaWk17
import Derived.Test.YtflfdomajimpjaaLaw
set_option linter.all false
set_option maxRecDepth 100000
set_option maxHeartbeats 8000000
namespace Lg
open Go Go.Proofs

theorem levelE_fn (J : List Int) (D : Int) (hl : J.length ≤ 60) (hw : weekE J D ≠ 0) : PFn Try.prog 10 [.week J D] (· = .tup [.sl 1 [], .int 0, .int (weekE J D)]) := by
  have k1 := checkPlan_fn J D (by omega)
  generalize weekE J D = e at *
  refine PFn.mk (Spec.body Try.func10 rfl rfl (Try.ntmps10) rfl fun w0 own0 M => ?_)
  repeat' (first | refine goH ?_ | refine goV ?_ | refine goB (fun b => ?_) | refine goC (fun ad cap => ?_) | refine goI ?_ | (refine Cw.k_cond ?_; first | (refine Cw.cond_dec rfl (fun hc => ?_) (fun hc => ?_) <;> try (exfalso; omega)) | refine Cw.cond_bool rfl (fun hc => ?_) (fun hc => ?_)) | (refine Ops.k_calla ?_; first | (refine Ops.k_callf 8 ?_; refine Ops.callV k1 (Evs.cons rfl Evs.nil) rfl ?_)) | (apply OpW.k_call; first | (apply OpW.k_callf 8; exact OpW.callV k1 (Evs.cons rfl Evs.nil))) | refine goR ?_ | refine goP ?_ | apply PSeq.cons | apply PSeq.yes rfl rfl rfl | exact goW | fail)
  refine Fin.ret (Ent.trans (Ent.nilsl 1 (s := 2) rfl) (Ent.take goTk)) (Outs.many rfl (OutL.cons goOe (OutL.cons goOe (OutL.cons goOe OutL.nil))) rfl) ⟨rfl, rfl⟩
theorem fairE_fn (J : List Int) (D : Int) (hl : J.length ≤ 60) (hw : weekE J D ≠ 0) : PFn Try.prog 11 [.week J D] (· = .tup [.sl 1 [], .int (weekE J D)]) := by
  have k1 := checkPlan_fn J D (by omega)
  generalize weekE J D = e at *
  refine PFn.mk (Spec.body Try.func11 rfl rfl (Try.ntmps11) rfl fun w0 own0 M => ?_)
  repeat' (first | refine goH ?_ | refine goV ?_ | refine goB (fun b => ?_) | refine goC (fun ad cap => ?_) | refine goI ?_ | (refine Cw.k_cond ?_; first | (refine Cw.cond_dec rfl (fun hc => ?_) (fun hc => ?_) <;> try (exfalso; omega)) | refine Cw.cond_bool rfl (fun hc => ?_) (fun hc => ?_)) | (refine Ops.k_calla ?_; first | (refine Ops.k_callf 8 ?_; refine Ops.callV k1 (Evs.cons rfl Evs.nil) rfl ?_)) | (apply OpW.k_call; first | (apply OpW.k_callf 8; exact OpW.callV k1 (Evs.cons rfl Evs.nil))) | refine goR ?_ | refine goP ?_ | apply PSeq.cons | apply PSeq.yes rfl rfl rfl | exact goW | fail)
  refine Fin.ret (Ent.trans (Ent.nilsl 1 (s := 2) rfl) (Ent.take goTk)) (Outs.many rfl (OutL.cons goOe (OutL.cons goOe OutL.nil)) rfl) ⟨rfl, rfl⟩
theorem frF_len (J : List Int) : ∀ (S out L : List Int), (frF J S out L).length = out.length
  | [], out, L => by rw [frF]
  | i :: S, out, L => by rw [frF, frF_len J S, List.length_set]
theorem frO_len (J : List Int) (D : Int) : (frO J D).length = J.length := by
  unfold frO
  rw [frF_len, List.length_replicate]
theorem visL_len (l : List Int) : ∀ (n : Nat) (d : Int), (visL l d n).length ≤ n
  | 0, d => by simp [visL]
  | n + 1, d => by
    rw [visL]
    have := visL_len l n (d + 1)
    split
    · simp; omega
    · omega
theorem lev_cases (J : List Int) (D : Int) (hw : weekE J D = 0) : ∃ (a : List Int) (m e : Int), levO J D = .tup [.ints a, .int m, .int e] ∧ a.length ≤ 8 := by
  obtain ⟨hD, hJ⟩ := weekE_ok hw
  unfold levO
  by_cases h : J.length > 8
  · rw [if_pos h]
    exact ⟨[], 0, 2, rfl, by simp⟩
  · rw [if_neg h]
    refine ⟨_, _, _, rfl, ?_⟩
    exact (lev_bd J (pre := []) (st := ([], -1)) (by rw [List.length_replicate]; omega) (fun y hy => by rw [List.eq_of_mem_replicate hy]; simp) hJ (by simp) (by simp; omega) (by simp)).1
theorem vis_two (l : List Int) (f t : Int) (hl : l.length ≤ 1000) (hf : -1 ≤ f ∧ f ≤ 3) (ht : -1 ≤ t ∧ t ≤ 4002) : ∃ (Z : Int) (L : List Int), visE l f t = Z ∧ PFn Try.prog 16 [.ints l, .int f, .int t] (· = .tup [.ints L, .int Z]) ∧ (Z = 0 → PFn Try.prog 19 [.ints l, .int f, .int t] (· = .ints L)) ∧ L.length ≤ 5000 := by
  have h := visits_fn l f t hl (by omega) (by omega)
  by_cases h0 : visE l f t ≠ 0
  · rw [if_pos h0] at h
    exact ⟨_, [], rfl, h, fun e => absurd e h0, by simp⟩
  · rw [if_neg h0] at h
    have e0 : visE l f t = 0 := by omega
    have hft : 0 ≤ f ∧ f ≤ t := by
      unfold visE at e0
      by_cases h1 : l.length > 7
      · rw [if_pos h1] at e0; omega
      rw [if_neg h1] at e0
      by_cases h2 : visG (-1) l ≠ 0
      · rw [if_pos h2] at e0; exact absurd e0 h2
      rw [if_neg h2] at e0
      by_cases h3 : f < 0 ∨ t < f ∨ 4001 < t
      · rw [if_pos h3] at e0; omega
      omega
    refine ⟨0, _, e0, h, fun _ => visOf_fn l f t hl (by omega) (by omega), ?_⟩
    have := visL_len l (t - f).toNat f
    omega
attribute [local irreducible] intRows weekE lodE dayE levO frO ldsOf movM mxL visE visL
theorem weeksLevel_law (xs : List Int) : Spec Try.prog 3 [Tr.ints xs] [] (fun r _ => r = Tr.bool true) := by
  refine Spec.body Try.func3 rfl rfl (Try.ntmps3) rfl fun w0 own0 M => ?_
  repeat' (first | refine goH ?_ | refine goV ?_ | refine goB (fun b => ?_) | refine goG ?_ | (refine Ops.k_guard ?_; first | (refine Ops.guard_dec rfl rfl (fun hc => ?_) (fun hc => ?_) <;> try (exfalso; omega)) | refine Ops.guard_split rfl rfl (fun hc => ?_) (fun hc => ?_)) | refine goI ?_ | (refine Cw.k_cond ?_; first | (refine Cw.cond_dec rfl (fun hc => ?_) (fun hc => ?_) <;> try (exfalso; omega)) | refine Cw.cond_bool rfl (fun hc => ?_) (fun hc => ?_)) | refine Ops.shut0 (ty := 25) rfl ?_ | (refine Ops.k_calla ?_; first | (refine Ops.k_callf 5 ?_; (refine Ops.callG (pick_gen (by repeat' (first | exact IsInts.nil | apply IsInts.cons)) (by simp)) (Evs.cons rfl (Evs.cons rfl Evs.nil)) goPk (by omega) rfl ?_; rintro r ⟨m, rfl, hx⟩; have hxm : 0 ≤ m ∧ m ≤ 10 := (by simp at hx; omega); clear hx)) | (refine Ops.k_callf 5 ?_; (refine Ops.callG (pick_gen (by repeat' (first | exact IsInts.nil | apply IsInts.cons)) (by simp)) (Evs.cons rfl (Evs.cons rfl Evs.nil)) goPk (by omega) rfl ?_; rintro r ⟨rds, rfl, hx⟩; have hxr : -1 ≤ rds ∧ rds ≤ 101 := (by simp at hx; omega); clear hx)) | (refine Ops.k_callf 4 ?_; (refine Ops.callG (week_gen _ (by omega)) (Evs.cons rfl (Evs.cons rfl Evs.nil)) goPk (by omega) rfl ?_; rintro r ⟨J, D, rfl, hJl, hD1, hD2⟩)) | (refine Ops.k_callf 6 ?_; (refine Ops.callG (jobDays_gen J D (by omega) (by omega)) (Evs.cons rfl (Evs.cons rfl Evs.nil)) goPk (by omega) rfl ?_; rintro r ⟨ds, rfl, hdl⟩))) | fail)
  have kf := weekFault_fn J D (by omega)
  have kc := checkPlan_fn J D (by omega)
  have kl := loadsU_fn J D ds (by omega) (by omega) (by omega)
  have km := move_fn J ds D rds (by omega) (by omega) (by omega) (by omega)
  by_cases hw : weekE J D ≠ 0
  · have kL := levelE_fn J D (by omega) hw
    have kF := fairE_fn J D (by omega) hw
    have hde : dayE J D ds = weekE J D := by unfold dayE; rw [if_pos hw]
    rw [hde, if_pos hw] at kl km
    clear hde
    generalize weekE J D = e at *
    repeat' (first | refine goH ?_ | refine goV ?_ | refine goB (fun b => ?_) | refine goG ?_ | (refine Ops.k_guard ?_; first | (refine Ops.guard_dec rfl rfl (fun hc => ?_) (fun hc => ?_) <;> try (exfalso; omega)) | refine Ops.guard_split rfl rfl (fun hc => ?_) (fun hc => ?_)) | refine goI ?_ | (refine Cw.k_cond ?_; first | (refine Cw.cond_dec rfl (fun hc => ?_) (fun hc => ?_) <;> try (exfalso; omega)) | refine Cw.cond_bool rfl (fun hc => ?_) (fun hc => ?_)) | (refine Ops.k_calla ?_; first | (refine Ops.k_callf 14 ?_; (refine Ops.callG (next_gen _ (by omega)) (Evs.cons rfl (Evs.cons rfl Evs.nil)) goPk (by omega) rfl ?_; rintro r ⟨n, rfl, hn⟩; unfold InRange at hn)) | (refine Ops.k_callf 13 ?_; (refine Ops.callGO (numbersO_gen n 6 (by omega) (by omega)) (Evs.cons rfl (Evs.cons rfl (Evs.cons rfl Evs.nil))) goPk (by omega) rfl (fun ad cap rows hr => ?_); obtain ⟨gs, rfl, hgs⟩ := hr)) | (refine Ops.k_callf 5 ?_; (refine Ops.callG (pick_gen (by repeat' (first | exact IsInts.nil | apply IsInts.cons)) (by simp)) (Evs.cons rfl (Evs.cons rfl Evs.nil)) goPk (by omega) rfl ?_; rintro r ⟨f, rfl, hx⟩; have hxf : -1 ≤ f ∧ f ≤ 3 := (by simp at hx; omega); clear hx)) | (refine Ops.k_callf 5 ?_; (refine Ops.callG (pick_gen (by repeat' (first | exact IsInts.nil | apply IsInts.cons)) (by simp)) (Evs.cons rfl (Evs.cons rfl Evs.nil)) goPk (by omega) rfl ?_; rintro r ⟨t, rfl, hx⟩; have hxt : 2 ≤ t ∧ t ≤ 4002 := (by simp at hx; omega); clear hx)) | (refine Ops.k_callf 20 ?_; refine Ops.callV rounds_fn Evs.nil rfl ?_) | (refine Ops.k_callf 7 ?_; refine Ops.callV kf (Evs.cons rfl Evs.nil) rfl ?_) | (refine Ops.k_callf 8 ?_; refine Ops.callV kc (Evs.cons rfl Evs.nil) rfl ?_) | (refine Ops.k_callf 9 ?_; refine Ops.callV kl (Evs.cons rfl (Evs.cons rfl Evs.nil)) rfl ?_) | (refine Ops.k_callf 10 ?_; refine Ops.callV kL (Evs.cons rfl Evs.nil) rfl ?_) | (refine Ops.k_callf 11 ?_; refine Ops.callV kF (Evs.cons rfl Evs.nil) rfl ?_) | (refine Ops.k_callf 12 ?_; refine Ops.callV km (Evs.cons rfl (Evs.cons rfl (Evs.cons rfl Evs.nil))) rfl ?_)) | fail)
    have hgr := intRows_len gs
    refine Ops.k_calla ?_
    refine Ops.call (sortO_fn (xs := gs) (by omega) hgr) (Evs.cons rfl Evs.nil) goPm rfl ?_
    rintro y cs' ⟨rfl, ys, hy, rfl⟩
    refine Ops.ent (Ent.settle (s := 18) rfl goPk (hy.symm.trans (intRows_len ys).symm)) ?_
    have hyl : ys.length ≤ 5 := by omega
    have p1 := visits_fn ys f t (by omega) (by omega) (by omega)
    have p2 := visFault_fn ys f t (by omega) (by omega) (by omega)
    clear hy hgr hgs
    obtain ⟨Z, L, hZ, hp3, hp4⟩ := vis_two ys f t (by omega) (by omega) (by omega)
    rw [hZ] at p2
    clear hZ p1
    by_cases hZ0 : Z = 0
    · have p3 := hp4.1 hZ0
      have p4 := equalInts_fn L L (by omega) (by omega)
      rw [decide_eq_true rfl] at p4
      subst hZ0
      repeat' (first | refine goH ?_ | refine goV ?_ | refine goB (fun b => ?_) | refine goG ?_ | (refine Ops.k_guard ?_; first | (refine Ops.guard_dec rfl rfl (fun hc => ?_) (fun hc => ?_) <;> try (exfalso; omega)) | refine Ops.guard_split rfl rfl (fun hc => ?_) (fun hc => ?_)) | refine goI ?_ | (refine Cw.k_cond ?_; first | (refine Cw.cond_dec rfl (fun hc => ?_) (fun hc => ?_) <;> try (exfalso; omega)) | refine Cw.cond_bool rfl (fun hc => ?_) (fun hc => ?_)) | (refine Ops.k_calla ?_; first | (refine Ops.k_callf 20 ?_; refine Ops.callV rounds_fn Evs.nil rfl ?_) | (refine Ops.k_callf 7 ?_; refine Ops.callV kf (Evs.cons rfl Evs.nil) rfl ?_) | (refine Ops.k_callf 8 ?_; refine Ops.callV kc (Evs.cons rfl Evs.nil) rfl ?_) | (refine Ops.k_callf 9 ?_; refine Ops.callV kl (Evs.cons rfl (Evs.cons rfl Evs.nil)) rfl ?_) | (refine Ops.k_callf 10 ?_; refine Ops.callV kL (Evs.cons rfl Evs.nil) rfl ?_) | (refine Ops.k_callf 11 ?_; refine Ops.callV kF (Evs.cons rfl Evs.nil) rfl ?_) | (refine Ops.k_callf 12 ?_; refine Ops.callV km (Evs.cons rfl (Evs.cons rfl (Evs.cons rfl Evs.nil))) rfl ?_) | refine Ops.callV hp3 (Evs.cons rfl (Evs.cons rfl (Evs.cons rfl Evs.nil))) rfl ?_ | (refine Ops.k_callf 17 ?_; refine Ops.callV p2 (Evs.cons rfl (Evs.cons rfl (Evs.cons rfl Evs.nil))) rfl ?_) | refine Ops.callV p3 (Evs.cons rfl (Evs.cons rfl (Evs.cons rfl Evs.nil))) rfl ?_ | (refine Ops.k_callf 18 ?_; refine Ops.callV p4 (Evs.cons rfl (Evs.cons rfl Evs.nil)) rfl ?_)) | fail)
      all_goals first | exact Fin.ret Ent.refl (Outs.one rfl rfl) rfl | exact Fin.ret Ent.refl (Outs.one rfl rfl) (congrArg Tr.bool (decide_eq_true rfl)) | (exfalso; omega)
    · repeat' (first | refine goH ?_ | refine goV ?_ | refine goB (fun b => ?_) | refine goG ?_ | (refine Ops.k_guard ?_; first | (refine Ops.guard_dec rfl rfl (fun hc => ?_) (fun hc => ?_) <;> try (exfalso; omega)) | refine Ops.guard_split rfl rfl (fun hc => ?_) (fun hc => ?_)) | refine goI ?_ | (refine Cw.k_cond ?_; first | (refine Cw.cond_dec rfl (fun hc => ?_) (fun hc => ?_) <;> try (exfalso; omega)) | refine Cw.cond_bool rfl (fun hc => ?_) (fun hc => ?_)) | (refine Ops.k_calla ?_; first | (refine Ops.k_callf 20 ?_; refine Ops.callV rounds_fn Evs.nil rfl ?_) | (refine Ops.k_callf 7 ?_; refine Ops.callV kf (Evs.cons rfl Evs.nil) rfl ?_) | (refine Ops.k_callf 8 ?_; refine Ops.callV kc (Evs.cons rfl Evs.nil) rfl ?_) | (refine Ops.k_callf 9 ?_; refine Ops.callV kl (Evs.cons rfl (Evs.cons rfl Evs.nil)) rfl ?_) | (refine Ops.k_callf 10 ?_; refine Ops.callV kL (Evs.cons rfl Evs.nil) rfl ?_) | (refine Ops.k_callf 11 ?_; refine Ops.callV kF (Evs.cons rfl Evs.nil) rfl ?_) | (refine Ops.k_callf 12 ?_; refine Ops.callV km (Evs.cons rfl (Evs.cons rfl (Evs.cons rfl Evs.nil))) rfl ?_) | refine Ops.callV hp3 (Evs.cons rfl (Evs.cons rfl (Evs.cons rfl Evs.nil))) rfl ?_ | (refine Ops.k_callf 17 ?_; refine Ops.callV p2 (Evs.cons rfl (Evs.cons rfl (Evs.cons rfl Evs.nil))) rfl ?_)) | fail)
      all_goals first | exact Fin.ret Ent.refl (Outs.one rfl rfl) rfl | exact Fin.ret Ent.refl (Outs.one rfl rfl) (congrArg Tr.bool (decide_eq_true rfl)) | (exfalso; omega)
  have hw0 : weekE J D = 0 := by omega
  obtain ⟨a, lm, le, hlev, hal⟩ := lev_cases J D hw0
  have kL := level_fn J D (by omega) hw0
  have kF := fair_fn J D (by omega) hw0
  have kLo := levelOf_fn J D (by omega) hw0
  have kFo := fairOf_fn J D (by omega) hw0
  have kff := loadsFault_fn J D ds (by omega) (by omega) (by omega)
  have qa := equalInts_fn a a (by omega) (by omega)
  have hfl := frO_len J D
  have qf := equalInts_fn (frO J D) (frO J D) (by omega) (by omega)
  rw [decide_eq_true rfl] at qa qf
  rw [hlev] at kL kLo
  have hde : dayE J D ds = lodE J D ds := by unfold dayE; rw [if_neg (by omega)]
  rw [hde] at kl km
  by_cases hlo : lodE J D ds ≠ 0
  · rw [if_pos hlo] at kl km
    rw [hw0] at kf kc
    clear hde hlev hw hw0 hfl
    generalize lodE J D ds = e at *
    generalize frO J D = FR at *
    repeat' (first | refine goH ?_ | refine goV ?_ | refine goB (fun b => ?_) | refine goG ?_ | (refine Ops.k_guard ?_; first | (refine Ops.guard_dec rfl rfl (fun hc => ?_) (fun hc => ?_) <;> try (exfalso; omega)) | refine Ops.guard_split rfl rfl (fun hc => ?_) (fun hc => ?_)) | refine goI ?_ | (refine Cw.k_cond ?_; first | (refine Cw.cond_dec rfl (fun hc => ?_) (fun hc => ?_) <;> try (exfalso; omega)) | refine Cw.cond_bool rfl (fun hc => ?_) (fun hc => ?_)) | (refine Ops.k_calla ?_; first | (refine Ops.k_callf 14 ?_; (refine Ops.callG (next_gen _ (by omega)) (Evs.cons rfl (Evs.cons rfl Evs.nil)) goPk (by omega) rfl ?_; rintro r ⟨n, rfl, hn⟩; unfold InRange at hn)) | (refine Ops.k_callf 13 ?_; (refine Ops.callGO (numbersO_gen n 6 (by omega) (by omega)) (Evs.cons rfl (Evs.cons rfl (Evs.cons rfl Evs.nil))) goPk (by omega) rfl (fun ad cap rows hr => ?_); obtain ⟨gs, rfl, hgs⟩ := hr)) | (refine Ops.k_callf 5 ?_; (refine Ops.callG (pick_gen (by repeat' (first | exact IsInts.nil | apply IsInts.cons)) (by simp)) (Evs.cons rfl (Evs.cons rfl Evs.nil)) goPk (by omega) rfl ?_; rintro r ⟨f, rfl, hx⟩; have hxf : -1 ≤ f ∧ f ≤ 3 := (by simp at hx; omega); clear hx)) | (refine Ops.k_callf 5 ?_; (refine Ops.callG (pick_gen (by repeat' (first | exact IsInts.nil | apply IsInts.cons)) (by simp)) (Evs.cons rfl (Evs.cons rfl Evs.nil)) goPk (by omega) rfl ?_; rintro r ⟨t, rfl, hx⟩; have hxt : 2 ≤ t ∧ t ≤ 4002 := (by simp at hx; omega); clear hx)) | (refine Ops.k_callf 20 ?_; refine Ops.callV rounds_fn Evs.nil rfl ?_) | (refine Ops.k_callf 7 ?_; refine Ops.callV kf (Evs.cons rfl Evs.nil) rfl ?_) | (refine Ops.k_callf 8 ?_; refine Ops.callV kc (Evs.cons rfl Evs.nil) rfl ?_) | (refine Ops.k_callf 9 ?_; refine Ops.callV kl (Evs.cons rfl (Evs.cons rfl Evs.nil)) rfl ?_) | (refine Ops.k_callf 10 ?_; refine Ops.callV kL (Evs.cons rfl Evs.nil) rfl ?_) | (refine Ops.k_callf 11 ?_; refine Ops.callV kF (Evs.cons rfl Evs.nil) rfl ?_) | (refine Ops.k_callf 12 ?_; refine Ops.callV km (Evs.cons rfl (Evs.cons rfl (Evs.cons rfl Evs.nil))) rfl ?_) | (refine Ops.k_callf 21 ?_; refine Ops.callV kLo (Evs.cons rfl Evs.nil) rfl ?_) | (refine Ops.k_callf 22 ?_; refine Ops.callV kFo (Evs.cons rfl Evs.nil) rfl ?_) | (refine Ops.k_callf 23 ?_; refine Ops.callV kff (Evs.cons rfl (Evs.cons rfl Evs.nil)) rfl ?_) | (refine Ops.k_callf 18 ?_; refine Ops.callV qa (Evs.cons rfl (Evs.cons rfl Evs.nil)) rfl ?_) | (refine Ops.k_callf 18 ?_; refine Ops.callV qf (Evs.cons rfl (Evs.cons rfl Evs.nil)) rfl ?_)) | fail)
    have hgr := intRows_len gs
    refine Ops.k_calla ?_
    refine Ops.call (sortO_fn (xs := gs) (by omega) hgr) (Evs.cons rfl Evs.nil) goPm rfl ?_
    rintro y cs' ⟨rfl, ys, hy, rfl⟩
    refine Ops.ent (Ent.settle (s := 18) rfl goPk (hy.symm.trans (intRows_len ys).symm)) ?_
    have hyl : ys.length ≤ 5 := by omega
    have p1 := visits_fn ys f t (by omega) (by omega) (by omega)
    have p2 := visFault_fn ys f t (by omega) (by omega) (by omega)
    clear hy hgr hgs
    obtain ⟨Z, L, hZ, hp3, hp4⟩ := vis_two ys f t (by omega) (by omega) (by omega)
    rw [hZ] at p2
    clear hZ p1
    by_cases hZ0 : Z = 0
    · have p3 := hp4.1 hZ0
      have p4 := equalInts_fn L L (by omega) (by omega)
      rw [decide_eq_true rfl] at p4
      subst hZ0
      repeat' (first | refine goH ?_ | refine goV ?_ | refine goB (fun b => ?_) | refine goG ?_ | (refine Ops.k_guard ?_; first | (refine Ops.guard_dec rfl rfl (fun hc => ?_) (fun hc => ?_) <;> try (exfalso; omega)) | refine Ops.guard_split rfl rfl (fun hc => ?_) (fun hc => ?_)) | refine goI ?_ | (refine Cw.k_cond ?_; first | (refine Cw.cond_dec rfl (fun hc => ?_) (fun hc => ?_) <;> try (exfalso; omega)) | refine Cw.cond_bool rfl (fun hc => ?_) (fun hc => ?_)) | (refine Ops.k_calla ?_; first | (refine Ops.k_callf 20 ?_; refine Ops.callV rounds_fn Evs.nil rfl ?_) | (refine Ops.k_callf 7 ?_; refine Ops.callV kf (Evs.cons rfl Evs.nil) rfl ?_) | (refine Ops.k_callf 8 ?_; refine Ops.callV kc (Evs.cons rfl Evs.nil) rfl ?_) | (refine Ops.k_callf 9 ?_; refine Ops.callV kl (Evs.cons rfl (Evs.cons rfl Evs.nil)) rfl ?_) | (refine Ops.k_callf 10 ?_; refine Ops.callV kL (Evs.cons rfl Evs.nil) rfl ?_) | (refine Ops.k_callf 11 ?_; refine Ops.callV kF (Evs.cons rfl Evs.nil) rfl ?_) | (refine Ops.k_callf 12 ?_; refine Ops.callV km (Evs.cons rfl (Evs.cons rfl (Evs.cons rfl Evs.nil))) rfl ?_) | (refine Ops.k_callf 21 ?_; refine Ops.callV kLo (Evs.cons rfl Evs.nil) rfl ?_) | (refine Ops.k_callf 22 ?_; refine Ops.callV kFo (Evs.cons rfl Evs.nil) rfl ?_) | (refine Ops.k_callf 23 ?_; refine Ops.callV kff (Evs.cons rfl (Evs.cons rfl Evs.nil)) rfl ?_) | (refine Ops.k_callf 18 ?_; refine Ops.callV qa (Evs.cons rfl (Evs.cons rfl Evs.nil)) rfl ?_) | (refine Ops.k_callf 18 ?_; refine Ops.callV qf (Evs.cons rfl (Evs.cons rfl Evs.nil)) rfl ?_) | refine Ops.callV hp3 (Evs.cons rfl (Evs.cons rfl (Evs.cons rfl Evs.nil))) rfl ?_ | (refine Ops.k_callf 17 ?_; refine Ops.callV p2 (Evs.cons rfl (Evs.cons rfl (Evs.cons rfl Evs.nil))) rfl ?_) | refine Ops.callV p3 (Evs.cons rfl (Evs.cons rfl (Evs.cons rfl Evs.nil))) rfl ?_ | (refine Ops.k_callf 18 ?_; refine Ops.callV p4 (Evs.cons rfl (Evs.cons rfl Evs.nil)) rfl ?_)) | fail)
      all_goals first | exact Fin.ret Ent.refl (Outs.one rfl rfl) rfl | exact Fin.ret Ent.refl (Outs.one rfl rfl) (congrArg Tr.bool (decide_eq_true rfl)) | (exfalso; omega)
    · repeat' (first | refine goH ?_ | refine goV ?_ | refine goB (fun b => ?_) | refine goG ?_ | (refine Ops.k_guard ?_; first | (refine Ops.guard_dec rfl rfl (fun hc => ?_) (fun hc => ?_) <;> try (exfalso; omega)) | refine Ops.guard_split rfl rfl (fun hc => ?_) (fun hc => ?_)) | refine goI ?_ | (refine Cw.k_cond ?_; first | (refine Cw.cond_dec rfl (fun hc => ?_) (fun hc => ?_) <;> try (exfalso; omega)) | refine Cw.cond_bool rfl (fun hc => ?_) (fun hc => ?_)) | (refine Ops.k_calla ?_; first | (refine Ops.k_callf 20 ?_; refine Ops.callV rounds_fn Evs.nil rfl ?_) | (refine Ops.k_callf 7 ?_; refine Ops.callV kf (Evs.cons rfl Evs.nil) rfl ?_) | (refine Ops.k_callf 8 ?_; refine Ops.callV kc (Evs.cons rfl Evs.nil) rfl ?_) | (refine Ops.k_callf 9 ?_; refine Ops.callV kl (Evs.cons rfl (Evs.cons rfl Evs.nil)) rfl ?_) | (refine Ops.k_callf 10 ?_; refine Ops.callV kL (Evs.cons rfl Evs.nil) rfl ?_) | (refine Ops.k_callf 11 ?_; refine Ops.callV kF (Evs.cons rfl Evs.nil) rfl ?_) | (refine Ops.k_callf 12 ?_; refine Ops.callV km (Evs.cons rfl (Evs.cons rfl (Evs.cons rfl Evs.nil))) rfl ?_) | (refine Ops.k_callf 21 ?_; refine Ops.callV kLo (Evs.cons rfl Evs.nil) rfl ?_) | (refine Ops.k_callf 22 ?_; refine Ops.callV kFo (Evs.cons rfl Evs.nil) rfl ?_) | (refine Ops.k_callf 23 ?_; refine Ops.callV kff (Evs.cons rfl (Evs.cons rfl Evs.nil)) rfl ?_) | (refine Ops.k_callf 18 ?_; refine Ops.callV qa (Evs.cons rfl (Evs.cons rfl Evs.nil)) rfl ?_) | (refine Ops.k_callf 18 ?_; refine Ops.callV qf (Evs.cons rfl (Evs.cons rfl Evs.nil)) rfl ?_) | refine Ops.callV hp3 (Evs.cons rfl (Evs.cons rfl (Evs.cons rfl Evs.nil))) rfl ?_ | (refine Ops.k_callf 17 ?_; refine Ops.callV p2 (Evs.cons rfl (Evs.cons rfl (Evs.cons rfl Evs.nil))) rfl ?_)) | fail)
      all_goals first | exact Fin.ret Ent.refl (Outs.one rfl rfl) rfl | exact Fin.ret Ent.refl (Outs.one rfl rfl) (congrArg Tr.bool (decide_eq_true rfl)) | (exfalso; omega)
  have hlo0 : lodE J D ds = 0 := by omega
  rw [if_neg hlo] at kl km
  rw [hw0] at kf kc
  rw [hlo0] at kff
  obtain ⟨hDb, hJb⟩ := weekE_ok hw0
  obtain ⟨hdd, hdb⟩ := lodE_ok hlo0
  have kLd := loadsOf_fn J D ds (by omega) hw0 ⟨hdd, hdb⟩
  have hll : (ldsOf J D ds).length ≤ 10 := by
    have := ldsOf_len J D.toNat ds
    rw [show ((D.toNat : Nat) : Int) = D by omega] at this
    omega
  have ql := equalInts_fn (ldsOf J D ds) (ldsOf J D ds) (by omega) (by omega)
  rw [decide_eq_true rfl] at ql
  have kmo := moveOf_fn J ds D rds (by omega) (by omega) hw0 hlo0 (by omega)
  obtain ⟨b, bm, be, hmv, hbl⟩ : ∃ (b : List Int) (bm be : Int), (if rds < 0 ∨ 100 < rds then Tr.tup [.sl 1 [], .int 0, .int 1] else .tup [.ints (movM J D.toNat rds.toNat ds), .int (mxL (ldsOf J D.toNat (movM J D.toNat rds.toNat ds))), .int 0]) = .tup [.ints b, .int bm, .int be] ∧ b.length ≤ 100 := by
    by_cases h : rds < 0 ∨ 100 < rds
    · rw [if_pos h]
      exact ⟨[], 0, 1, by rw [Tr.ints, intRows_nil], by simp⟩
    · rw [if_neg h]
      exact ⟨_, _, _, rfl, by rw [movM_len]; omega⟩
  rw [hmv] at km kmo
  have qb := equalInts_fn b b (by omega) (by omega)
  rw [decide_eq_true rfl] at qb
  clear hde hlev hw hw0 hfl hlo hlo0 hDb hJb hdd hdb hmv
  generalize frO J D = FR at *
  generalize ldsOf J D ds = LD at *
  repeat' (first | refine goH ?_ | refine goV ?_ | refine goB (fun b => ?_) | refine goG ?_ | (refine Ops.k_guard ?_; first | (refine Ops.guard_dec rfl rfl (fun hc => ?_) (fun hc => ?_) <;> try (exfalso; omega)) | refine Ops.guard_split rfl rfl (fun hc => ?_) (fun hc => ?_)) | refine goI ?_ | (refine Cw.k_cond ?_; first | (refine Cw.cond_dec rfl (fun hc => ?_) (fun hc => ?_) <;> try (exfalso; omega)) | refine Cw.cond_bool rfl (fun hc => ?_) (fun hc => ?_)) | (refine Ops.k_calla ?_; first | (refine Ops.k_callf 14 ?_; (refine Ops.callG (next_gen _ (by omega)) (Evs.cons rfl (Evs.cons rfl Evs.nil)) goPk (by omega) rfl ?_; rintro r ⟨n, rfl, hn⟩; unfold InRange at hn)) | (refine Ops.k_callf 13 ?_; (refine Ops.callGO (numbersO_gen n 6 (by omega) (by omega)) (Evs.cons rfl (Evs.cons rfl (Evs.cons rfl Evs.nil))) goPk (by omega) rfl (fun ad cap rows hr => ?_); obtain ⟨gs, rfl, hgs⟩ := hr)) | (refine Ops.k_callf 5 ?_; (refine Ops.callG (pick_gen (by repeat' (first | exact IsInts.nil | apply IsInts.cons)) (by simp)) (Evs.cons rfl (Evs.cons rfl Evs.nil)) goPk (by omega) rfl ?_; rintro r ⟨f, rfl, hx⟩; have hxf : -1 ≤ f ∧ f ≤ 3 := (by simp at hx; omega); clear hx)) | (refine Ops.k_callf 5 ?_; (refine Ops.callG (pick_gen (by repeat' (first | exact IsInts.nil | apply IsInts.cons)) (by simp)) (Evs.cons rfl (Evs.cons rfl Evs.nil)) goPk (by omega) rfl ?_; rintro r ⟨t, rfl, hx⟩; have hxt : 2 ≤ t ∧ t ≤ 4002 := (by simp at hx; omega); clear hx)) | (refine Ops.k_callf 20 ?_; refine Ops.callV rounds_fn Evs.nil rfl ?_) | (refine Ops.k_callf 7 ?_; refine Ops.callV kf (Evs.cons rfl Evs.nil) rfl ?_) | (refine Ops.k_callf 8 ?_; refine Ops.callV kc (Evs.cons rfl Evs.nil) rfl ?_) | (refine Ops.k_callf 9 ?_; refine Ops.callV kl (Evs.cons rfl (Evs.cons rfl Evs.nil)) rfl ?_) | (refine Ops.k_callf 10 ?_; refine Ops.callV kL (Evs.cons rfl Evs.nil) rfl ?_) | (refine Ops.k_callf 11 ?_; refine Ops.callV kF (Evs.cons rfl Evs.nil) rfl ?_) | (refine Ops.k_callf 12 ?_; refine Ops.callV km (Evs.cons rfl (Evs.cons rfl (Evs.cons rfl Evs.nil))) rfl ?_) | (refine Ops.k_callf 21 ?_; refine Ops.callV kLo (Evs.cons rfl Evs.nil) rfl ?_) | (refine Ops.k_callf 22 ?_; refine Ops.callV kFo (Evs.cons rfl Evs.nil) rfl ?_) | (refine Ops.k_callf 23 ?_; refine Ops.callV kff (Evs.cons rfl (Evs.cons rfl Evs.nil)) rfl ?_) | (refine Ops.k_callf 18 ?_; refine Ops.callV qa (Evs.cons rfl (Evs.cons rfl Evs.nil)) rfl ?_) | (refine Ops.k_callf 18 ?_; refine Ops.callV qf (Evs.cons rfl (Evs.cons rfl Evs.nil)) rfl ?_) | (refine Ops.k_callf 25 ?_; refine Ops.callV kLd (Evs.cons rfl (Evs.cons rfl Evs.nil)) rfl ?_) | (refine Ops.k_callf 18 ?_; refine Ops.callV ql (Evs.cons rfl (Evs.cons rfl Evs.nil)) rfl ?_) | (refine Ops.k_callf 24 ?_; refine Ops.callV kmo (Evs.cons rfl (Evs.cons rfl (Evs.cons rfl Evs.nil))) rfl ?_) | (refine Ops.k_callf 18 ?_; refine Ops.callV qb (Evs.cons rfl (Evs.cons rfl Evs.nil)) rfl ?_)) | fail)
  have hgr := intRows_len gs
  refine Ops.k_calla ?_
  refine Ops.call (sortO_fn (xs := gs) (by omega) hgr) (Evs.cons rfl Evs.nil) goPm rfl ?_
  rintro y cs' ⟨rfl, ys, hy, rfl⟩
  refine Ops.ent (Ent.settle (s := 18) rfl goPk (hy.symm.trans (intRows_len ys).symm)) ?_
  have hyl : ys.length ≤ 5 := by omega
  have p1 := visits_fn ys f t (by omega) (by omega) (by omega)
  have p2 := visFault_fn ys f t (by omega) (by omega) (by omega)
  clear hy hgr hgs
  obtain ⟨Z, L, hZ, hp3, hp4⟩ := vis_two ys f t (by omega) (by omega) (by omega)
  rw [hZ] at p2
  clear hZ p1
  by_cases hZ0 : Z = 0
  · have p3 := hp4.1 hZ0
    have p4 := equalInts_fn L L (by omega) (by omega)
    rw [decide_eq_true rfl] at p4
    subst hZ0
    repeat' (first | refine goH ?_ | refine goV ?_ | refine goB (fun b => ?_) | refine goG ?_ | (refine Ops.k_guard ?_; first | (refine Ops.guard_dec rfl rfl (fun hc => ?_) (fun hc => ?_) <;> try (exfalso; omega)) | refine Ops.guard_split rfl rfl (fun hc => ?_) (fun hc => ?_)) | refine goI ?_ | (refine Cw.k_cond ?_; first | (refine Cw.cond_dec rfl (fun hc => ?_) (fun hc => ?_) <;> try (exfalso; omega)) | refine Cw.cond_bool rfl (fun hc => ?_) (fun hc => ?_)) | (refine Ops.k_calla ?_; first | (refine Ops.k_callf 20 ?_; refine Ops.callV rounds_fn Evs.nil rfl ?_) | (refine Ops.k_callf 7 ?_; refine Ops.callV kf (Evs.cons rfl Evs.nil) rfl ?_) | (refine Ops.k_callf 8 ?_; refine Ops.callV kc (Evs.cons rfl Evs.nil) rfl ?_) | (refine Ops.k_callf 9 ?_; refine Ops.callV kl (Evs.cons rfl (Evs.cons rfl Evs.nil)) rfl ?_) | (refine Ops.k_callf 10 ?_; refine Ops.callV kL (Evs.cons rfl Evs.nil) rfl ?_) | (refine Ops.k_callf 11 ?_; refine Ops.callV kF (Evs.cons rfl Evs.nil) rfl ?_) | (refine Ops.k_callf 12 ?_; refine Ops.callV km (Evs.cons rfl (Evs.cons rfl (Evs.cons rfl Evs.nil))) rfl ?_) | (refine Ops.k_callf 21 ?_; refine Ops.callV kLo (Evs.cons rfl Evs.nil) rfl ?_) | (refine Ops.k_callf 22 ?_; refine Ops.callV kFo (Evs.cons rfl Evs.nil) rfl ?_) | (refine Ops.k_callf 23 ?_; refine Ops.callV kff (Evs.cons rfl (Evs.cons rfl Evs.nil)) rfl ?_) | (refine Ops.k_callf 18 ?_; refine Ops.callV qa (Evs.cons rfl (Evs.cons rfl Evs.nil)) rfl ?_) | (refine Ops.k_callf 18 ?_; refine Ops.callV qf (Evs.cons rfl (Evs.cons rfl Evs.nil)) rfl ?_) | (refine Ops.k_callf 25 ?_; refine Ops.callV kLd (Evs.cons rfl (Evs.cons rfl Evs.nil)) rfl ?_) | (refine Ops.k_callf 18 ?_; refine Ops.callV ql (Evs.cons rfl (Evs.cons rfl Evs.nil)) rfl ?_) | (refine Ops.k_callf 24 ?_; refine Ops.callV kmo (Evs.cons rfl (Evs.cons rfl (Evs.cons rfl Evs.nil))) rfl ?_) | (refine Ops.k_callf 18 ?_; refine Ops.callV qb (Evs.cons rfl (Evs.cons rfl Evs.nil)) rfl ?_) | refine Ops.callV hp3 (Evs.cons rfl (Evs.cons rfl (Evs.cons rfl Evs.nil))) rfl ?_ | (refine Ops.k_callf 17 ?_; refine Ops.callV p2 (Evs.cons rfl (Evs.cons rfl (Evs.cons rfl Evs.nil))) rfl ?_) | refine Ops.callV p3 (Evs.cons rfl (Evs.cons rfl (Evs.cons rfl Evs.nil))) rfl ?_ | (refine Ops.k_callf 18 ?_; refine Ops.callV p4 (Evs.cons rfl (Evs.cons rfl Evs.nil)) rfl ?_)) | fail)
    all_goals first | exact Fin.ret Ent.refl (Outs.one rfl rfl) rfl | exact Fin.ret Ent.refl (Outs.one rfl rfl) (congrArg Tr.bool (decide_eq_true rfl)) | (exfalso; omega)
  · repeat' (first | refine goH ?_ | refine goV ?_ | refine goB (fun b => ?_) | refine goG ?_ | (refine Ops.k_guard ?_; first | (refine Ops.guard_dec rfl rfl (fun hc => ?_) (fun hc => ?_) <;> try (exfalso; omega)) | refine Ops.guard_split rfl rfl (fun hc => ?_) (fun hc => ?_)) | refine goI ?_ | (refine Cw.k_cond ?_; first | (refine Cw.cond_dec rfl (fun hc => ?_) (fun hc => ?_) <;> try (exfalso; omega)) | refine Cw.cond_bool rfl (fun hc => ?_) (fun hc => ?_)) | (refine Ops.k_calla ?_; first | (refine Ops.k_callf 20 ?_; refine Ops.callV rounds_fn Evs.nil rfl ?_) | (refine Ops.k_callf 7 ?_; refine Ops.callV kf (Evs.cons rfl Evs.nil) rfl ?_) | (refine Ops.k_callf 8 ?_; refine Ops.callV kc (Evs.cons rfl Evs.nil) rfl ?_) | (refine Ops.k_callf 9 ?_; refine Ops.callV kl (Evs.cons rfl (Evs.cons rfl Evs.nil)) rfl ?_) | (refine Ops.k_callf 10 ?_; refine Ops.callV kL (Evs.cons rfl Evs.nil) rfl ?_) | (refine Ops.k_callf 11 ?_; refine Ops.callV kF (Evs.cons rfl Evs.nil) rfl ?_) | (refine Ops.k_callf 12 ?_; refine Ops.callV km (Evs.cons rfl (Evs.cons rfl (Evs.cons rfl Evs.nil))) rfl ?_) | (refine Ops.k_callf 21 ?_; refine Ops.callV kLo (Evs.cons rfl Evs.nil) rfl ?_) | (refine Ops.k_callf 22 ?_; refine Ops.callV kFo (Evs.cons rfl Evs.nil) rfl ?_) | (refine Ops.k_callf 23 ?_; refine Ops.callV kff (Evs.cons rfl (Evs.cons rfl Evs.nil)) rfl ?_) | (refine Ops.k_callf 18 ?_; refine Ops.callV qa (Evs.cons rfl (Evs.cons rfl Evs.nil)) rfl ?_) | (refine Ops.k_callf 18 ?_; refine Ops.callV qf (Evs.cons rfl (Evs.cons rfl Evs.nil)) rfl ?_) | (refine Ops.k_callf 25 ?_; refine Ops.callV kLd (Evs.cons rfl (Evs.cons rfl Evs.nil)) rfl ?_) | (refine Ops.k_callf 18 ?_; refine Ops.callV ql (Evs.cons rfl (Evs.cons rfl Evs.nil)) rfl ?_) | (refine Ops.k_callf 24 ?_; refine Ops.callV kmo (Evs.cons rfl (Evs.cons rfl (Evs.cons rfl Evs.nil))) rfl ?_) | (refine Ops.k_callf 18 ?_; refine Ops.callV qb (Evs.cons rfl (Evs.cons rfl Evs.nil)) rfl ?_) | refine Ops.callV hp3 (Evs.cons rfl (Evs.cons rfl (Evs.cons rfl Evs.nil))) rfl ?_ | (refine Ops.k_callf 17 ?_; refine Ops.callV p2 (Evs.cons rfl (Evs.cons rfl (Evs.cons rfl Evs.nil))) rfl ?_)) | fail)
    all_goals first | exact Fin.ret Ent.refl (Outs.one rfl rfl) rfl | exact Fin.ret Ent.refl (Outs.one rfl rfl) (congrArg Tr.bool (decide_eq_true rfl)) | (exfalso; omega)
end Lg
