/- A part of the proof of a law of this seat: it adds no condition. By an AI agent. -/
import Derived.Test.YtfecflnngkhneaaDoorPick10
import Derived.Test.YtfecflnngkhneaaDoorLotGen
import Derived.Test.YtfecflnngkhneaaDoorLaw
set_option linter.all false
set_option maxRecDepth 100000
set_option maxHeartbeats 4000000
namespace Lg
open Go Go.Proofs

theorem orI_0 (v : Int) : orI [0, v] = v := by
  by_cases h : v = 0 <;> simp [orI, h]
theorem lotsPicked_law (xs : List Int) : Spec Tryd.prog 4 [Tr.ints xs] [] (fun r _ => r = Tr.bool true) := by
  refine Spec.body Tryd.func4 rfl rfl (Tryd.ntmps4) rfl fun w0 own0 M => ?_
  repeat' (first | refine goH ?_ | refine goV ?_ | refine goB (fun b => ?_) | refine goG ?_ | (refine Ops.k_guard ?_; first | (refine Ops.guard_dec rfl rfl (fun hc => ?_) (fun hc => ?_) <;> try (exfalso; omega)) | refine Ops.guard_split rfl rfl (fun hc => ?_) (fun hc => ?_)) | refine goI ?_ | (refine Cw.k_cond ?_; first | (refine Cw.cond_dec rfl (fun hc => ?_) (fun hc => ?_) <;> try (exfalso; omega)) | refine Cw.cond_bool rfl (fun hc => ?_) (fun hc => ?_)) | refine Ops.shut0 (ty := 25) rfl ?_ | (refine Ops.k_calla ?_; first | (refine Ops.k_callf 6 ?_; (refine Ops.callG lots_gen (Evs.cons rfl Evs.nil) (by first | exact pick0 | exact pickS pick0 | exact pickS (pickS pick0) | exact pickS (pickS (pickS pick0)) | exact pickS (pickS (pickS (pickS pick0)))) (by omega) rfl ?_; rintro r ⟨l, rfl, hl⟩)) | (refine Ops.k_callf 20 ?_; (refine Ops.callG product_gen (Evs.cons rfl Evs.nil) (by first | exact pick0 | exact pickS pick0 | exact pickS (pickS pick0) | exact pickS (pickS (pickS pick0)) | exact pickS (pickS (pickS (pickS pick0)))) (by omega) rfl ?_; rintro r ⟨p, rfl⟩)) | (refine Ops.k_callf 7 ?_; (refine Ops.callG day_gen (Evs.cons rfl Evs.nil) (by first | exact pick0 | exact pickS pick0 | exact pickS (pickS pick0) | exact pickS (pickS (pickS pick0)) | exact pickS (pickS (pickS (pickS pick0)))) (by omega) rfl ?_; rintro r ⟨day, rfl, hd⟩)) | (refine Ops.k_callf 21 ?_; (refine Ops.callG (pick_gen (by repeat' (first | exact IsInts.nil | apply IsInts.cons)) (by simp)) (Evs.cons rfl (Evs.cons rfl Evs.nil)) (by first | exact pick0 | exact pickS pick0 | exact pickS (pickS pick0) | exact pickS (pickS (pickS pick0)) | exact pickS (pickS (pickS (pickS pick0)))) (by omega) rfl ?_; rintro r ⟨many, rfl, hm⟩; clear hm))) | fail)
  rename_i dy hdy
  have hl6 : l.length ≤ 1000000 := by omega
  have hLF := refLots_fn l hl6
  have hCL := checkLots_fn l hl6
  have hC := count_fn l hl6 p
  have hF := freshX_fn l hl6 p dy day
  have hP := pick_fn l (by omega) p many dy day
  have hS := spoil_fn l hl6 dy
  have hN := named_fn p
  have hFF := freshFault_fn p dy day
  have hDF := dayFault_fn [dy] (by simp)
  have hO1 := cmpOr_fn [lotsErr l, nameE p] (by simp)
  have hO2 := cmpOr_fn [lotsErr l, freshE p dy day] (by simp)
  have hO3 := cmpOr_fn [lotsErr l, if [dy].any (fun n => !dayB n) then 1 else 0] (by simp)
  by_cases h0 : lotsErr l ≠ 0
  · have ec : countErr l p = lotsErr l := by unfold countErr; rw [if_pos h0]
    have ef : fresh1E l p dy day = lotsErr l := by unfold fresh1E; rw [if_pos h0]
    have ep : pick1E l p many dy day = lotsErr l := by unfold pick1E; rw [if_pos h0]
    have es : spoil1E l dy = lotsErr l := by unfold spoil1E; rw [if_pos h0]
    rw [ec, if_pos h0] at hC
    rw [ef, if_pos h0] at hF
    rw [ep, if_pos h0] at hP
    rw [es, if_pos h0, if_pos h0] at hS
    rw [show ∀ v, orI [lotsErr l, v] = lotsErr l from fun v => by rw [orI_cons, if_pos h0]] at hO1 hO2 hO3
    generalize lotsErr l = base at *
    generalize nameE p = v1 at *
    generalize freshE p dy day = v2 at *
    generalize (if [dy].any (fun n => !dayB n) then (1 : Int) else 0) = v3 at *
    clear ec ef ep es
    repeat' (first | refine goH ?_ | (refine Ops.k_b_eql ?_; first | (refine Ops.val' rfl (OpV.eql_t rfl rfl (by omega)) ?_) | (refine Ops.val' rfl (OpV.eql_f rfl rfl (by omega)) ?_)) | (refine Ops.k_b_neq ?_; first | (refine Ops.val' rfl (OpV.neq_f rfl rfl (by omega)) ?_) | (refine Ops.val' rfl (OpV.neq_t rfl rfl (by omega)) ?_)) | refine goV ?_ | refine goB (fun b => ?_) | refine goG ?_ | (refine Ops.k_guard ?_; first | (refine Ops.guard_dec rfl rfl (fun hc => ?_) (fun hc => ?_) <;> try (exfalso; omega)) | refine Ops.guard_split rfl rfl (fun hc => ?_) (fun hc => ?_)) | refine goI ?_ | (refine Cw.k_cond ?_; first | (refine Cw.cond_dec rfl (fun hc => ?_) (fun hc => ?_) <;> try (exfalso; omega)) | refine Cw.cond_bool rfl (fun hc => ?_) (fun hc => ?_)) | (refine Ops.k_calla ?_; first | (refine Ops.k_callf 22 ?_; refine Ops.callV hLF (Evs.cons rfl Evs.nil) rfl ?_) | (refine Ops.k_callf 23 ?_; refine Ops.callV hCL (Evs.cons rfl Evs.nil) rfl ?_) | (refine Ops.k_callf 24 ?_; refine Ops.callV hC (Evs.cons rfl (Evs.cons rfl Evs.nil)) rfl ?_) | (refine Ops.k_callf 25 ?_; refine Ops.callV hF (Evs.cons rfl (Evs.cons rfl (Evs.cons rfl (Evs.cons rfl Evs.nil)))) rfl ?_) | (refine Ops.k_callf 26 ?_; refine Ops.callV hP (Evs.cons rfl (Evs.cons rfl (Evs.cons rfl (Evs.cons rfl (Evs.cons rfl Evs.nil))))) rfl ?_) | (refine Ops.k_callf 27 ?_; refine Ops.callV hS (Evs.cons rfl (Evs.cons rfl Evs.nil)) rfl ?_) | (refine Ops.k_callf 28 ?_; refine Ops.callV hN (Evs.cons rfl Evs.nil) rfl ?_) | (refine Ops.k_callf 29 ?_; refine Ops.callV hFF (Evs.cons rfl (Evs.cons rfl (Evs.cons rfl Evs.nil))) rfl ?_) | (refine Ops.k_callf 15 ?_; refine Ops.callV hDF (Evs.cons rfl Evs.nil) rfl ?_) | (refine Ops.k_callf 13 ?_; refine Ops.callV hO1 (Evs.cons rfl Evs.nil) rfl ?_) | (refine Ops.k_callf 13 ?_; refine Ops.callV hO2 (Evs.cons rfl Evs.nil) rfl ?_) | (refine Ops.k_callf 13 ?_; refine Ops.callV hO3 (Evs.cons rfl Evs.nil) rfl ?_) | (refine Ops.k_callf 17 ?_; refine Ops.callV stocks_fn Evs.nil rfl ?_)) | fail)
    all_goals exact Fin.ret Ent.refl (Outs.one rfl rfl) rfl
  replace h0 : lotsErr l = 0 := by omega
  have hok := lotsErr_LOk h0
  have ec : countErr l p = nameE p := by unfold countErr nameE; rw [if_neg (by omega)]; cases isKey p <;> rfl
  have ef : fresh1E l p dy day = freshE p dy day := by unfold fresh1E; rw [if_neg (by omega)]
  have ep : pick1E l p many dy day = pickE l p many dy day := by unfold pick1E; rw [if_neg (by omega)]
  have es : spoil1E l dy = if dayB dy then 0 else 1 := by unfold spoil1E; rw [if_neg (by omega)]
  rw [ec] at hC
  rw [ef] at hF
  rw [ep] at hP
  rw [es] at hS
  rw [h0] at hLF hCL hO1 hO2 hO3
  rw [show ∀ v, orI [0, v] = v from orI_0] at hO1 hO2 hO3
  have hCO := countOf_fn l h0 p
  have hFO := freshOf_fn l hok p dy day (by omega) (by omega)
  have hSO := spoilOf_fn l hok dy
  have hPO := pickOf_fn l hok (by omega) p many dy day (by omega) (by omega)
  have q1 := equal_lot (l.map (spoilX dy)) (by rw [List.length_map]; omega)
  have q2 := equal_piece (spoilP dy l) (by have := spoilP_len dy l; omega)
  have hplen : (if pickE l p many dy day ≠ 0 then ([] : List Piece) else pickP l p many (dy + day)).length ≤ 1000000000 := by
    split
    · simp
    · rename_i hpe
      obtain ⟨_, _, _, k3, _⟩ := pickE_ok (show pickE l p many dy day = 0 by omega)
      have := (fold_same (l0 := l) (ordL l p (dy + day)) (st := (l, many, [])) (Same.refl hok) k3.1).2.2.2
      have hol := ordL_len l p (dy + day)
      unfold pickP pickR
      simp only [List.length_nil] at this
      omega
  have q3 := equal_piece _ hplen
  generalize (if pickE l p many dy day ≠ 0 then ([] : List Piece) else pickP l p many (dy + day)) = pl at *
  generalize pickE l p many dy day = pe at *
  generalize countI l p = ci at *
  generalize freshI l p (dy + day) = fi at *
  generalize l.map (spoilX dy) = sl at *
  generalize spoilP dy l = sp at *
  clear ec ef ep es hplen
  unfold nameE freshE daysE at *
  cases hk : isKey p
  · rw [hk] at hC hF hN hFF hO1 hO2
    simp only [Bool.false_eq_true, if_false, if_true] at hC hF hN hFF hO1 hO2
    cases hd1 : dayB dy
    · rw [hd1] at hS
      rw [show [dy].any (fun n => !dayB n) = true by simp [hd1]] at hDF hO3
      repeat' (first | refine goH ?_ | (refine Ops.k_b_eql ?_; first | (refine Ops.val' rfl (OpV.eql_t rfl rfl (by omega)) ?_) | (refine Ops.val' rfl (OpV.eql_f rfl rfl (by omega)) ?_)) | (refine Ops.k_b_neq ?_; first | (refine Ops.val' rfl (OpV.neq_f rfl rfl (by omega)) ?_) | (refine Ops.val' rfl (OpV.neq_t rfl rfl (by omega)) ?_)) | refine goV ?_ | refine goB (fun b => ?_) | refine goG ?_ | (refine Ops.k_guard ?_; first | (refine Ops.guard_dec rfl rfl (fun hc => ?_) (fun hc => ?_) <;> try (exfalso; omega)) | refine Ops.guard_split rfl rfl (fun hc => ?_) (fun hc => ?_)) | refine goI ?_ | (refine Cw.k_cond ?_; first | (refine Cw.cond_dec rfl (fun hc => ?_) (fun hc => ?_) <;> try (exfalso; omega)) | refine Cw.cond_bool rfl (fun hc => ?_) (fun hc => ?_)) | (refine Ops.k_calla ?_; first | (refine Ops.k_callf 22 ?_; refine Ops.callV hLF (Evs.cons rfl Evs.nil) rfl ?_) | (refine Ops.k_callf 23 ?_; refine Ops.callV hCL (Evs.cons rfl Evs.nil) rfl ?_) | (refine Ops.k_callf 24 ?_; refine Ops.callV hC (Evs.cons rfl (Evs.cons rfl Evs.nil)) rfl ?_) | (refine Ops.k_callf 25 ?_; refine Ops.callV hF (Evs.cons rfl (Evs.cons rfl (Evs.cons rfl (Evs.cons rfl Evs.nil)))) rfl ?_) | (refine Ops.k_callf 26 ?_; refine Ops.callV hP (Evs.cons rfl (Evs.cons rfl (Evs.cons rfl (Evs.cons rfl (Evs.cons rfl Evs.nil))))) rfl ?_) | (refine Ops.k_callf 27 ?_; refine Ops.callV hS (Evs.cons rfl (Evs.cons rfl Evs.nil)) rfl ?_) | (refine Ops.k_callf 28 ?_; refine Ops.callV hN (Evs.cons rfl Evs.nil) rfl ?_) | (refine Ops.k_callf 29 ?_; refine Ops.callV hFF (Evs.cons rfl (Evs.cons rfl (Evs.cons rfl Evs.nil))) rfl ?_) | (refine Ops.k_callf 15 ?_; refine Ops.callV hDF (Evs.cons rfl Evs.nil) rfl ?_) | (refine Ops.k_callf 13 ?_; refine Ops.callV hO1 (Evs.cons rfl Evs.nil) rfl ?_) | (refine Ops.k_callf 13 ?_; refine Ops.callV hO2 (Evs.cons rfl Evs.nil) rfl ?_) | (refine Ops.k_callf 13 ?_; refine Ops.callV hO3 (Evs.cons rfl Evs.nil) rfl ?_) | (refine Ops.k_callf 35 ?_; refine Ops.callV hPO (Evs.cons rfl (Evs.cons rfl (Evs.cons rfl (Evs.cons rfl (Evs.cons rfl Evs.nil))))) rfl ?_) | (refine Ops.k_callf 34 ?_; refine Ops.callV q3 (Evs.cons rfl (Evs.cons rfl Evs.nil)) rfl ?_) | (refine Ops.k_callf 17 ?_; refine Ops.callV stocks_fn Evs.nil rfl ?_)) | fail)
      all_goals exact Fin.ret Ent.refl (Outs.one rfl rfl) rfl
    · rw [hd1] at hS
      rw [show [dy].any (fun n => !dayB n) = false by simp [hd1]] at hDF hO3
      repeat' (first | refine goH ?_ | (refine Ops.k_b_eql ?_; first | (refine Ops.val' rfl (OpV.eql_t rfl rfl (by omega)) ?_) | (refine Ops.val' rfl (OpV.eql_f rfl rfl (by omega)) ?_)) | (refine Ops.k_b_neq ?_; first | (refine Ops.val' rfl (OpV.neq_f rfl rfl (by omega)) ?_) | (refine Ops.val' rfl (OpV.neq_t rfl rfl (by omega)) ?_)) | refine goV ?_ | refine goB (fun b => ?_) | refine goG ?_ | (refine Ops.k_guard ?_; first | (refine Ops.guard_dec rfl rfl (fun hc => ?_) (fun hc => ?_) <;> try (exfalso; omega)) | refine Ops.guard_split rfl rfl (fun hc => ?_) (fun hc => ?_)) | refine goI ?_ | (refine Cw.k_cond ?_; first | (refine Cw.cond_dec rfl (fun hc => ?_) (fun hc => ?_) <;> try (exfalso; omega)) | refine Cw.cond_bool rfl (fun hc => ?_) (fun hc => ?_)) | (refine Ops.k_calla ?_; first | (refine Ops.k_callf 22 ?_; refine Ops.callV hLF (Evs.cons rfl Evs.nil) rfl ?_) | (refine Ops.k_callf 23 ?_; refine Ops.callV hCL (Evs.cons rfl Evs.nil) rfl ?_) | (refine Ops.k_callf 24 ?_; refine Ops.callV hC (Evs.cons rfl (Evs.cons rfl Evs.nil)) rfl ?_) | (refine Ops.k_callf 25 ?_; refine Ops.callV hF (Evs.cons rfl (Evs.cons rfl (Evs.cons rfl (Evs.cons rfl Evs.nil)))) rfl ?_) | (refine Ops.k_callf 26 ?_; refine Ops.callV hP (Evs.cons rfl (Evs.cons rfl (Evs.cons rfl (Evs.cons rfl (Evs.cons rfl Evs.nil))))) rfl ?_) | (refine Ops.k_callf 27 ?_; refine Ops.callV hS (Evs.cons rfl (Evs.cons rfl Evs.nil)) rfl ?_) | (refine Ops.k_callf 28 ?_; refine Ops.callV hN (Evs.cons rfl Evs.nil) rfl ?_) | (refine Ops.k_callf 29 ?_; refine Ops.callV hFF (Evs.cons rfl (Evs.cons rfl (Evs.cons rfl Evs.nil))) rfl ?_) | (refine Ops.k_callf 15 ?_; refine Ops.callV hDF (Evs.cons rfl Evs.nil) rfl ?_) | (refine Ops.k_callf 13 ?_; refine Ops.callV hO1 (Evs.cons rfl Evs.nil) rfl ?_) | (refine Ops.k_callf 13 ?_; refine Ops.callV hO2 (Evs.cons rfl Evs.nil) rfl ?_) | (refine Ops.k_callf 13 ?_; refine Ops.callV hO3 (Evs.cons rfl Evs.nil) rfl ?_) | (refine Ops.k_callf 32 ?_; refine Ops.callV hSO (Evs.cons rfl (Evs.cons rfl Evs.nil)) rfl ?_) | (refine Ops.k_callf 35 ?_; refine Ops.callV hPO (Evs.cons rfl (Evs.cons rfl (Evs.cons rfl (Evs.cons rfl (Evs.cons rfl Evs.nil))))) rfl ?_) | (refine Ops.k_callf 33 ?_; refine Ops.callV q1 (Evs.cons rfl (Evs.cons rfl Evs.nil)) rfl ?_) | (refine Ops.k_callf 34 ?_; refine Ops.callV q2 (Evs.cons rfl (Evs.cons rfl Evs.nil)) rfl ?_) | (refine Ops.k_callf 34 ?_; refine Ops.callV q3 (Evs.cons rfl (Evs.cons rfl Evs.nil)) rfl ?_) | (refine Ops.k_callf 17 ?_; refine Ops.callV stocks_fn Evs.nil rfl ?_)) | fail)
      all_goals exact Fin.ret Ent.refl (Outs.one rfl rfl) rfl
  · rw [hk] at hC hF hN hFF hO1 hO2
    simp only [Bool.true_eq_false, if_false, if_true] at hC hF hN hFF hO1 hO2
    cases hd1 : dayB dy
    · rw [hd1] at hS hF hFF hO2
      rw [show [dy].any (fun n => !dayB n) = true by simp [hd1]] at hDF hO3
      simp only [Bool.false_and] at hF hFF hO2
      repeat' (first | refine goH ?_ | (refine Ops.k_b_eql ?_; first | (refine Ops.val' rfl (OpV.eql_t rfl rfl (by omega)) ?_) | (refine Ops.val' rfl (OpV.eql_f rfl rfl (by omega)) ?_)) | (refine Ops.k_b_neq ?_; first | (refine Ops.val' rfl (OpV.neq_f rfl rfl (by omega)) ?_) | (refine Ops.val' rfl (OpV.neq_t rfl rfl (by omega)) ?_)) | refine goV ?_ | refine goB (fun b => ?_) | refine goG ?_ | (refine Ops.k_guard ?_; first | (refine Ops.guard_dec rfl rfl (fun hc => ?_) (fun hc => ?_) <;> try (exfalso; omega)) | refine Ops.guard_split rfl rfl (fun hc => ?_) (fun hc => ?_)) | refine goI ?_ | (refine Cw.k_cond ?_; first | (refine Cw.cond_dec rfl (fun hc => ?_) (fun hc => ?_) <;> try (exfalso; omega)) | refine Cw.cond_bool rfl (fun hc => ?_) (fun hc => ?_)) | (refine Ops.k_calla ?_; first | (refine Ops.k_callf 22 ?_; refine Ops.callV hLF (Evs.cons rfl Evs.nil) rfl ?_) | (refine Ops.k_callf 23 ?_; refine Ops.callV hCL (Evs.cons rfl Evs.nil) rfl ?_) | (refine Ops.k_callf 24 ?_; refine Ops.callV hC (Evs.cons rfl (Evs.cons rfl Evs.nil)) rfl ?_) | (refine Ops.k_callf 25 ?_; refine Ops.callV hF (Evs.cons rfl (Evs.cons rfl (Evs.cons rfl (Evs.cons rfl Evs.nil)))) rfl ?_) | (refine Ops.k_callf 26 ?_; refine Ops.callV hP (Evs.cons rfl (Evs.cons rfl (Evs.cons rfl (Evs.cons rfl (Evs.cons rfl Evs.nil))))) rfl ?_) | (refine Ops.k_callf 27 ?_; refine Ops.callV hS (Evs.cons rfl (Evs.cons rfl Evs.nil)) rfl ?_) | (refine Ops.k_callf 28 ?_; refine Ops.callV hN (Evs.cons rfl Evs.nil) rfl ?_) | (refine Ops.k_callf 29 ?_; refine Ops.callV hFF (Evs.cons rfl (Evs.cons rfl (Evs.cons rfl Evs.nil))) rfl ?_) | (refine Ops.k_callf 15 ?_; refine Ops.callV hDF (Evs.cons rfl Evs.nil) rfl ?_) | (refine Ops.k_callf 13 ?_; refine Ops.callV hO1 (Evs.cons rfl Evs.nil) rfl ?_) | (refine Ops.k_callf 13 ?_; refine Ops.callV hO2 (Evs.cons rfl Evs.nil) rfl ?_) | (refine Ops.k_callf 13 ?_; refine Ops.callV hO3 (Evs.cons rfl Evs.nil) rfl ?_) | (refine Ops.k_callf 30 ?_; refine Ops.callV hCO (Evs.cons rfl (Evs.cons rfl Evs.nil)) rfl ?_) | (refine Ops.k_callf 35 ?_; refine Ops.callV hPO (Evs.cons rfl (Evs.cons rfl (Evs.cons rfl (Evs.cons rfl (Evs.cons rfl Evs.nil))))) rfl ?_) | (refine Ops.k_callf 34 ?_; refine Ops.callV q3 (Evs.cons rfl (Evs.cons rfl Evs.nil)) rfl ?_) | (refine Ops.k_callf 17 ?_; refine Ops.callV stocks_fn Evs.nil rfl ?_)) | fail)
      all_goals exact Fin.ret Ent.refl (Outs.one rfl rfl) rfl
    · rw [hd1] at hS hF hFF hO2
      rw [show [dy].any (fun n => !dayB n) = false by simp [hd1]] at hDF hO3
      simp only [Bool.true_and] at hF hFF hO2
      cases hd2 : dayB day
      · rw [hd2] at hF hFF hO2
        repeat' (first | refine goH ?_ | (refine Ops.k_b_eql ?_; first | (refine Ops.val' rfl (OpV.eql_t rfl rfl (by omega)) ?_) | (refine Ops.val' rfl (OpV.eql_f rfl rfl (by omega)) ?_)) | (refine Ops.k_b_neq ?_; first | (refine Ops.val' rfl (OpV.neq_f rfl rfl (by omega)) ?_) | (refine Ops.val' rfl (OpV.neq_t rfl rfl (by omega)) ?_)) | refine goV ?_ | refine goB (fun b => ?_) | refine goG ?_ | (refine Ops.k_guard ?_; first | (refine Ops.guard_dec rfl rfl (fun hc => ?_) (fun hc => ?_) <;> try (exfalso; omega)) | refine Ops.guard_split rfl rfl (fun hc => ?_) (fun hc => ?_)) | refine goI ?_ | (refine Cw.k_cond ?_; first | (refine Cw.cond_dec rfl (fun hc => ?_) (fun hc => ?_) <;> try (exfalso; omega)) | refine Cw.cond_bool rfl (fun hc => ?_) (fun hc => ?_)) | (refine Ops.k_calla ?_; first | (refine Ops.k_callf 22 ?_; refine Ops.callV hLF (Evs.cons rfl Evs.nil) rfl ?_) | (refine Ops.k_callf 23 ?_; refine Ops.callV hCL (Evs.cons rfl Evs.nil) rfl ?_) | (refine Ops.k_callf 24 ?_; refine Ops.callV hC (Evs.cons rfl (Evs.cons rfl Evs.nil)) rfl ?_) | (refine Ops.k_callf 25 ?_; refine Ops.callV hF (Evs.cons rfl (Evs.cons rfl (Evs.cons rfl (Evs.cons rfl Evs.nil)))) rfl ?_) | (refine Ops.k_callf 26 ?_; refine Ops.callV hP (Evs.cons rfl (Evs.cons rfl (Evs.cons rfl (Evs.cons rfl (Evs.cons rfl Evs.nil))))) rfl ?_) | (refine Ops.k_callf 27 ?_; refine Ops.callV hS (Evs.cons rfl (Evs.cons rfl Evs.nil)) rfl ?_) | (refine Ops.k_callf 28 ?_; refine Ops.callV hN (Evs.cons rfl Evs.nil) rfl ?_) | (refine Ops.k_callf 29 ?_; refine Ops.callV hFF (Evs.cons rfl (Evs.cons rfl (Evs.cons rfl Evs.nil))) rfl ?_) | (refine Ops.k_callf 15 ?_; refine Ops.callV hDF (Evs.cons rfl Evs.nil) rfl ?_) | (refine Ops.k_callf 13 ?_; refine Ops.callV hO1 (Evs.cons rfl Evs.nil) rfl ?_) | (refine Ops.k_callf 13 ?_; refine Ops.callV hO2 (Evs.cons rfl Evs.nil) rfl ?_) | (refine Ops.k_callf 13 ?_; refine Ops.callV hO3 (Evs.cons rfl Evs.nil) rfl ?_) | (refine Ops.k_callf 30 ?_; refine Ops.callV hCO (Evs.cons rfl (Evs.cons rfl Evs.nil)) rfl ?_) | (refine Ops.k_callf 32 ?_; refine Ops.callV hSO (Evs.cons rfl (Evs.cons rfl Evs.nil)) rfl ?_) | (refine Ops.k_callf 35 ?_; refine Ops.callV hPO (Evs.cons rfl (Evs.cons rfl (Evs.cons rfl (Evs.cons rfl (Evs.cons rfl Evs.nil))))) rfl ?_) | (refine Ops.k_callf 33 ?_; refine Ops.callV q1 (Evs.cons rfl (Evs.cons rfl Evs.nil)) rfl ?_) | (refine Ops.k_callf 34 ?_; refine Ops.callV q2 (Evs.cons rfl (Evs.cons rfl Evs.nil)) rfl ?_) | (refine Ops.k_callf 34 ?_; refine Ops.callV q3 (Evs.cons rfl (Evs.cons rfl Evs.nil)) rfl ?_) | (refine Ops.k_callf 17 ?_; refine Ops.callV stocks_fn Evs.nil rfl ?_)) | fail)
        all_goals exact Fin.ret Ent.refl (Outs.one rfl rfl) rfl
      · rw [hd2] at hF hFF hO2
        simp only [reduceIte, ne_eq, not_true_eq_false] at hF hFF hO2 hS hC hN hO1
        repeat' (first | refine goH ?_ | (refine Ops.k_b_eql ?_; first | (refine Ops.val' rfl (OpV.eql_t rfl rfl (by omega)) ?_) | (refine Ops.val' rfl (OpV.eql_f rfl rfl (by omega)) ?_)) | (refine Ops.k_b_neq ?_; first | (refine Ops.val' rfl (OpV.neq_f rfl rfl (by omega)) ?_) | (refine Ops.val' rfl (OpV.neq_t rfl rfl (by omega)) ?_)) | refine goV ?_ | refine goB (fun b => ?_) | refine goG ?_ | (refine Ops.k_guard ?_; first | (refine Ops.guard_dec rfl rfl (fun hc => ?_) (fun hc => ?_) <;> try (exfalso; omega)) | refine Ops.guard_split rfl rfl (fun hc => ?_) (fun hc => ?_)) | refine goI ?_ | (refine Cw.k_cond ?_; first | (refine Cw.cond_dec rfl (fun hc => ?_) (fun hc => ?_) <;> try (exfalso; omega)) | refine Cw.cond_bool rfl (fun hc => ?_) (fun hc => ?_)) | (refine Ops.k_calla ?_; first | (refine Ops.k_callf 22 ?_; refine Ops.callV hLF (Evs.cons rfl Evs.nil) rfl ?_) | (refine Ops.k_callf 23 ?_; refine Ops.callV hCL (Evs.cons rfl Evs.nil) rfl ?_) | (refine Ops.k_callf 24 ?_; refine Ops.callV hC (Evs.cons rfl (Evs.cons rfl Evs.nil)) rfl ?_) | (refine Ops.k_callf 25 ?_; refine Ops.callV hF (Evs.cons rfl (Evs.cons rfl (Evs.cons rfl (Evs.cons rfl Evs.nil)))) rfl ?_) | (refine Ops.k_callf 26 ?_; refine Ops.callV hP (Evs.cons rfl (Evs.cons rfl (Evs.cons rfl (Evs.cons rfl (Evs.cons rfl Evs.nil))))) rfl ?_) | (refine Ops.k_callf 27 ?_; refine Ops.callV hS (Evs.cons rfl (Evs.cons rfl Evs.nil)) rfl ?_) | (refine Ops.k_callf 28 ?_; refine Ops.callV hN (Evs.cons rfl Evs.nil) rfl ?_) | (refine Ops.k_callf 29 ?_; refine Ops.callV hFF (Evs.cons rfl (Evs.cons rfl (Evs.cons rfl Evs.nil))) rfl ?_) | (refine Ops.k_callf 15 ?_; refine Ops.callV hDF (Evs.cons rfl Evs.nil) rfl ?_) | (refine Ops.k_callf 13 ?_; refine Ops.callV hO1 (Evs.cons rfl Evs.nil) rfl ?_) | (refine Ops.k_callf 13 ?_; refine Ops.callV hO2 (Evs.cons rfl Evs.nil) rfl ?_) | (refine Ops.k_callf 13 ?_; refine Ops.callV hO3 (Evs.cons rfl Evs.nil) rfl ?_) | (refine Ops.k_callf 30 ?_; refine Ops.callV hCO (Evs.cons rfl (Evs.cons rfl Evs.nil)) rfl ?_) | (refine Ops.k_callf 31 ?_; refine Ops.callV hFO (Evs.cons rfl (Evs.cons rfl (Evs.cons rfl (Evs.cons rfl Evs.nil)))) rfl ?_) | (refine Ops.k_callf 32 ?_; refine Ops.callV hSO (Evs.cons rfl (Evs.cons rfl Evs.nil)) rfl ?_) | (refine Ops.k_callf 35 ?_; refine Ops.callV hPO (Evs.cons rfl (Evs.cons rfl (Evs.cons rfl (Evs.cons rfl (Evs.cons rfl Evs.nil))))) rfl ?_) | (refine Ops.k_callf 33 ?_; refine Ops.callV q1 (Evs.cons rfl (Evs.cons rfl Evs.nil)) rfl ?_) | (refine Ops.k_callf 34 ?_; refine Ops.callV q2 (Evs.cons rfl (Evs.cons rfl Evs.nil)) rfl ?_) | (refine Ops.k_callf 34 ?_; refine Ops.callV q3 (Evs.cons rfl (Evs.cons rfl Evs.nil)) rfl ?_) | (refine Ops.k_callf 17 ?_; refine Ops.callV stocks_fn Evs.nil rfl ?_)) | fail)
        all_goals exact Fin.ret Ent.refl (Outs.one rfl rfl) rfl
end Lg
