/- A part of the proof of a law of this seat: it adds no condition. By an AI agent. -/
import Derived.Test.YtfecflnngkhneaaDoorAge5
import Derived.Test.YtfecflnngkhneaaDoorCnt
import Derived.Test.YtfecflnngkhneaaDoorLotGen
import Derived.Test.YtfecflnngkhneaaDoorCoilGen
import Derived.Test.YtfecflnngkhneaaDoorLaw
set_option linter.all false
set_option maxRecDepth 100000
set_option maxHeartbeats 4000000
namespace Lg
open Go Go.Proofs

theorem coilsAge_law (xs : List Int) : Spec Tryd.prog 3 [Tr.ints xs] [] (fun r _ => r = Tr.bool true) := by
  refine Spec.body Tryd.func3 rfl rfl (Tryd.ntmps3) rfl fun w0 own0 M => ?_
  repeat' (first | refine goH ?_ | refine goV ?_ | refine goB (fun b => ?_) | refine goG ?_ | (refine Ops.k_guard ?_; first | (refine Ops.guard_dec rfl rfl (fun hc => ?_) (fun hc => ?_) <;> try (exfalso; omega)) | refine Ops.guard_split rfl rfl (fun hc => ?_) (fun hc => ?_)) | refine goI ?_ | (refine Cw.k_cond ?_; first | (refine Cw.cond_dec rfl (fun hc => ?_) (fun hc => ?_) <;> try (exfalso; omega)) | refine Cw.cond_bool rfl (fun hc => ?_) (fun hc => ?_)) | refine Ops.shut0 (ty := 25) rfl ?_ | (refine Ops.k_calla ?_; first | (refine Ops.k_callf 6 ?_; (refine Ops.callG lots_gen (Evs.cons rfl Evs.nil) (by first | exact pick0 | exact pickS pick0 | exact pickS (pickS pick0) | exact pickS (pickS (pickS pick0)) | exact pickS (pickS (pickS (pickS pick0)))) (by omega) rfl ?_; rintro r ⟨l, rfl, hl⟩)) | (refine Ops.k_callf 5 ?_; (refine Ops.callG coil_gen (Evs.cons rfl Evs.nil) (by first | exact pick0 | exact pickS pick0 | exact pickS (pickS pick0) | exact pickS (pickS (pickS pick0)) | exact pickS (pickS (pickS (pickS pick0)))) (by omega) rfl ?_; rintro r ⟨⟨prod, most, ps⟩, rfl, hc⟩; unfold Coil.row; simp only at hc ⊢)) | (refine Ops.k_callf 7 ?_; (refine Ops.callG day_gen (Evs.cons rfl Evs.nil) (by first | exact pick0 | exact pickS pick0 | exact pickS (pickS pick0) | exact pickS (pickS (pickS pick0)) | exact pickS (pickS (pickS (pickS pick0)))) (by omega) rfl ?_; rintro r ⟨day, rfl, hd⟩)) | (refine Ops.k_callf 9 ?_; (refine Ops.callG (next_gen _ (by omega)) (Evs.cons rfl (Evs.cons rfl Evs.nil)) (by first | exact pick0 | exact pickS pick0 | exact pickS (pickS pick0) | exact pickS (pickS (pickS pick0)) | exact pickS (pickS (pickS (pickS pick0)))) (by omega) rfl ?_; rintro r ⟨v, rfl, hv⟩; unfold InRange at hv)) | (refine Ops.k_callf 8 ?_; (refine Ops.callG (numbers_gen _ _ (by omega) (by omega)) (Evs.cons rfl (Evs.cons rfl (Evs.cons rfl Evs.nil))) (by first | exact pick0 | exact pickS pick0 | exact pickS (pickS pick0) | exact pickS (pickS (pickS pick0)) | exact pickS (pickS (pickS (pickS pick0)))) (by omega) rfl ?_; rintro r ⟨sales, rfl, hs⟩))) | refine goR ?_ | refine goP ?_ | apply PSeq.cons | apply PSeq.yes rfl rfl rfl | exact goW | fail)
  have hcl : (⟨prod, most, ps⟩ : Coil).ps.length ≤ 1000000 := by simp only; omega
  have hB := blocked_fn ⟨prod, most, ps⟩ hcl l (by omega) day
  have hS := stale_fn ⟨prod, most, ps⟩ hcl l (by omega) day sales (by omega)
  have hF := coilsFault_fn ⟨prod, most, ps⟩ hcl l (by omega)
  have hK := knownFault_fn ⟨prod, most, ps⟩ hcl l (by omega)
  have hD := dayFault_fn [day] (by simp)
  have hSF := staleFault_fn ⟨prod, most, ps⟩ hcl l (by omega) day sales (by omega)
  unfold Coil.row at hB hS hF hK hSF
  simp only at hB hS hF hK hSF
  obtain ⟨base, hbase⟩ : ∃ base, base = if lotsErr l ≠ 0 then lotsErr l else coilErr ⟨prod, most, ps⟩ := ⟨_, rfl⟩
  rw [← hbase] at hF
  by_cases h0 : base ≠ 0
  · have e1 : coilDayErr l ⟨prod, most, ps⟩ day = base := by
      unfold coilDayErr
      by_cases hl0 : lotsErr l ≠ 0
      · rw [if_pos hl0] at hbase ⊢; exact hbase.symm
      · rw [if_neg hl0] at hbase ⊢; rw [if_pos (by omega)]; exact hbase.symm
    have e2 : staleErr l ⟨prod, most, ps⟩ day sales = base := by unfold staleErr; rw [e1, if_pos h0]
    rw [e1, if_pos h0] at hB
    rw [e2, if_pos h0] at hS
    clear hK hD hSF e1 e2 hbase
    repeat' (first | refine goH ?_ | (refine Ops.k_b_eql ?_; first | (refine Ops.val' rfl (OpV.eql_t rfl rfl (by omega)) ?_) | (refine Ops.val' rfl (OpV.eql_f rfl rfl (by omega)) ?_)) | (refine Ops.k_b_neq ?_; first | (refine Ops.val' rfl (OpV.neq_f rfl rfl (by omega)) ?_) | (refine Ops.val' rfl (OpV.neq_t rfl rfl (by omega)) ?_)) | refine goV ?_ | refine goB (fun b => ?_) | refine goG ?_ | (refine Ops.k_guard ?_; first | (refine Ops.guard_dec rfl rfl (fun hc => ?_) (fun hc => ?_) <;> try (exfalso; omega)) | refine Ops.guard_split rfl rfl (fun hc => ?_) (fun hc => ?_)) | refine goI ?_ | (refine Cw.k_cond ?_; first | (refine Cw.cond_dec rfl (fun hc => ?_) (fun hc => ?_) <;> try (exfalso; omega)) | refine Cw.cond_bool rfl (fun hc => ?_) (fun hc => ?_)) | (refine Ops.k_calla ?_; first | (refine Ops.k_callf 10 ?_; refine Ops.callV hB (Evs.cons rfl (Evs.cons rfl (Evs.cons rfl Evs.nil))) rfl ?_) | (refine Ops.k_callf 11 ?_; refine Ops.callV hS (Evs.cons rfl (Evs.cons rfl (Evs.cons rfl (Evs.cons rfl Evs.nil)))) rfl ?_) | (refine Ops.k_callf 12 ?_; refine Ops.callV hF (Evs.cons rfl (Evs.cons rfl Evs.nil)) rfl ?_) | (refine Ops.k_callf 17 ?_; refine Ops.callV stocks_fn Evs.nil rfl ?_)) | (apply OpW.k_call; first | (apply OpW.k_callf 10; exact OpW.callV hB (Evs.cons rfl (Evs.cons rfl (Evs.cons rfl Evs.nil)))) | (apply OpW.k_callf 11; exact OpW.callV hS (Evs.cons rfl (Evs.cons rfl (Evs.cons rfl (Evs.cons rfl Evs.nil))))) | (apply OpW.k_callf 12; exact OpW.callV hF (Evs.cons rfl (Evs.cons rfl Evs.nil))) | (apply OpW.k_callf 17; exact OpW.callV stocks_fn Evs.nil)) | refine goR ?_ | refine goP ?_ | apply PSeq.cons | apply PSeq.yes rfl rfl rfl | exact goW | fail)
    all_goals (refine Fin.ret Ent.refl (Outs.one rfl rfl) ?_; exact rfl)
  replace h0 : base = 0 := by omega
  rw [h0] at hF hbase
  have hl0 : lotsErr l = 0 := by
    by_cases h : lotsErr l = 0
    · exact h
    · rw [if_pos h] at hbase; omega
  rw [if_neg (by omega)] at hbase
  have e1 : coilDayErr l ⟨prod, most, ps⟩ day = if strangeB l ps then 8 else if dayB day then 0 else 1 := by
    unfold coilDayErr
    rw [if_neg (by omega), if_neg (by omega)]
  obtain ⟨_, _, _, k4, k5', _⟩ := coilErr_ok hbase.symm
  have k5 : ∀ p ∈ ps, 1 ≤ p.many ∧ p.many ≤ 1000 := fun p hp => (k5' p hp).2
  cases hst : strangeB l ps
  · rw [hst] at hK hSF e1
    cases hdy : dayB day
    · rw [hdy] at hSF e1
      rw [show [day].any (fun n => !dayB n) = true by simp [hdy]] at hD
      have hO := cmpOr_fn [0, 1] (by simp)
      have e2 : staleErr l ⟨prod, most, ps⟩ day sales = 1 := by unfold staleErr; rw [e1]; rfl
      rw [e1] at hB
      rw [e2] at hS
      repeat' (first | refine goH ?_ | (refine Ops.k_b_eql ?_; first | (refine Ops.val' rfl (OpV.eql_t rfl rfl (by omega)) ?_) | (refine Ops.val' rfl (OpV.eql_f rfl rfl (by omega)) ?_)) | (refine Ops.k_b_neq ?_; first | (refine Ops.val' rfl (OpV.neq_f rfl rfl (by omega)) ?_) | (refine Ops.val' rfl (OpV.neq_t rfl rfl (by omega)) ?_)) | refine goV ?_ | refine goB (fun b => ?_) | refine goG ?_ | (refine Ops.k_guard ?_; first | (refine Ops.guard_dec rfl rfl (fun hc => ?_) (fun hc => ?_) <;> try (exfalso; omega)) | refine Ops.guard_split rfl rfl (fun hc => ?_) (fun hc => ?_)) | refine goI ?_ | (refine Cw.k_cond ?_; first | (refine Cw.cond_dec rfl (fun hc => ?_) (fun hc => ?_) <;> try (exfalso; omega)) | refine Cw.cond_bool rfl (fun hc => ?_) (fun hc => ?_)) | (refine Ops.k_calla ?_; first | (refine Ops.k_callf 10 ?_; refine Ops.callV hB (Evs.cons rfl (Evs.cons rfl (Evs.cons rfl Evs.nil))) rfl ?_) | (refine Ops.k_callf 11 ?_; refine Ops.callV hS (Evs.cons rfl (Evs.cons rfl (Evs.cons rfl (Evs.cons rfl Evs.nil)))) rfl ?_) | (refine Ops.k_callf 12 ?_; refine Ops.callV hF (Evs.cons rfl (Evs.cons rfl Evs.nil)) rfl ?_) | (refine Ops.k_callf 14 ?_; refine Ops.callV hK (Evs.cons rfl (Evs.cons rfl Evs.nil)) rfl ?_) | (refine Ops.k_callf 15 ?_; refine Ops.callV hD (Evs.cons rfl Evs.nil) rfl ?_) | (refine Ops.k_callf 13 ?_; refine Ops.callV hO (Evs.cons rfl Evs.nil) rfl ?_) | (refine Ops.k_callf 16 ?_; refine Ops.callV hSF (Evs.cons rfl (Evs.cons rfl (Evs.cons rfl (Evs.cons rfl Evs.nil)))) rfl ?_) | (refine Ops.k_callf 17 ?_; refine Ops.callV stocks_fn Evs.nil rfl ?_)) | (apply OpW.k_call; first | (apply OpW.k_callf 10; exact OpW.callV hB (Evs.cons rfl (Evs.cons rfl (Evs.cons rfl Evs.nil)))) | (apply OpW.k_callf 11; exact OpW.callV hS (Evs.cons rfl (Evs.cons rfl (Evs.cons rfl (Evs.cons rfl Evs.nil))))) | (apply OpW.k_callf 12; exact OpW.callV hF (Evs.cons rfl (Evs.cons rfl Evs.nil))) | (apply OpW.k_callf 14; exact OpW.callV hK (Evs.cons rfl (Evs.cons rfl Evs.nil))) | (apply OpW.k_callf 15; exact OpW.callV hD (Evs.cons rfl Evs.nil)) | (apply OpW.k_callf 13; exact OpW.callV hO (Evs.cons rfl Evs.nil)) | (apply OpW.k_callf 16; exact OpW.callV hSF (Evs.cons rfl (Evs.cons rfl (Evs.cons rfl (Evs.cons rfl Evs.nil))))) | (apply OpW.k_callf 17; exact OpW.callV stocks_fn Evs.nil)) | refine goR ?_ | refine goP ?_ | apply PSeq.cons | apply PSeq.yes rfl rfl rfl | exact goW | fail)
      all_goals (refine Fin.ret Ent.refl (Outs.one rfl rfl) ?_; exact rfl)
    · rw [hdy] at hSF e1
      rw [show [day].any (fun n => !dayB n) = false by simp [hdy]] at hD
      have hO := cmpOr_fn [0, 0] (by simp)
      have e2 : staleErr l ⟨prod, most, ps⟩ day sales = salesErr sales := by unfold staleErr; rw [e1]; rfl
      rw [e1] at hB
      rw [e2] at hS
      simp only [Bool.false_eq_true, Bool.true_eq_false, if_false, if_true, ne_eq, not_true_eq_false] at hB hSF hK hD
      have hBO := blockedOf_fn ⟨prod, most, ps⟩ k4 k5 l (by omega) day
      unfold Coil.row at hBO
      simp only at hBO
      generalize blockedI l day ps = bb at *
      by_cases hse : salesErr sales ≠ 0
      · rw [if_pos hse] at hS
        generalize salesErr sales = se at *
        repeat' (first | refine goH ?_ | (refine Ops.k_b_eql ?_; first | (refine Ops.val' rfl (OpV.eql_t rfl rfl (by omega)) ?_) | (refine Ops.val' rfl (OpV.eql_f rfl rfl (by omega)) ?_)) | (refine Ops.k_b_neq ?_; first | (refine Ops.val' rfl (OpV.neq_f rfl rfl (by omega)) ?_) | (refine Ops.val' rfl (OpV.neq_t rfl rfl (by omega)) ?_)) | refine goV ?_ | refine goB (fun b => ?_) | refine goG ?_ | (refine Ops.k_guard ?_; first | (refine Ops.guard_dec rfl rfl (fun hc => ?_) (fun hc => ?_) <;> try (exfalso; omega)) | refine Ops.guard_split rfl rfl (fun hc => ?_) (fun hc => ?_)) | refine goI ?_ | (refine Cw.k_cond ?_; first | (refine Cw.cond_dec rfl (fun hc => ?_) (fun hc => ?_) <;> try (exfalso; omega)) | refine Cw.cond_bool rfl (fun hc => ?_) (fun hc => ?_)) | (refine Ops.k_calla ?_; first | (refine Ops.k_callf 10 ?_; refine Ops.callV hB (Evs.cons rfl (Evs.cons rfl (Evs.cons rfl Evs.nil))) rfl ?_) | (refine Ops.k_callf 11 ?_; refine Ops.callV hS (Evs.cons rfl (Evs.cons rfl (Evs.cons rfl (Evs.cons rfl Evs.nil)))) rfl ?_) | (refine Ops.k_callf 12 ?_; refine Ops.callV hF (Evs.cons rfl (Evs.cons rfl Evs.nil)) rfl ?_) | (refine Ops.k_callf 14 ?_; refine Ops.callV hK (Evs.cons rfl (Evs.cons rfl Evs.nil)) rfl ?_) | (refine Ops.k_callf 15 ?_; refine Ops.callV hD (Evs.cons rfl Evs.nil) rfl ?_) | (refine Ops.k_callf 13 ?_; refine Ops.callV hO (Evs.cons rfl Evs.nil) rfl ?_) | (refine Ops.k_callf 16 ?_; refine Ops.callV hSF (Evs.cons rfl (Evs.cons rfl (Evs.cons rfl (Evs.cons rfl Evs.nil)))) rfl ?_) | (refine Ops.k_callf 17 ?_; refine Ops.callV stocks_fn Evs.nil rfl ?_) | (refine Ops.k_callf 18 ?_; refine Ops.callV hBO (Evs.cons rfl (Evs.cons rfl (Evs.cons rfl Evs.nil))) rfl ?_)) | (apply OpW.k_call; first | (apply OpW.k_callf 10; exact OpW.callV hB (Evs.cons rfl (Evs.cons rfl (Evs.cons rfl Evs.nil)))) | (apply OpW.k_callf 11; exact OpW.callV hS (Evs.cons rfl (Evs.cons rfl (Evs.cons rfl (Evs.cons rfl Evs.nil))))) | (apply OpW.k_callf 12; exact OpW.callV hF (Evs.cons rfl (Evs.cons rfl Evs.nil))) | (apply OpW.k_callf 14; exact OpW.callV hK (Evs.cons rfl (Evs.cons rfl Evs.nil))) | (apply OpW.k_callf 15; exact OpW.callV hD (Evs.cons rfl Evs.nil)) | (apply OpW.k_callf 13; exact OpW.callV hO (Evs.cons rfl Evs.nil)) | (apply OpW.k_callf 16; exact OpW.callV hSF (Evs.cons rfl (Evs.cons rfl (Evs.cons rfl (Evs.cons rfl Evs.nil))))) | (apply OpW.k_callf 17; exact OpW.callV stocks_fn Evs.nil) | (apply OpW.k_callf 18; exact OpW.callV hBO (Evs.cons rfl (Evs.cons rfl (Evs.cons rfl Evs.nil))))) | refine goR ?_ | refine goP ?_ | apply PSeq.cons | apply PSeq.yes rfl rfl rfl | exact goW | fail)
        all_goals (refine Fin.ret Ent.refl (Outs.one rfl rfl) ?_; exact rfl)
      · have hse0 : salesErr sales = 0 := by omega
        rw [hse0] at hS hSF
        simp only [ne_eq, not_true_eq_false, if_false] at hS
        have hsb : sales.length ≤ 400 ∧ sales.any saleB = false := by
          unfold salesErr at hse0
          split at hse0
          · omega
          · split at hse0
            · omega
            · rename_i h; exact ⟨by omega, by simpa using h⟩
        have hSO := staleOf_fn ⟨prod, most, ps⟩ k4 k5 l (by omega) day (dayB_iff.1 hdy) sales (by omega) (fun m hm => by
          have := List.any_eq_false.1 hsb.2 m hm
          simp [saleB] at this
          omega)
        unfold Coil.row at hSO
        simp only at hSO
        generalize staleI l ps day sales = ss at *
        repeat' (first | refine goH ?_ | (refine Ops.k_b_eql ?_; first | (refine Ops.val' rfl (OpV.eql_t rfl rfl (by omega)) ?_) | (refine Ops.val' rfl (OpV.eql_f rfl rfl (by omega)) ?_)) | (refine Ops.k_b_neq ?_; first | (refine Ops.val' rfl (OpV.neq_f rfl rfl (by omega)) ?_) | (refine Ops.val' rfl (OpV.neq_t rfl rfl (by omega)) ?_)) | refine goV ?_ | refine goB (fun b => ?_) | refine goG ?_ | (refine Ops.k_guard ?_; first | (refine Ops.guard_dec rfl rfl (fun hc => ?_) (fun hc => ?_) <;> try (exfalso; omega)) | refine Ops.guard_split rfl rfl (fun hc => ?_) (fun hc => ?_)) | refine goI ?_ | (refine Cw.k_cond ?_; first | (refine Cw.cond_dec rfl (fun hc => ?_) (fun hc => ?_) <;> try (exfalso; omega)) | refine Cw.cond_bool rfl (fun hc => ?_) (fun hc => ?_)) | (refine Ops.k_calla ?_; first | (refine Ops.k_callf 10 ?_; refine Ops.callV hB (Evs.cons rfl (Evs.cons rfl (Evs.cons rfl Evs.nil))) rfl ?_) | (refine Ops.k_callf 11 ?_; refine Ops.callV hS (Evs.cons rfl (Evs.cons rfl (Evs.cons rfl (Evs.cons rfl Evs.nil)))) rfl ?_) | (refine Ops.k_callf 12 ?_; refine Ops.callV hF (Evs.cons rfl (Evs.cons rfl Evs.nil)) rfl ?_) | (refine Ops.k_callf 14 ?_; refine Ops.callV hK (Evs.cons rfl (Evs.cons rfl Evs.nil)) rfl ?_) | (refine Ops.k_callf 15 ?_; refine Ops.callV hD (Evs.cons rfl Evs.nil) rfl ?_) | (refine Ops.k_callf 13 ?_; refine Ops.callV hO (Evs.cons rfl Evs.nil) rfl ?_) | (refine Ops.k_callf 16 ?_; refine Ops.callV hSF (Evs.cons rfl (Evs.cons rfl (Evs.cons rfl (Evs.cons rfl Evs.nil)))) rfl ?_) | (refine Ops.k_callf 17 ?_; refine Ops.callV stocks_fn Evs.nil rfl ?_) | (refine Ops.k_callf 18 ?_; refine Ops.callV hBO (Evs.cons rfl (Evs.cons rfl (Evs.cons rfl Evs.nil))) rfl ?_) | (refine Ops.k_callf 19 ?_; refine Ops.callV hSO (Evs.cons rfl (Evs.cons rfl (Evs.cons rfl (Evs.cons rfl Evs.nil)))) rfl ?_)) | (apply OpW.k_call; first | (apply OpW.k_callf 10; exact OpW.callV hB (Evs.cons rfl (Evs.cons rfl (Evs.cons rfl Evs.nil)))) | (apply OpW.k_callf 11; exact OpW.callV hS (Evs.cons rfl (Evs.cons rfl (Evs.cons rfl (Evs.cons rfl Evs.nil))))) | (apply OpW.k_callf 12; exact OpW.callV hF (Evs.cons rfl (Evs.cons rfl Evs.nil))) | (apply OpW.k_callf 14; exact OpW.callV hK (Evs.cons rfl (Evs.cons rfl Evs.nil))) | (apply OpW.k_callf 15; exact OpW.callV hD (Evs.cons rfl Evs.nil)) | (apply OpW.k_callf 13; exact OpW.callV hO (Evs.cons rfl Evs.nil)) | (apply OpW.k_callf 16; exact OpW.callV hSF (Evs.cons rfl (Evs.cons rfl (Evs.cons rfl (Evs.cons rfl Evs.nil))))) | (apply OpW.k_callf 17; exact OpW.callV stocks_fn Evs.nil) | (apply OpW.k_callf 18; exact OpW.callV hBO (Evs.cons rfl (Evs.cons rfl (Evs.cons rfl Evs.nil)))) | (apply OpW.k_callf 19; exact OpW.callV hSO (Evs.cons rfl (Evs.cons rfl (Evs.cons rfl (Evs.cons rfl Evs.nil)))))) | refine goR ?_ | refine goP ?_ | apply PSeq.cons | apply PSeq.yes rfl rfl rfl | exact goW | fail)
        all_goals (refine Fin.ret Ent.refl (Outs.one rfl rfl) ?_; exact rfl)
  · rw [hst] at hK hSF e1
    have e2 : staleErr l ⟨prod, most, ps⟩ day sales = 8 := by unfold staleErr; rw [e1]; rfl
    rw [e1] at hB
    rw [e2] at hS
    have hO := cmpOr_fn [8, if [day].any (fun n => !dayB n) then 1 else 0] (by simp)
    rw [show orI [8, if [day].any (fun n => !dayB n) then 1 else 0] = 8 from rfl] at hO
    generalize (if [day].any (fun n => !dayB n) then (1 : Int) else 0) = dd at *
    repeat' (first | refine goH ?_ | (refine Ops.k_b_eql ?_; first | (refine Ops.val' rfl (OpV.eql_t rfl rfl (by omega)) ?_) | (refine Ops.val' rfl (OpV.eql_f rfl rfl (by omega)) ?_)) | (refine Ops.k_b_neq ?_; first | (refine Ops.val' rfl (OpV.neq_f rfl rfl (by omega)) ?_) | (refine Ops.val' rfl (OpV.neq_t rfl rfl (by omega)) ?_)) | refine goV ?_ | refine goB (fun b => ?_) | refine goG ?_ | (refine Ops.k_guard ?_; first | (refine Ops.guard_dec rfl rfl (fun hc => ?_) (fun hc => ?_) <;> try (exfalso; omega)) | refine Ops.guard_split rfl rfl (fun hc => ?_) (fun hc => ?_)) | refine goI ?_ | (refine Cw.k_cond ?_; first | (refine Cw.cond_dec rfl (fun hc => ?_) (fun hc => ?_) <;> try (exfalso; omega)) | refine Cw.cond_bool rfl (fun hc => ?_) (fun hc => ?_)) | (refine Ops.k_calla ?_; first | (refine Ops.k_callf 10 ?_; refine Ops.callV hB (Evs.cons rfl (Evs.cons rfl (Evs.cons rfl Evs.nil))) rfl ?_) | (refine Ops.k_callf 11 ?_; refine Ops.callV hS (Evs.cons rfl (Evs.cons rfl (Evs.cons rfl (Evs.cons rfl Evs.nil)))) rfl ?_) | (refine Ops.k_callf 12 ?_; refine Ops.callV hF (Evs.cons rfl (Evs.cons rfl Evs.nil)) rfl ?_) | (refine Ops.k_callf 14 ?_; refine Ops.callV hK (Evs.cons rfl (Evs.cons rfl Evs.nil)) rfl ?_) | (refine Ops.k_callf 15 ?_; refine Ops.callV hD (Evs.cons rfl Evs.nil) rfl ?_) | (refine Ops.k_callf 13 ?_; refine Ops.callV hO (Evs.cons rfl Evs.nil) rfl ?_) | (refine Ops.k_callf 16 ?_; refine Ops.callV hSF (Evs.cons rfl (Evs.cons rfl (Evs.cons rfl (Evs.cons rfl Evs.nil)))) rfl ?_) | (refine Ops.k_callf 17 ?_; refine Ops.callV stocks_fn Evs.nil rfl ?_)) | (apply OpW.k_call; first | (apply OpW.k_callf 10; exact OpW.callV hB (Evs.cons rfl (Evs.cons rfl (Evs.cons rfl Evs.nil)))) | (apply OpW.k_callf 11; exact OpW.callV hS (Evs.cons rfl (Evs.cons rfl (Evs.cons rfl (Evs.cons rfl Evs.nil))))) | (apply OpW.k_callf 12; exact OpW.callV hF (Evs.cons rfl (Evs.cons rfl Evs.nil))) | (apply OpW.k_callf 14; exact OpW.callV hK (Evs.cons rfl (Evs.cons rfl Evs.nil))) | (apply OpW.k_callf 15; exact OpW.callV hD (Evs.cons rfl Evs.nil)) | (apply OpW.k_callf 13; exact OpW.callV hO (Evs.cons rfl Evs.nil)) | (apply OpW.k_callf 16; exact OpW.callV hSF (Evs.cons rfl (Evs.cons rfl (Evs.cons rfl (Evs.cons rfl Evs.nil))))) | (apply OpW.k_callf 17; exact OpW.callV stocks_fn Evs.nil)) | refine goR ?_ | refine goP ?_ | apply PSeq.cons | apply PSeq.yes rfl rfl rfl | exact goW | fail)
    all_goals (refine Fin.ret Ent.refl (Outs.one rfl rfl) ?_; exact rfl)
end Lg
