/- A part of the proof of a law of this seat: it adds no condition. By an AI agent. -/
import Derived.Test.YtojdcihnfjjlaaaVend6
import Derived.Test.YtojdcihnfjjlaaaCmpOr
import Derived.Test.YtojdcihnfjjlaaaVend7
import Derived.Test.YtojdcihnfjjlaaaVend3
import Derived.Test.YtojdcihnfjjlaaaEqWin
import Derived.Test.YtojdcihnfjjlaaaLaw

set_option linter.all false
set_option maxRecDepth 100000
set_option maxHeartbeats 4000000
namespace Lg
open Go Go.Proofs

theorem amtErr_01 (n : Int) : amtErr n = 0 ∨ amtErr n = 1 := by unfold amtErr; split <;> simp
theorem amounts_facts (t : List Tube) (most step : Int) : ∃ want : Int, orI [tubesErr t, amtErr most] = want ∧ (reach1 t most).2 = want ∧ (want ≠ 0 → (lack1 t most step).2.2 = want) ∧
    (want = 0 → TOk t ∧ (0 ≤ most ∧ most ≤ 20000) ∧ (lack1 t most step).2.2 = if step < 1 ∨ 20000 < step then 1 else 0) := by
  refine ⟨_, rfl, ?_, ?_, ?_⟩
  · simp only [orI]
    unfold reach1 amtErr
    by_cases h0 : tubesErr t = 0 <;> by_cases h1 : most < 0 ∨ 20000 < most <;> simp [h0, h1]
  · simp only [orI]
    unfold lack1 amtErr
    by_cases h0 : tubesErr t = 0
    · by_cases h1 : most < 0 ∨ 20000 < most
      · intro _
        rw [if_neg (by omega), if_pos (by omega)]
        simp [h0, h1]
      · simp [h0, h1]
    · simp [h0]
  · simp only [orI]
    intro e
    by_cases h0 : tubesErr t = 0
    · by_cases h1 : most < 0 ∨ 20000 < most
      · unfold amtErr at e
        simp [h0, h1] at e
      · refine ⟨tubesErr_ok h0, by omega, ?_⟩
        unfold lack1
        rw [if_neg (by omega)]
        by_cases h2 : step < 1 ∨ 20000 < step
        · rw [if_pos (by omega), if_pos h2]
        · rw [if_neg (by omega), if_neg h2]
    · simp [h0] at e

theorem amountsReached_law (xs : List Int) : Spec Try.prog 4 [Tr.ints xs] [] (fun r _ => r = Tr.bool true) := by
  refine Spec.body Try.func4 rfl rfl (Try.ntmps4) rfl fun w0 own0 M => ?_
  repeat' (first | refine Ops.nil ?_ | refine Then.norm ?_ | refine Cw.seq ?_ | refine Cw.region ?_ | refine Cw.block ?_ | refine Cw.exit ?_ | refine Cw.skip ?_ | refine Cw.ret ?_ | refine Then.exit ?_ | refine Then.ret ?_ | refine InB.exit ?_ | refine InB.norm ?_ | refine InB.ret ?_ | refine InB.exit_ne rfl ?_ | (refine Ops.k_move ?_; first | refine Ops.move rfl rfl ?_ | refine Ops.move_any rfl ?_) | (refine Ops.k_assign ?_; first | refine Ops.assign rfl rfl ?_ | refine Ops.assign_any rfl ?_) | (refine Ops.k_b_lss ?_; first | refine Ops.lss rfl rfl rfl ?_) | (refine Ops.k_b_eql ?_; first | refine Ops.eql rfl rfl rfl ?_) | (refine Ops.k_b_neq ?_; first | refine Ops.neq rfl rfl rfl ?_) | (refine Ops.k_b_gtr ?_; first | refine Ops.gtr rfl rfl rfl ?_) | (refine Ops.k_not ?_; first | refine Ops.not_dec rfl rfl ?_ | refine Ops.not rfl rfl ?_) | (refine Ops.k_extract ?_; first | refine Ops.extract rfl rfl rfl ?_) | (refine Ops.k_pick ?_; first | refine Ops.pick_true rfl rfl rfl ?_ | refine Ops.pick_false rfl rfl rfl ?_) | (refine Ops.k_box ?_; first | refine Ops.box rfl rfl (fun b => ?_)) | (refine Ops.k_build ?_; first | (refine Ops.k_build1 ?_; refine Ops.build (by exact Parts.cons rfl rfl rfl (by exact Parts.nil)) rfl ?_) | (refine Ops.k_build2 ?_; refine Ops.build (by exact Parts.cons rfl rfl rfl (by exact Parts.cons rfl rfl rfl (by exact Parts.nil))) rfl ?_) | (refine Ops.k_build7 ?_; refine Ops.build (by exact Parts.cons rfl rfl rfl (by exact Parts.cons rfl rfl rfl (by exact Parts.cons rfl rfl rfl (by exact Parts.cons rfl rfl rfl (by exact Parts.cons rfl rfl rfl (by exact Parts.cons rfl rfl rfl (by exact Parts.cons rfl rfl rfl (by exact Parts.nil)))))))) rfl ?_)) | (refine Ops.k_buildSlice ?_; first | (refine Ops.k_buildSlice1 ?_; refine Ops.buildSlice (by exact Parts.cons rfl rfl rfl (by exact Parts.nil)) rfl rfl rfl ?_) | (refine Ops.k_buildSlice2 ?_; refine Ops.buildSlice (by exact Parts.cons rfl rfl rfl (by exact Parts.cons rfl rfl rfl (by exact Parts.nil))) rfl rfl rfl ?_) | (refine Ops.k_buildSlice7 ?_; refine Ops.buildSlice (by exact Parts.cons rfl rfl rfl (by exact Parts.cons rfl rfl rfl (by exact Parts.cons rfl rfl rfl (by exact Parts.cons rfl rfl rfl (by exact Parts.cons rfl rfl rfl (by exact Parts.cons rfl rfl rfl (by exact Parts.cons rfl rfl rfl (by exact Parts.nil)))))))) rfl rfl rfl ?_)) | (refine Ops.k_guard ?_; first | refine Ops.guard_yes rfl rfl ?_ | refine Ops.guard_no rfl rfl rfl rfl ?_ | refine Ops.guard_no' rfl rfl rfl ?_ | refine Ops.guard_undef rfl rfl rfl ?_ | refine Ops.guard_undef' rfl rfl ?_ | (refine Ops.guard_dec rfl rfl (fun hc => ?_) (fun hc => ?_) <;> try (exfalso; omega)) | refine Ops.guard_split rfl rfl (fun hc => ?_) (fun hc => ?_)) | (refine Cw.k_cond ?_; first | refine Cw.cond_true rfl ?_ | refine Cw.cond_false rfl ?_ | (refine Cw.cond_dec rfl (fun hc => ?_) (fun hc => ?_) <;> try (exfalso; omega)) | refine Cw.cond_bool rfl (fun hc => ?_) (fun hc => ?_)) | refine Ops.shut0 (ty := 25) rfl ?_ | (refine Ops.k_calla ?_; first | (refine Ops.k_callf 6 ?_; (refine Ops.callG tubes_gen (Evs.cons rfl Evs.nil) (by first | exact pick0 | exact pickS pick0 | exact pickS (pickS pick0) | exact pickS (pickS (pickS pick0)) | exact pickS (pickS (pickS (pickS pick0)))) (by omega) rfl ?_; rintro r ⟨t, rfl, ht⟩)) | (refine Ops.k_callf 7 ?_; (refine Ops.callG amount_gen (Evs.cons rfl Evs.nil) (by first | exact pick0 | exact pickS pick0 | exact pickS (pickS pick0) | exact pickS (pickS (pickS pick0)) | exact pickS (pickS (pickS (pickS pick0)))) (by omega) rfl ?_; rintro r ⟨most, rfl⟩)) | (refine Ops.k_callf 19 ?_; (refine Ops.callG (pick_gen (by repeat' (first | exact IsInts.nil | apply IsInts.cons)) (by simp)) (Evs.cons rfl (Evs.cons rfl Evs.nil)) (by first | exact pick0 | exact pickS pick0 | exact pickS (pickS pick0) | exact pickS (pickS (pickS pick0)) | exact pickS (pickS (pickS (pickS pick0)))) (by omega) rfl ?_; rintro r ⟨step, rfl, hv⟩; clear hv))))
  have hR := reach_fn t most
  have hK := lacking_fn t most step
  have hT := tubesFault_fn t
  have hA := amountFault_fn most
  have c0 := cmpOr_fn [tubesErr t, amtErr most] (by simp)
  obtain ⟨want, f1, f2, f3, f4⟩ := amounts_facts t most step
  rw [f1] at c0
  rw [f2] at hR
  by_cases hw : want = 0
  · obtain ⟨ho, hm, hl⟩ := f4 hw
    clear f3 f4
    have hR1 : (reach1 t most).1 = wins (canK t t.length) (most.toNat + 1) := by
      unfold reach1 at f2 ⊢
      by_cases h0 : tubesErr t ≠ 0
      · rw [if_pos h0] at f2; simp only at f2; omega
      · rw [if_neg h0, if_neg (by omega)]
    rw [hR1] at hR
    obtain ⟨n, rfl⟩ : ∃ n : Nat, most = (n : Int) := ⟨most.toNat, by omega⟩
    have hRO := reachOf_fn t ho n (by omega)
    rw [show ((n : Nat) : Int).toNat = n by omega] at hR
    have hE := equal_win (wins (canK t t.length) (n + 1)) (by have := (wins_last (canK t t.length) (n + 1)).1; omega)
    generalize wins (canK t t.length) (n + 1) = W at *
    clear f1 f2 hR1
    by_cases hs : step < 1 ∨ 20000 < step
    · rw [if_pos hs] at hl
      rw [hl] at hK
      generalize (lack1 t n step).1 = q1 at *
      generalize (lack1 t n step).2.1 = q2 at *
      clear hl
      repeat' (first | refine Ops.nil ?_ | refine Then.norm ?_ | refine Cw.seq ?_ | refine Cw.region ?_ | refine Cw.block ?_ | refine Cw.exit ?_ | refine Cw.skip ?_ | refine Cw.ret ?_ | refine Then.exit ?_ | refine Then.ret ?_ | refine InB.exit ?_ | refine InB.norm ?_ | refine InB.ret ?_ | refine InB.exit_ne rfl ?_ | (refine Ops.k_move ?_; first | refine Ops.move rfl rfl ?_ | refine Ops.move_any rfl ?_) | (refine Ops.k_assign ?_; first | refine Ops.assign rfl rfl ?_ | refine Ops.assign_any rfl ?_) | (refine Ops.k_b_lss ?_; first | refine Ops.lss rfl rfl rfl ?_) | (refine Ops.k_b_eql ?_; first | (refine Ops.val' rfl (OpV.eql_t rfl rfl (by omega)) ?_) | refine Ops.eql rfl rfl rfl ?_) | (refine Ops.k_b_neq ?_; first | (refine Ops.val' rfl (OpV.neq_f rfl rfl (by omega)) ?_) | refine Ops.neq rfl rfl rfl ?_) | (refine Ops.k_b_gtr ?_; first | refine Ops.gtr rfl rfl rfl ?_) | (refine Ops.k_not ?_; first | refine Ops.not_dec rfl rfl ?_ | refine Ops.not rfl rfl ?_) | (refine Ops.k_extract ?_; first | refine Ops.extract rfl rfl rfl ?_) | (refine Ops.k_pick ?_; first | refine Ops.pick_true rfl rfl rfl ?_ | refine Ops.pick_false rfl rfl rfl ?_) | (refine Ops.k_box ?_; first | refine Ops.box rfl rfl (fun b => ?_)) | (refine Ops.k_build ?_; first | (refine Ops.k_build1 ?_; refine Ops.build (by exact Parts.cons rfl rfl rfl (by exact Parts.nil)) rfl ?_) | (refine Ops.k_build2 ?_; refine Ops.build (by exact Parts.cons rfl rfl rfl (by exact Parts.cons rfl rfl rfl (by exact Parts.nil))) rfl ?_) | (refine Ops.k_build7 ?_; refine Ops.build (by exact Parts.cons rfl rfl rfl (by exact Parts.cons rfl rfl rfl (by exact Parts.cons rfl rfl rfl (by exact Parts.cons rfl rfl rfl (by exact Parts.cons rfl rfl rfl (by exact Parts.cons rfl rfl rfl (by exact Parts.cons rfl rfl rfl (by exact Parts.nil)))))))) rfl ?_)) | (refine Ops.k_buildSlice ?_; first | (refine Ops.k_buildSlice1 ?_; refine Ops.buildSlice (by exact Parts.cons rfl rfl rfl (by exact Parts.nil)) rfl rfl rfl ?_) | (refine Ops.k_buildSlice2 ?_; refine Ops.buildSlice (by exact Parts.cons rfl rfl rfl (by exact Parts.cons rfl rfl rfl (by exact Parts.nil))) rfl rfl rfl ?_) | (refine Ops.k_buildSlice7 ?_; refine Ops.buildSlice (by exact Parts.cons rfl rfl rfl (by exact Parts.cons rfl rfl rfl (by exact Parts.cons rfl rfl rfl (by exact Parts.cons rfl rfl rfl (by exact Parts.cons rfl rfl rfl (by exact Parts.cons rfl rfl rfl (by exact Parts.cons rfl rfl rfl (by exact Parts.nil)))))))) rfl rfl rfl ?_)) | (refine Ops.k_guard ?_; first | refine Ops.guard_yes rfl rfl ?_ | refine Ops.guard_no rfl rfl rfl rfl ?_ | refine Ops.guard_no' rfl rfl rfl ?_ | refine Ops.guard_undef rfl rfl rfl ?_ | refine Ops.guard_undef' rfl rfl ?_ | (refine Ops.guard_dec rfl rfl (fun hc => ?_) (fun hc => ?_) <;> try (exfalso; omega)) | refine Ops.guard_split rfl rfl (fun hc => ?_) (fun hc => ?_)) | (refine Cw.k_cond ?_; first | refine Cw.cond_true rfl ?_ | refine Cw.cond_false rfl ?_ | (refine Cw.cond_dec rfl (fun hc => ?_) (fun hc => ?_) <;> try (exfalso; omega)) | refine Cw.cond_bool rfl (fun hc => ?_) (fun hc => ?_)) | (refine Ops.k_calla ?_; first | (refine Ops.k_callf 20 ?_; refine Ops.callV hR (Evs.cons rfl (Evs.cons rfl Evs.nil)) rfl ?_) | (refine Ops.k_callf 21 ?_; refine Ops.callV hK (Evs.cons rfl (Evs.cons rfl (Evs.cons rfl Evs.nil))) rfl ?_) | (refine Ops.k_callf 8 ?_; refine Ops.callV hT (Evs.cons rfl Evs.nil) rfl ?_) | (refine Ops.k_callf 15 ?_; refine Ops.callV hA (Evs.cons rfl Evs.nil) rfl ?_) | (refine Ops.k_callf 22 ?_; refine Ops.callV c0 (Evs.cons rfl Evs.nil) rfl ?_) | (refine Ops.k_callf 24 ?_; refine Ops.callV hRO (Evs.cons rfl (Evs.cons rfl Evs.nil)) rfl ?_) | (refine Ops.k_callf 23 ?_; refine Ops.callV hE (Evs.cons rfl (Evs.cons rfl Evs.nil)) rfl ?_) | (refine Ops.k_callf 13 ?_; refine Ops.callV vends_fn Evs.nil rfl ?_)))
      all_goals (refine Fin.ret Ent.refl (Outs.one rfl rfl) ?_; exact rfl)
    · have hl1 : lack1 t n step = ((lackOf t n step.toNat).1, (lackOf t n step.toNat).2, 0) := by
        have h0 : tubesErr t = 0 := by
          rw [if_neg hs] at hl
          unfold lack1 at hl
          by_cases h0 : tubesErr t = 0
          · exact h0
          · rw [if_pos h0] at hl; exact absurd hl h0
        unfold lack1
        rw [if_neg (by omega), if_neg (by omega), show ((n : Nat) : Int).toNat = n by omega]
      rw [hl1] at hK
      obtain ⟨st, rfl⟩ : ∃ n : Nat, step = (n : Int) := ⟨step.toNat, by omega⟩
      have hLO := lackingOf_fn t ho n st (by omega) (by omega)
      rw [show ((st : Nat) : Int).toNat = st by omega] at hK
      generalize lackOf t n st = z at *
      obtain ⟨q1, q2⟩ := z
      simp only at hK hLO
      clear hl hl1
      cases q2
      all_goals (repeat' (first | refine Ops.nil ?_ | refine Then.norm ?_ | refine Cw.seq ?_ | refine Cw.region ?_ | refine Cw.block ?_ | refine Cw.exit ?_ | refine Cw.skip ?_ | refine Cw.ret ?_ | refine Then.exit ?_ | refine Then.ret ?_ | refine InB.exit ?_ | refine InB.norm ?_ | refine InB.ret ?_ | refine InB.exit_ne rfl ?_ | (refine Ops.k_move ?_; first | refine Ops.move rfl rfl ?_ | refine Ops.move_any rfl ?_) | (refine Ops.k_assign ?_; first | refine Ops.assign rfl rfl ?_ | refine Ops.assign_any rfl ?_) | (refine Ops.k_b_lss ?_; first | refine Ops.lss rfl rfl rfl ?_) | (refine Ops.k_b_eql ?_; first | (refine Ops.val' rfl (OpV.eql_t rfl rfl (by omega)) ?_) | (refine Ops.val' rfl (OpV.eqb rfl rfl) ?_) | refine Ops.eql rfl rfl rfl ?_) | (refine Ops.k_b_neq ?_; first | (refine Ops.val' rfl (OpV.neq_f rfl rfl (by omega)) ?_) | refine Ops.neq rfl rfl rfl ?_) | (refine Ops.k_b_gtr ?_; first | refine Ops.gtr rfl rfl rfl ?_) | (refine Ops.k_not ?_; first | refine Ops.not_dec rfl rfl ?_ | refine Ops.not rfl rfl ?_) | (refine Ops.k_extract ?_; first | refine Ops.extract rfl rfl rfl ?_) | (refine Ops.k_pick ?_; first | refine Ops.pick_true rfl rfl rfl ?_ | refine Ops.pick_false rfl rfl rfl ?_) | (refine Ops.k_box ?_; first | refine Ops.box rfl rfl (fun b => ?_)) | (refine Ops.k_build ?_; first | (refine Ops.k_build1 ?_; refine Ops.build (by exact Parts.cons rfl rfl rfl (by exact Parts.nil)) rfl ?_) | (refine Ops.k_build2 ?_; refine Ops.build (by exact Parts.cons rfl rfl rfl (by exact Parts.cons rfl rfl rfl (by exact Parts.nil))) rfl ?_) | (refine Ops.k_build7 ?_; refine Ops.build (by exact Parts.cons rfl rfl rfl (by exact Parts.cons rfl rfl rfl (by exact Parts.cons rfl rfl rfl (by exact Parts.cons rfl rfl rfl (by exact Parts.cons rfl rfl rfl (by exact Parts.cons rfl rfl rfl (by exact Parts.cons rfl rfl rfl (by exact Parts.nil)))))))) rfl ?_)) | (refine Ops.k_buildSlice ?_; first | (refine Ops.k_buildSlice1 ?_; refine Ops.buildSlice (by exact Parts.cons rfl rfl rfl (by exact Parts.nil)) rfl rfl rfl ?_) | (refine Ops.k_buildSlice2 ?_; refine Ops.buildSlice (by exact Parts.cons rfl rfl rfl (by exact Parts.cons rfl rfl rfl (by exact Parts.nil))) rfl rfl rfl ?_) | (refine Ops.k_buildSlice7 ?_; refine Ops.buildSlice (by exact Parts.cons rfl rfl rfl (by exact Parts.cons rfl rfl rfl (by exact Parts.cons rfl rfl rfl (by exact Parts.cons rfl rfl rfl (by exact Parts.cons rfl rfl rfl (by exact Parts.cons rfl rfl rfl (by exact Parts.cons rfl rfl rfl (by exact Parts.nil)))))))) rfl rfl rfl ?_)) | (refine Ops.k_guard ?_; first | refine Ops.guard_yes rfl rfl ?_ | refine Ops.guard_no rfl rfl rfl rfl ?_ | refine Ops.guard_no' rfl rfl rfl ?_ | refine Ops.guard_undef rfl rfl rfl ?_ | refine Ops.guard_undef' rfl rfl ?_ | (refine Ops.guard_dec rfl rfl (fun hc => ?_) (fun hc => ?_) <;> try (exfalso; omega)) | refine Ops.guard_split rfl rfl (fun hc => ?_) (fun hc => ?_)) | (refine Cw.k_cond ?_; first | refine Cw.cond_true rfl ?_ | refine Cw.cond_false rfl ?_ | (refine Cw.cond_dec rfl (fun hc => ?_) (fun hc => ?_) <;> try (exfalso; omega)) | refine Cw.cond_bool rfl (fun hc => ?_) (fun hc => ?_)) | (refine Ops.k_calla ?_; first | (refine Ops.k_callf 20 ?_; refine Ops.callV hR (Evs.cons rfl (Evs.cons rfl Evs.nil)) rfl ?_) | (refine Ops.k_callf 21 ?_; refine Ops.callV hK (Evs.cons rfl (Evs.cons rfl (Evs.cons rfl Evs.nil))) rfl ?_) | (refine Ops.k_callf 8 ?_; refine Ops.callV hT (Evs.cons rfl Evs.nil) rfl ?_) | (refine Ops.k_callf 15 ?_; refine Ops.callV hA (Evs.cons rfl Evs.nil) rfl ?_) | (refine Ops.k_callf 22 ?_; refine Ops.callV c0 (Evs.cons rfl Evs.nil) rfl ?_) | (refine Ops.k_callf 24 ?_; refine Ops.callV hRO (Evs.cons rfl (Evs.cons rfl Evs.nil)) rfl ?_) | (refine Ops.k_callf 23 ?_; refine Ops.callV hE (Evs.cons rfl (Evs.cons rfl Evs.nil)) rfl ?_) | (refine Ops.k_callf 25 ?_; refine Ops.callV hLO (Evs.cons rfl (Evs.cons rfl (Evs.cons rfl Evs.nil))) rfl ?_) | (refine Ops.k_callf 13 ?_; refine Ops.callV vends_fn Evs.nil rfl ?_))))
      all_goals (refine Fin.ret Ent.refl (Outs.one rfl rfl) ?_; exact rfl)
  · have hl := f3 hw
    rw [hl] at hK
    generalize (lack1 t most step).1 = q1 at *
    generalize (lack1 t most step).2.1 = q2 at *
    generalize (reach1 t most).1 = W at *
    clear hl f1 f2 f3 f4
    repeat' (first | refine Ops.nil ?_ | refine Then.norm ?_ | refine Cw.seq ?_ | refine Cw.region ?_ | refine Cw.block ?_ | refine Cw.exit ?_ | refine Cw.skip ?_ | refine Cw.ret ?_ | refine Then.exit ?_ | refine Then.ret ?_ | refine InB.exit ?_ | refine InB.norm ?_ | refine InB.ret ?_ | refine InB.exit_ne rfl ?_ | (refine Ops.k_move ?_; first | refine Ops.move rfl rfl ?_ | refine Ops.move_any rfl ?_) | (refine Ops.k_assign ?_; first | refine Ops.assign rfl rfl ?_ | refine Ops.assign_any rfl ?_) | (refine Ops.k_b_lss ?_; first | refine Ops.lss rfl rfl rfl ?_) | (refine Ops.k_b_eql ?_; first | (refine Ops.val' rfl (OpV.eql_f rfl rfl (by omega)) ?_) | refine Ops.eql rfl rfl rfl ?_) | (refine Ops.k_b_neq ?_; first | (refine Ops.val' rfl (OpV.neq_f rfl rfl (by omega)) ?_) | refine Ops.neq rfl rfl rfl ?_) | (refine Ops.k_b_gtr ?_; first | refine Ops.gtr rfl rfl rfl ?_) | (refine Ops.k_not ?_; first | refine Ops.not_dec rfl rfl ?_ | refine Ops.not rfl rfl ?_) | (refine Ops.k_extract ?_; first | refine Ops.extract rfl rfl rfl ?_) | (refine Ops.k_pick ?_; first | refine Ops.pick_true rfl rfl rfl ?_ | refine Ops.pick_false rfl rfl rfl ?_) | (refine Ops.k_box ?_; first | refine Ops.box rfl rfl (fun b => ?_)) | (refine Ops.k_build ?_; first | (refine Ops.k_build1 ?_; refine Ops.build (by exact Parts.cons rfl rfl rfl (by exact Parts.nil)) rfl ?_) | (refine Ops.k_build2 ?_; refine Ops.build (by exact Parts.cons rfl rfl rfl (by exact Parts.cons rfl rfl rfl (by exact Parts.nil))) rfl ?_) | (refine Ops.k_build7 ?_; refine Ops.build (by exact Parts.cons rfl rfl rfl (by exact Parts.cons rfl rfl rfl (by exact Parts.cons rfl rfl rfl (by exact Parts.cons rfl rfl rfl (by exact Parts.cons rfl rfl rfl (by exact Parts.cons rfl rfl rfl (by exact Parts.cons rfl rfl rfl (by exact Parts.nil)))))))) rfl ?_)) | (refine Ops.k_buildSlice ?_; first | (refine Ops.k_buildSlice1 ?_; refine Ops.buildSlice (by exact Parts.cons rfl rfl rfl (by exact Parts.nil)) rfl rfl rfl ?_) | (refine Ops.k_buildSlice2 ?_; refine Ops.buildSlice (by exact Parts.cons rfl rfl rfl (by exact Parts.cons rfl rfl rfl (by exact Parts.nil))) rfl rfl rfl ?_) | (refine Ops.k_buildSlice7 ?_; refine Ops.buildSlice (by exact Parts.cons rfl rfl rfl (by exact Parts.cons rfl rfl rfl (by exact Parts.cons rfl rfl rfl (by exact Parts.cons rfl rfl rfl (by exact Parts.cons rfl rfl rfl (by exact Parts.cons rfl rfl rfl (by exact Parts.cons rfl rfl rfl (by exact Parts.nil)))))))) rfl rfl rfl ?_)) | (refine Ops.k_guard ?_; first | refine Ops.guard_yes rfl rfl ?_ | refine Ops.guard_no rfl rfl rfl rfl ?_ | refine Ops.guard_no' rfl rfl rfl ?_ | refine Ops.guard_undef rfl rfl rfl ?_ | refine Ops.guard_undef' rfl rfl ?_ | (refine Ops.guard_dec rfl rfl (fun hc => ?_) (fun hc => ?_) <;> try (exfalso; omega)) | refine Ops.guard_split rfl rfl (fun hc => ?_) (fun hc => ?_)) | (refine Cw.k_cond ?_; first | refine Cw.cond_true rfl ?_ | refine Cw.cond_false rfl ?_ | (refine Cw.cond_dec rfl (fun hc => ?_) (fun hc => ?_) <;> try (exfalso; omega)) | refine Cw.cond_bool rfl (fun hc => ?_) (fun hc => ?_)) | (refine Ops.k_calla ?_; first | (refine Ops.k_callf 20 ?_; refine Ops.callV hR (Evs.cons rfl (Evs.cons rfl Evs.nil)) rfl ?_) | (refine Ops.k_callf 21 ?_; refine Ops.callV hK (Evs.cons rfl (Evs.cons rfl (Evs.cons rfl Evs.nil))) rfl ?_) | (refine Ops.k_callf 8 ?_; refine Ops.callV hT (Evs.cons rfl Evs.nil) rfl ?_) | (refine Ops.k_callf 15 ?_; refine Ops.callV hA (Evs.cons rfl Evs.nil) rfl ?_) | (refine Ops.k_callf 22 ?_; refine Ops.callV c0 (Evs.cons rfl Evs.nil) rfl ?_) | (refine Ops.k_callf 13 ?_; refine Ops.callV vends_fn Evs.nil rfl ?_)))
    all_goals (refine Fin.ret Ent.refl (Outs.one rfl rfl) ?_; exact rfl)
end Lg
