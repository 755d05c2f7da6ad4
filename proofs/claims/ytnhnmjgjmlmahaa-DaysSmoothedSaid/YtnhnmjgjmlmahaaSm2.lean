/- A part of the proof of a law of this seat: it adds no condition. By an AI agent. -/
import Derived.Test.YtnhnmjgjmlmahaaDem10
set_option linter.all false
set_option maxRecDepth 100000
set_option maxHeartbeats 2000000
namespace Lg
open Go Go.Proofs

theorem ediv_of {a b q : Int} (hb : 0 < b) (h1 : q * b ≤ a) (h2 : a < (q + 1) * b) : a / b = q := by
  have k1 := (Int.le_ediv_iff_mul_le (a := q) (b := a) hb).2 h1
  have k2 := (Int.ediv_lt_iff_lt_mul (a := a) (b := q + 1) hb).2 h2
  omega

theorem tdiv_facts {a b : Int} (hb : 1 ≤ b) : ∃ q r, a.tdiv b = q ∧ a.tmod b = r ∧ a = q * b + r ∧ -b < r ∧ r < b ∧ (0 ≤ a → 0 ≤ r) ∧ (a ≤ 0 → r ≤ 0) ∧ (r < 0 → a / b = q - 1) ∧ (0 ≤ r → a / b = q) := by
  have h1 := Int.tmod_add_mul_tdiv a b
  have h2 := tmod_range a b hb
  have h3 : 0 ≤ a → 0 ≤ a.tmod b := fun h => Int.tmod_nonneg b h
  have h4 : a ≤ 0 → a.tmod b ≤ 0 := fun h => by
    have := Int.tmod_nonneg b (a := -a) (by omega)
    rw [Int.neg_tmod] at this
    omega
  rw [Int.mul_comm] at h1
  generalize a.tdiv b = q at *
  generalize a.tmod b = r at *
  refine ⟨q, r, rfl, rfl, by omega, h2.1, h2.2, h3, h4, fun hr => ?_, fun hr => ?_⟩
  · refine ediv_of (by omega) ?_ ?_
    · rw [Int.sub_mul]; omega
    · rw [show q - 1 + 1 = q by omega]; omega
  · refine ediv_of (by omega) (by omega) ?_
    rw [Int.add_mul]; omega

theorem down_fn (a b : Int) (ha : -1000000000000000 ≤ a ∧ a ≤ 1000000000000000) (hb : 1 ≤ b ∧ b ≤ 1000000000000) : PFn Try.prog 70 [.int a, .int b] (· = .int (a / b)) := by
  obtain ⟨q, r, e1, e2, h1, h2, h3, h4, h5, h6, h7⟩ := tdiv_facts (a := a) hb.1
  refine PFn.mk (Spec.body Try.func70 rfl rfl (Try.ntmps70) rfl fun w0 own0 M => ?_)
  have hqb : -1000000000000000 ≤ q ∧ q ≤ 1000000000000000 := by
    rcases Int.lt_or_le q 0 with h | h
    · have := Int.mul_le_mul_of_nonpos_left (show q ≤ 0 by omega) hb.1
      omega
    · have := Int.mul_le_mul_of_nonneg_left hb.1 h
      omega
  repeat' (first | refine Ops.nil ?_ | refine Then.norm ?_ | refine Cw.seq ?_ | refine Cw.region ?_ | refine Cw.block ?_ | refine Cw.exit ?_ | refine Cw.skip ?_ | refine Cw.ret ?_ | refine Then.exit ?_ | refine Then.ret ?_ | refine InB.exit ?_ | refine InB.norm ?_ | refine InB.ret ?_ | refine InB.exit_ne rfl ?_ | (refine Ops.k_move ?_; first | refine Ops.move rfl rfl ?_ | refine Ops.move_any rfl ?_) | (refine Ops.k_assign ?_; first | refine Ops.assign rfl rfl ?_ | refine Ops.assign_any rfl ?_) | (refine Ops.k_b_lss ?_; first | refine Ops.lss rfl rfl rfl ?_) | (refine Ops.k_b_sub ?_; first | refine Ops.sub rfl rfl (by omega) rfl ?_) | (refine Ops.k_b_quo ?_; first | refine Ops.quoT rfl rfl (by omega) rfl ?_ | refine Ops.quo rfl rfl (by omega) rfl ?_ | refine Ops.quoT rfl rfl (by omega) rfl ?_) | (refine Ops.k_b_rem ?_; first | refine Ops.remT rfl rfl (by omega) rfl ?_ | refine Ops.rem rfl rfl (by omega) rfl ?_ | refine Ops.remT rfl rfl (by omega) rfl ?_) | (refine Cw.k_cond ?_; first | refine Cw.cond_true rfl ?_ | refine Cw.cond_false rfl ?_ | (refine Cw.cond_dec rfl (fun hc => ?_) (fun hc => ?_) <;> try (exfalso; omega)) | refine Cw.cond_bool rfl (fun hc => ?_) (fun hc => ?_)))
  all_goals (refine Fin.ret Ent.refl (Outs.one rfl rfl) ⟨rfl, congrArg Tr.int ?_⟩)
  all_goals omega

theorem refDown_fn (a b : Int) (ha : -1000000000000000 ≤ a ∧ a ≤ 1000000000000000) (hb : 1 ≤ b ∧ b ≤ 1000000000000) : PFn Try.prog 75 [.int a, .int b] (· = .int (a / b)) := by
  obtain ⟨q, r, e1, e2, h1, h2, h3, h4, h5, h6, h7⟩ := tdiv_facts (a := a) hb.1
  refine PFn.mk (Spec.body Try.func75 rfl rfl (Try.ntmps75) rfl fun w0 own0 M => ?_)
  have hqb : -1000000000000000 ≤ q ∧ q ≤ 1000000000000000 := by
    rcases Int.lt_or_le q 0 with h | h
    · have := Int.mul_le_mul_of_nonpos_left (show q ≤ 0 by omega) hb.1
      omega
    · have := Int.mul_le_mul_of_nonneg_left hb.1 h
      omega
  have hm : -9223372036854775808 ≤ q * b ∧ q * b ≤ 9223372036854775807 := by omega
  rw [← e1] at hm h1 hqb h6 h7
  repeat' (first | refine Ops.nil ?_ | refine Then.norm ?_ | refine Cw.seq ?_ | refine Cw.region ?_ | refine Cw.block ?_ | refine Cw.exit ?_ | refine Cw.skip ?_ | refine Cw.ret ?_ | refine Then.exit ?_ | refine Then.ret ?_ | refine InB.exit ?_ | refine InB.norm ?_ | refine InB.ret ?_ | refine InB.exit_ne rfl ?_ | (refine Ops.k_move ?_; first | refine Ops.move rfl rfl ?_ | refine Ops.move_any rfl ?_) | (refine Ops.k_assign ?_; first | refine Ops.assign rfl rfl ?_ | refine Ops.assign_any rfl ?_) | (refine Ops.k_b_gtr ?_; first | refine Ops.gtr rfl rfl rfl ?_) | (refine Ops.k_b_sub ?_; first | refine Ops.sub rfl rfl (by omega) rfl ?_) | (refine Ops.k_b_mul ?_; first | refine Ops.mul rfl rfl (by assumption) rfl ?_ | refine Ops.mul rfl rfl (by first | omega | assumption) rfl ?_) | (refine Ops.k_b_quo ?_; first | refine Ops.quoT rfl rfl (by omega) rfl ?_ | refine Ops.quo rfl rfl (by omega) rfl ?_ | refine Ops.quoT rfl rfl (by omega) rfl ?_) | (refine Cw.k_cond ?_; first | refine Cw.cond_true rfl ?_ | refine Cw.cond_false rfl ?_ | (refine Cw.cond_dec rfl (fun hc => ?_) (fun hc => ?_) <;> try (exfalso; omega)) | refine Cw.cond_bool rfl (fun hc => ?_) (fun hc => ?_)))
  all_goals (refine Fin.ret Ent.refl (Outs.one rfl rfl) ⟨rfl, congrArg Tr.int ?_⟩)
  all_goals omega
end Lg
