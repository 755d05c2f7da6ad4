/- A part of the proof of a law of this seat: it adds no condition. By an AI agent. -/
import Derived.Test.YtoedknjnkeeohaaPSort
import Derived.Test.YtoedknjnkeeohaaTypes
section
set_option linter.all false
set_option maxRecDepth 100000
set_option maxHeartbeats 1000000
namespace Lg
open Go Go.Proofs

theorem tmod_range (x n : Int) (hn : 1 ≤ n) : -n < x.tmod n ∧ x.tmod n < n := by
  rw [tmod_eq_if]
  have h1 := Int.emod_nonneg x (show n ≠ 0 by omega)
  have h2 := Int.emod_lt_of_pos x (show 0 < n by omega)
  have h3 := Int.emod_nonneg (-x) (show n ≠ 0 by omega)
  have h4 := Int.emod_lt_of_pos (-x) (show 0 < n by omega)
  split <;> omega

/-- a number of a range, or 0 -/
def InRange (n v : Int) : Prop := 0 ≤ v ∧ (v < n ∨ v = 0)

theorem below_fn (x n : Int) (hn : -9223372036854775808 ≤ n ∧ n ≤ 9223372036854775807) : PFn Try.prog 58 [.int x, .int n] (fun r => ∃ v, r = .int v ∧ InRange n v) := by
  refine PFn.mk (Spec.body Try.func58 rfl rfl (Try.ntmps58) rfl fun w0 own0 M => ?_)
  by_cases h1 : n < 1
  · repeat' (first | refine Ops.nil ?_ | refine Then.norm ?_ | refine Cw.seq ?_ | refine Cw.region ?_ | refine Cw.block ?_ | refine Cw.exit ?_ | refine Cw.skip ?_ | refine Cw.ret ?_ | refine Then.exit ?_ | refine Then.ret ?_ | refine InB.exit ?_ | refine InB.norm ?_ | refine InB.ret ?_ | refine InB.exit_ne rfl ?_ | (refine Ops.k_move ?_; first | refine Ops.move rfl rfl ?_ | refine Ops.move_any rfl ?_) | (refine Ops.k_assign ?_; first | refine Ops.assign rfl rfl ?_ | refine Ops.assign_any rfl ?_) | (refine Ops.k_b_lss ?_; first | refine Ops.lss rfl rfl rfl ?_) | (refine Ops.k_b_add ?_; first | refine Ops.add rfl rfl (by first | omega | (simp; done) | (simp; omega)) rfl ?_) | (refine Ops.k_b_rem ?_; first | refine Ops.rem rfl rfl (by omega) rfl ?_ | refine Ops.remT rfl rfl (by omega) rfl ?_) | (refine Cw.k_cond ?_; first | refine Cw.cond_true rfl ?_ | refine Cw.cond_false rfl ?_ | (refine Cw.cond_dec rfl (fun hc => ?_) (fun hc => ?_) <;> try (exfalso; omega)) | refine Cw.cond_bool rfl (fun hc => ?_) (fun hc => ?_)))
    refine Fin.ret Ent.refl (Outs.one rfl rfl) ⟨rfl, 0, rfl, ?_⟩
    exact ⟨Int.le_refl _, .inr rfl⟩
  · have ht := tmod_range x n (by omega)
    repeat' (first | refine Ops.nil ?_ | refine Then.norm ?_ | refine Cw.seq ?_ | refine Cw.region ?_ | refine Cw.block ?_ | refine Cw.exit ?_ | refine Cw.skip ?_ | refine Cw.ret ?_ | refine Then.exit ?_ | refine Then.ret ?_ | refine InB.exit ?_ | refine InB.norm ?_ | refine InB.ret ?_ | refine InB.exit_ne rfl ?_ | (refine Ops.k_move ?_; first | refine Ops.move rfl rfl ?_ | refine Ops.move_any rfl ?_) | (refine Ops.k_assign ?_; first | refine Ops.assign rfl rfl ?_ | refine Ops.assign_any rfl ?_) | (refine Ops.k_b_lss ?_; first | refine Ops.lss rfl rfl rfl ?_) | (refine Ops.k_b_add ?_; first | refine Ops.add rfl rfl (by first | omega | (simp; done) | (simp; omega)) rfl ?_) | (refine Ops.k_b_rem ?_; first | refine Ops.rem rfl rfl (by omega) rfl ?_ | refine Ops.remT rfl rfl (by omega) rfl ?_) | (refine Cw.k_cond ?_; first | refine Cw.cond_true rfl ?_ | refine Cw.cond_false rfl ?_ | (refine Cw.cond_dec rfl (fun hc => ?_) (fun hc => ?_) <;> try (exfalso; omega)) | refine Cw.cond_bool rfl (fun hc => ?_) (fun hc => ?_)))
    all_goals (refine Fin.ret Ent.refl (Outs.one rfl rfl) ⟨rfl, _, rfl, ?_⟩; unfold InRange; omega)

/-- the Stream's own Next -/
theorem next_gen (n : Int) (hn : -9223372036854775808 ≤ n ∧ n ≤ 9223372036854775807) :
    Gen Try.prog 25 27 [.int n] 1 (fun r => ∃ v, r = .int v ∧ InRange n v) := by
  unfold Gen
  intro b xs N hN
  refine Spec.body Try.func27 rfl rfl (Try.ntmps27) rfl fun w0 own0 M => ?_
  refine Cw.open_strm fun m hm => ?_
  by_cases h0 : (intRows xs).length = 0
  · repeat' (first | refine Ops.nil ?_ | refine Then.norm ?_ | refine Cw.seq ?_ | refine Cw.region ?_ | refine Cw.block ?_ | refine Cw.exit ?_ | refine Cw.skip ?_ | refine Cw.ret ?_ | refine Then.exit ?_ | refine Then.ret ?_ | refine InB.exit ?_ | refine InB.norm ?_ | refine InB.ret ?_ | refine InB.exit_ne rfl ?_ | (refine Ops.k_move ?_; first | refine Ops.move rfl rfl ?_ | refine Ops.move_any rfl ?_) | (refine Ops.k_assign ?_; first | refine Ops.assign rfl rfl ?_ | refine Ops.assign_any rfl ?_) | (refine Ops.k_load ?_; first | refine Ops.load_ref_one rfl rfl ?_ | refine Ops.load_ref_agg rfl rfl rfl ?_ | refine Ops.load_box_one rfl goPk rfl rfl ?_ | refine Ops.load_box_agg rfl goPk rfl rfl ?_ | refine Ops.load_own_one rfl goPk (by first | rfl | assumption | (simp [*]; done)) rfl rfl ?_ | refine Ops.load_own_agg rfl goPk (by first | rfl | assumption | (simp [*]; done)) rfl ?_ | refine Ops.load_box_part rfl goPk rfl rfl rfl ?_ | refine Ops.load_q_one rfl goPk (by first | rfl | assumption | (simp [*]; done)) rfl rfl ?_) | (refine Ops.k_store ?_; first | refine Ops.store_box rfl rfl goPk rfl rfl ?_ | refine Ops.store_own1 rfl rfl goPk (by first | rfl | assumption | (simp [*]; done)) (by decide) ?_ | refine Ops.store_own_all rfl rfl goPk (by first | assumption | omega | (simp; omega) | (simp [*]; done)) rfl ?_) | (refine Ops.k_c_len ?_; first | refine Ops.len_raw rfl rfl ?_ | refine Ops.len_sl rfl rfl ?_ | refine Ops.len_str rfl rfl rfl ?_ | refine Ops.len_q rfl rfl ?_) | (refine Ops.k_b_eql ?_; first | refine Ops.eql rfl rfl rfl ?_) | (refine Ops.k_b_add ?_; first | refine Ops.add rfl rfl (by first | omega | (simp; done) | (simp; omega)) rfl ?_) | (refine Ops.k_b_sub ?_; first | refine Ops.sub rfl rfl (by first | omega | (simp; done) | (simp; omega)) rfl ?_) | (refine Ops.k_b_mul ?_; first | refine Ops.mul rfl rfl (by first | omega | assumption) rfl ?_) | (refine Ops.k_b_quo ?_; first | refine Ops.quo rfl rfl (by omega) rfl ?_ | refine Ops.quoT rfl rfl (by omega) rfl ?_) | (refine Ops.k_b_rem ?_; first | refine Ops.rem rfl rfl (by omega) rfl ?_ | refine Ops.remT rfl rfl (by omega) rfl ?_) | (refine Ops.k_nilCheck ?_; first | refine Ops.nilCheck_raw rfl rfl ?_ | refine Ops.nilCheck_ref rfl rfl ?_) | (refine Ops.k_fieldAddr ?_; first | refine Ops.fieldAddr_raw rfl rfl ?_ | refine Ops.fieldAddr_ref rfl rfl ?_ | refine Ops.fieldAddr_eptr rfl rfl ?_) | (refine Ops.k_indexAddr ?_; first | refine Ops.indexAddr_sl rfl rfl (by omega) (by first | rfl | assumption | (simp [*]; done)) rfl ?_ | refine Ops.indexAddr_own rfl rfl goPk (by first | rfl | omega | (simp; done) | (simp; omega)) (by first | omega | (simp; done) | (simp; omega)) (by first | omega | (simp; done) | (simp; omega)) rfl ?_ | refine Ops.indexAddr_q rfl rfl goPk (by first | rfl | omega | (simp; done) | (simp; omega)) (by first | omega | (simp; done) | (simp; omega)) (by first | omega | (simp; done) | (simp; omega)) rfl ?_) | (refine Cw.k_cond ?_; first | refine Cw.cond_true rfl ?_ | refine Cw.cond_false rfl ?_ | (refine Cw.cond_dec rfl (fun hc => ?_) (fun hc => ?_) <;> try (exfalso; omega)) | refine Cw.cond_bool rfl (fun hc => ?_) (fun hc => ?_)) | (refine Ops.k_calla ?_; first | (refine Ops.k_callf 58 ?_; (refine Ops.callF (below_fn _ _ (by omega)) (Evs.cons rfl (Evs.cons rfl Evs.nil)) rfl ?_; rintro r ⟨v, rfl, hv⟩))) | (refine Cw.k_draw ?_; first | refine Cw.region_seqC rfl (by decide +kernel) rfl ?_ | refine Cw.region_seq rfl (by decide +kernel) rfl ?_) | refine PSeq.nil ?_ | apply PSeq.cons | apply PSeq.yes rfl rfl rfl | refine PSeq.no rfl rfl rfl ?_ | refine PSeq.pass rfl rfl rfl ?_ | (apply OpV.w; apply OpV.k_move; first | exact OpV.move rfl) | (apply OpV.w; apply OpV.k_assign; first | exact OpV.assign rfl) | (apply OpV.w; apply OpV.k_load; first | exact OpV.load_ref_one rfl | exact OpV.load_ref_agg rfl rfl | exact OpV.load_box_one rfl goPk rfl | exact OpV.load_box_agg rfl goPk (by rfl) | exact OpV.load_box_part rfl goPk (by rfl) (by rfl) | exact OpV.load_own_agg rfl goPk (by first | rfl | assumption | (simp [*]; done)) | exact OpV.load_own_one rfl goPk (by first | rfl | assumption | (simp [*]; done)) rfl | exact OpV.load_q_one rfl goPk (by first | rfl | assumption | (simp [*]; done)) rfl) | (apply OpV.w; apply OpV.k_c_len; first | exact OpV.len_raw rfl | exact OpV.len_sl rfl | exact OpV.len_str rfl rfl) | (apply OpV.w; apply OpV.k_b_eql; first | exact OpV.eql_t rfl rfl (by omega) | exact OpV.eql_f rfl rfl (by omega) | exact OpV.eql rfl rfl) | (apply OpV.w; apply OpV.k_b_add; first | exact OpV.add rfl rfl (by first | omega | (simp; done) | (simp; omega))) | (apply OpV.w; apply OpV.k_b_sub; first | exact OpV.sub rfl rfl (by first | omega | (simp; done) | (simp; omega))) | (apply OpV.w; apply OpV.k_b_mul; first | exact OpV.mul rfl rfl (by first | omega | assumption)) | (apply OpV.w; apply OpV.k_b_quo; first | exact OpV.quo rfl rfl (by omega) | exact OpV.quoT rfl rfl (by omega)) | (apply OpV.w; apply OpV.k_b_rem; first | exact OpV.rem rfl rfl (by omega) | exact OpV.remT rfl rfl (by omega)) | (apply OpV.w; apply OpV.k_nilCheck; first | exact OpV.nilCheck_raw rfl | exact OpV.nilCheck_ref rfl) | (apply OpV.w; apply OpV.k_fieldAddr; first | exact OpV.fieldAddr_raw rfl | exact OpV.fieldAddr_ref rfl | exact OpV.fieldAddr_eptr rfl) | (apply OpV.w; apply OpV.k_indexAddr; first | exact OpV.indexAddr_sl rfl rfl (by omega) (by first | rfl | assumption | (simp [*]; done)) | exact OpV.indexAddr_own rfl rfl goPk (by first | rfl | omega | (simp; done) | (simp; omega)) (by first | omega | (simp; done) | (simp; omega)) (by first | omega | (simp; done) | (simp; omega)) | exact OpV.indexAddr_q rfl rfl goPk (by first | rfl | omega | (simp; done) | (simp; omega)) (by first | omega | (simp; done) | (simp; omega)) (by first | omega | (simp; done) | (simp; omega))))
    refine Fin.ret (Ent.shut_strm (m := m + 1) (n := N + 1) (by omega)) (Outs.one rfl rfl) ⟨rfl, v, rfl, hv⟩
  · have hlt : ((↑m + 1 - 1) % ↑(intRows xs).length : Int).toNat < (intRows xs).length := by
      have h1 := Int.emod_nonneg ((m : Int) + 1 - 1) (show ((intRows xs).length : Int) ≠ 0 by omega)
      have h2 := Int.emod_lt_of_pos ((m : Int) + 1 - 1) (show 0 < ((intRows xs).length : Int) by omega)
      omega
    obtain ⟨y, hy⟩ : ∃ y, (intRows xs)[((↑m + 1 - 1) % ↑(intRows xs).length : Int).toNat]? = some [Tr.int y] := by
      have hlt' := hlt
      generalize ((↑m + 1 - 1) % ↑(intRows xs).length : Int).toNat = j at hlt'
      rw [intRows_len] at hlt'
      exact ⟨xs[j], by simp [intRows, hlt']⟩
    have hi0 := Int.emod_nonneg ((m : Int) + 1 - 1) (show ((intRows xs).length : Int) ≠ 0 by omega)
    repeat' (first | refine Ops.nil ?_ | refine Then.norm ?_ | refine Cw.seq ?_ | refine Cw.region ?_ | refine Cw.block ?_ | refine Cw.exit ?_ | refine Cw.skip ?_ | refine Cw.ret ?_ | refine Then.exit ?_ | refine Then.ret ?_ | refine InB.exit ?_ | refine InB.norm ?_ | refine InB.ret ?_ | refine InB.exit_ne rfl ?_ | (refine Ops.k_move ?_; first | refine Ops.move rfl rfl ?_ | refine Ops.move_any rfl ?_) | (refine Ops.k_assign ?_; first | refine Ops.assign rfl rfl ?_ | refine Ops.assign_any rfl ?_) | (refine Ops.k_load ?_; first | refine Ops.load_ref_one rfl rfl ?_ | refine Ops.load_ref_agg rfl rfl rfl ?_ | refine Ops.load_box_one rfl goPk rfl rfl ?_ | refine Ops.load_box_agg rfl goPk rfl rfl ?_ | refine Ops.load_own_one rfl goPk (by first | rfl | assumption | (simp [*]; done)) rfl rfl ?_ | refine Ops.load_own_agg rfl goPk (by first | rfl | assumption | (simp [*]; done)) rfl ?_ | refine Ops.load_box_part rfl goPk rfl rfl rfl ?_ | refine Ops.load_q_one rfl goPk (by first | rfl | assumption | (simp [*]; done)) rfl rfl ?_) | (refine Ops.k_store ?_; first | refine Ops.store_box rfl rfl goPk rfl rfl ?_ | refine Ops.store_own1 rfl rfl goPk (by first | rfl | assumption | (simp [*]; done)) (by decide) ?_ | refine Ops.store_own_all rfl rfl goPk (by first | assumption | omega | (simp; omega) | (simp [*]; done)) rfl ?_) | (refine Ops.k_c_len ?_; first | refine Ops.len_raw rfl rfl ?_ | refine Ops.len_sl rfl rfl ?_ | refine Ops.len_str rfl rfl rfl ?_ | refine Ops.len_q rfl rfl ?_) | (refine Ops.k_b_eql ?_; first | refine Ops.eql rfl rfl rfl ?_) | (refine Ops.k_b_add ?_; first | refine Ops.add rfl rfl (by first | omega | (simp; done) | (simp; omega)) rfl ?_ | refine Ops.addW rfl rfl rfl ?_) | (refine Ops.k_b_sub ?_; first | refine Ops.sub rfl rfl (by first | omega | (simp; done) | (simp; omega)) rfl ?_) | (refine Ops.k_b_mul ?_; first | refine Ops.mul rfl rfl (by first | omega | assumption) rfl ?_ | refine Ops.mulW rfl rfl rfl ?_) | (refine Ops.k_b_quo ?_; first | refine Ops.quo rfl rfl (by omega) rfl ?_ | refine Ops.quoT rfl rfl (by omega) rfl ?_) | (refine Ops.k_b_rem ?_; first | refine Ops.rem rfl rfl (by omega) rfl ?_ | refine Ops.remT rfl rfl (by omega) rfl ?_) | (refine Ops.k_nilCheck ?_; first | refine Ops.nilCheck_raw rfl rfl ?_ | refine Ops.nilCheck_ref rfl rfl ?_) | (refine Ops.k_fieldAddr ?_; first | refine Ops.fieldAddr_raw rfl rfl ?_ | refine Ops.fieldAddr_ref rfl rfl ?_ | refine Ops.fieldAddr_eptr rfl rfl ?_) | (refine Ops.k_indexAddr ?_; first | refine Ops.indexAddr_sl rfl rfl (by omega) (by first | rfl | assumption | (simp [*]; done)) rfl ?_ | refine Ops.indexAddr_own rfl rfl goPk (by first | rfl | omega | (simp; done) | (simp; omega)) (by first | omega | (simp; done) | (simp; omega)) (by first | omega | (simp; done) | (simp; omega)) rfl ?_ | refine Ops.indexAddr_q rfl rfl goPk (by first | rfl | omega | (simp; done) | (simp; omega)) (by first | omega | (simp; done) | (simp; omega)) (by first | omega | (simp; done) | (simp; omega)) rfl ?_) | (refine Cw.k_cond ?_; first | refine Cw.cond_true rfl ?_ | refine Cw.cond_false rfl ?_ | (refine Cw.cond_dec rfl (fun hc => ?_) (fun hc => ?_) <;> try (exfalso; omega)) | refine Cw.cond_bool rfl (fun hc => ?_) (fun hc => ?_)) | (refine Ops.k_calla ?_; first | (refine Ops.k_callf 58 ?_; (refine Ops.callF (below_fn _ _ (by omega)) (Evs.cons rfl (Evs.cons rfl Evs.nil)) rfl ?_; rintro r ⟨v, rfl, hv⟩))) | (refine Cw.k_draw ?_; first | refine Cw.region_seqC rfl (by decide +kernel) rfl ?_ | refine Cw.region_seq rfl (by decide +kernel) rfl ?_) | refine PSeq.nil ?_ | apply PSeq.cons | apply PSeq.yes rfl rfl rfl | refine PSeq.no rfl rfl rfl ?_ | refine PSeq.pass rfl rfl rfl ?_ | (apply OpV.w; apply OpV.k_move; first | exact OpV.move rfl) | (apply OpV.w; apply OpV.k_assign; first | exact OpV.assign rfl) | (apply OpV.w; apply OpV.k_load; first | exact OpV.load_ref_one rfl | exact OpV.load_ref_agg rfl rfl | exact OpV.load_box_one rfl goPk rfl | exact OpV.load_box_agg rfl goPk (by rfl) | exact OpV.load_box_part rfl goPk (by rfl) (by rfl) | exact OpV.load_own_agg rfl goPk (by first | rfl | assumption | (simp [*]; done)) | exact OpV.load_own_one rfl goPk (by first | rfl | assumption | (simp [*]; done)) rfl | exact OpV.load_q_one rfl goPk (by first | rfl | assumption | (simp [*]; done)) rfl) | (apply OpV.w; apply OpV.k_c_len; first | exact OpV.len_raw rfl | exact OpV.len_sl rfl | exact OpV.len_str rfl rfl) | (apply OpV.w; apply OpV.k_b_eql; first | exact OpV.eql_t rfl rfl (by omega) | exact OpV.eql_f rfl rfl (by omega) | exact OpV.eql rfl rfl) | (apply OpV.w; apply OpV.k_b_add; first | exact OpV.add rfl rfl (by first | omega | (simp; done) | (simp; omega))) | (apply OpV.w; apply OpV.k_b_sub; first | exact OpV.sub rfl rfl (by first | omega | (simp; done) | (simp; omega))) | (apply OpV.w; apply OpV.k_b_mul; first | exact OpV.mul rfl rfl (by first | omega | assumption)) | (apply OpV.w; apply OpV.k_b_quo; first | exact OpV.quo rfl rfl (by omega) | exact OpV.quoT rfl rfl (by omega)) | (apply OpV.w; apply OpV.k_b_rem; first | exact OpV.rem rfl rfl (by omega) | exact OpV.remT rfl rfl (by omega)) | (apply OpV.w; apply OpV.k_nilCheck; first | exact OpV.nilCheck_raw rfl | exact OpV.nilCheck_ref rfl) | (apply OpV.w; apply OpV.k_fieldAddr; first | exact OpV.fieldAddr_raw rfl | exact OpV.fieldAddr_ref rfl | exact OpV.fieldAddr_eptr rfl) | (apply OpV.w; apply OpV.k_indexAddr; first | exact OpV.indexAddr_sl rfl rfl (by omega) (by first | rfl | assumption | (simp [*]; done)) | exact OpV.indexAddr_own rfl rfl goPk (by first | rfl | omega | (simp; done) | (simp; omega)) (by first | omega | (simp; done) | (simp; omega)) (by first | omega | (simp; done) | (simp; omega)) | exact OpV.indexAddr_q rfl rfl goPk (by first | rfl | omega | (simp; done) | (simp; omega)) (by first | omega | (simp; done) | (simp; omega)) (by first | omega | (simp; done) | (simp; omega))))
    refine Fin.ret (Ent.shut_strm (m := m + 1) (n := N + 1) (by omega)) (Outs.one rfl rfl) ⟨rfl, v, rfl, hv⟩

theorem range_gen (lo hi : Int) (h : -1000000000000 ≤ lo ∧ lo ≤ hi ∧ hi ≤ 1000000000000) :
    Gen Try.prog 25 34 [.int lo, .int hi] 1 (fun r => ∃ v, r = .int v ∧ lo ≤ v ∧ v ≤ hi) := by
  unfold Gen
  intro b xs N hN
  refine Spec.body Try.func34 rfl rfl (Try.ntmps34) rfl fun w0 own0 M => ?_
  repeat' (first | refine Ops.nil ?_ | refine Then.norm ?_ | refine Cw.seq ?_ | refine Cw.region ?_ | refine Cw.block ?_ | refine Cw.exit ?_ | refine Cw.skip ?_ | refine Cw.ret ?_ | refine Then.exit ?_ | refine Then.ret ?_ | refine InB.exit ?_ | refine InB.norm ?_ | refine InB.ret ?_ | refine InB.exit_ne rfl ?_ | (refine Ops.k_move ?_; first | refine Ops.move rfl rfl ?_ | refine Ops.move_any rfl ?_) | (refine Ops.k_assign ?_; first | refine Ops.assign rfl rfl ?_ | refine Ops.assign_any rfl ?_) | (refine Ops.k_b_lss ?_; first | refine Ops.lss rfl rfl rfl ?_) | (refine Ops.k_b_add ?_; first | refine Ops.add rfl rfl (by first | omega | (simp; done) | (simp; omega)) rfl ?_) | (refine Ops.k_b_sub ?_; first | refine Ops.sub rfl rfl (by first | omega | (simp; done) | (simp; omega)) rfl ?_) | (refine Cw.k_cond ?_; first | refine Cw.cond_true rfl ?_ | refine Cw.cond_false rfl ?_ | (refine Cw.cond_dec rfl (fun hc => ?_) (fun hc => ?_) <;> try (exfalso; omega)) | refine Cw.cond_bool rfl (fun hc => ?_) (fun hc => ?_)) | (refine Ops.k_calla ?_; first | (refine Ops.k_callf 27 ?_; (refine Ops.callG (next_gen _ (by omega)) (Evs.cons rfl (Evs.cons rfl Evs.nil)) goPk (by omega) rfl ?_; rintro r ⟨v, rfl, hv⟩; unfold InRange at hv))))
  exact Fin.ret Ent.refl (Outs.one rfl rfl) ⟨rfl, _, rfl, by omega⟩

theorem flip_gen (n : Int) (h : -1000000000000 ≤ n ∧ n ≤ 1000000000000) :
    Gen Try.prog 25 25 [.int n] 1 (fun r => ∃ v, r = .bool v) := by
  unfold Gen
  intro b xs N hN
  refine Spec.body Try.func25 rfl rfl (Try.ntmps25) rfl fun w0 own0 M => ?_
  repeat' (first | refine Ops.nil ?_ | refine Then.norm ?_ | refine Cw.seq ?_ | refine Cw.region ?_ | refine Cw.block ?_ | refine Cw.exit ?_ | refine Cw.skip ?_ | refine Cw.ret ?_ | refine Then.exit ?_ | refine Then.ret ?_ | refine InB.exit ?_ | refine InB.norm ?_ | refine InB.ret ?_ | refine InB.exit_ne rfl ?_ | (refine Ops.k_move ?_; first | refine Ops.move rfl rfl ?_ | refine Ops.move_any rfl ?_) | (refine Ops.k_assign ?_; first | refine Ops.assign rfl rfl ?_ | refine Ops.assign_any rfl ?_) | (refine Ops.k_b_eql ?_; first | refine Ops.eql rfl rfl rfl ?_) | (refine Cw.k_cond ?_; first | refine Cw.cond_true rfl ?_ | refine Cw.cond_false rfl ?_ | (refine Cw.cond_dec rfl (fun hc => ?_) (fun hc => ?_) <;> try (exfalso; omega)) | refine Cw.cond_bool rfl (fun hc => ?_) (fun hc => ?_)) | (refine Ops.k_calla ?_; first | (refine Ops.k_callf 27 ?_; (refine Ops.callG (next_gen _ (by omega)) (Evs.cons rfl (Evs.cons rfl Evs.nil)) goPk (by omega) rfl ?_; rintro r ⟨v, rfl, hv⟩; unfold InRange at hv))))
  exact Fin.ret Ent.refl (Outs.one rfl rfl) ⟨rfl, _, rfl⟩

/-- a list of the numbers of a slice of one cell each -/
inductive IsInts : List (List Tr) → List Int → Prop
  | nil : IsInts [] []
  | cons {rows : List (List Tr)} {l : List Int} {x : Int} (h : IsInts rows l) : IsInts ([Tr.int x] :: rows) (x :: l)
theorem IsInts.eq {rows : List (List Tr)} {l : List Int} (h : IsInts rows l) : rows = intRows l := by
  induction h with
  | nil => rfl
  | cons h ih => rw [ih]; rfl

/-- one of some numbers -/
theorem pick_gen {rows : List (List Tr)} {l : List Int} (hr : IsInts rows l) (h : 0 < l.length ∧ l.length ≤ 100000) :
    Gen Try.prog 25 35 [.sl 1 rows] 1 (fun r => ∃ v, r = .int v ∧ v ∈ l) := by
  have h := hr.eq
  subst h
  unfold Gen
  intro b xs N hN
  refine Spec.body Try.func35 rfl rfl (Try.ntmps35) rfl fun w0 own0 M => ?_
  have hl := intRows_len l
  repeat' (first | refine Ops.nil ?_ | refine Then.norm ?_ | refine Cw.seq ?_ | refine Cw.region ?_ | refine Cw.block ?_ | refine Cw.exit ?_ | refine Cw.skip ?_ | refine Cw.ret ?_ | refine Then.exit ?_ | refine Then.ret ?_ | refine InB.exit ?_ | refine InB.norm ?_ | refine InB.ret ?_ | refine InB.exit_ne rfl ?_ | (refine Ops.k_move ?_; first | refine Ops.move rfl rfl ?_ | refine Ops.move_any rfl ?_) | (refine Ops.k_assign ?_; first | refine Ops.assign rfl rfl ?_ | refine Ops.assign_any rfl ?_) | (refine Ops.k_load ?_; first | refine Ops.load_ref_one rfl rfl ?_ | refine Ops.load_ref_agg rfl rfl rfl ?_ | refine Ops.load_box_one rfl goPk rfl rfl ?_ | refine Ops.load_box_agg rfl goPk rfl rfl ?_ | refine Ops.load_own_one rfl goPk (by first | rfl | assumption | (simp [*]; done)) rfl rfl ?_ | refine Ops.load_own_agg rfl goPk (by first | rfl | assumption | (simp [*]; done)) rfl ?_ | refine Ops.load_box_part rfl goPk rfl rfl rfl ?_ | refine Ops.load_q_one rfl goPk (by first | rfl | assumption | (simp [*]; done)) rfl rfl ?_) | (refine Ops.k_c_len ?_; first | refine Ops.len_raw rfl rfl ?_ | refine Ops.len_sl rfl rfl ?_ | refine Ops.len_str rfl rfl rfl ?_ | refine Ops.len_q rfl rfl ?_) | (refine Ops.k_indexAddr ?_; first | refine Ops.indexAddr_sl rfl rfl (by omega) (by first | rfl | assumption | (simp [*]; done)) rfl ?_ | refine Ops.indexAddr_own rfl rfl goPk (by first | rfl | omega | (simp; done) | (simp; omega)) (by first | omega | (simp; done) | (simp; omega)) (by first | omega | (simp; done) | (simp; omega)) rfl ?_ | refine Ops.indexAddr_q rfl rfl goPk (by first | rfl | omega | (simp; done) | (simp; omega)) (by first | omega | (simp; done) | (simp; omega)) (by first | omega | (simp; done) | (simp; omega)) rfl ?_) | (refine Cw.k_cond ?_; first | refine Cw.cond_true rfl ?_ | refine Cw.cond_false rfl ?_ | (refine Cw.cond_dec rfl (fun hc => ?_) (fun hc => ?_) <;> try (exfalso; omega)) | refine Cw.cond_bool rfl (fun hc => ?_) (fun hc => ?_)) | (refine Ops.k_calla ?_; first | (refine Ops.k_callf 27 ?_; (refine Ops.callG (next_gen _ (by omega)) (Evs.cons rfl (Evs.cons rfl Evs.nil)) goPk (by omega) rfl ?_; rintro r ⟨v, rfl, hv⟩; unfold InRange at hv; have hj : v.toNat < l.length := (by omega); have hj2 := intRows_get hj))))
  exact Fin.ret Ent.refl (Outs.one rfl rfl) ⟨rfl, _, rfl, List.getElem_mem hj⟩

def outB (n lo hi : Int) : Bool := decide (n < lo ∨ hi < n)
theorem outB_eq {n lo hi : Int} : outB n lo hi = true ↔ (n < lo ∨ hi < n) := by simp [outB]
theorem out_fn (n lo hi : Int) : PFn Try.prog 38 [.int n, .int lo, .int hi] (· = .bool (outB n lo hi)) := by
  refine PFn.mk (Spec.body Try.func38 rfl rfl (Try.ntmps38) rfl fun w0 own0 M => ?_)
  by_cases h1 : n < lo
  · repeat' (first | refine Ops.nil ?_ | refine Then.norm ?_ | refine Cw.seq ?_ | refine Cw.region ?_ | refine Cw.block ?_ | refine Cw.exit ?_ | refine Cw.skip ?_ | refine Cw.ret ?_ | refine Then.exit ?_ | refine Then.ret ?_ | refine InB.exit ?_ | refine InB.norm ?_ | refine InB.ret ?_ | refine InB.exit_ne rfl ?_ | (refine Ops.k_move ?_; first | refine Ops.move rfl rfl ?_ | refine Ops.move_any rfl ?_) | (refine Ops.k_assign ?_; first | refine Ops.assign rfl rfl ?_ | refine Ops.assign_any rfl ?_) | (refine Ops.k_b_lss ?_; first | refine Ops.lss rfl rfl rfl ?_) | (refine Ops.k_b_gtr ?_; first | refine Ops.gtr rfl rfl rfl ?_) | (refine Ops.k_pick ?_; first | refine Ops.pick_true rfl rfl rfl ?_ | refine Ops.pick_false rfl rfl rfl ?_) | (refine Ops.k_guard ?_; first | refine Ops.guard_yes rfl rfl ?_ | refine Ops.guard_no rfl rfl rfl rfl ?_ | refine Ops.guard_no' rfl rfl rfl ?_ | refine Ops.guard_undef rfl rfl rfl ?_ | refine Ops.guard_undef' rfl rfl ?_ | (refine Ops.guard_dec rfl rfl (fun hc => ?_) (fun hc => ?_) <;> try (exfalso; omega)) | refine Ops.guard_split rfl rfl (fun hc => ?_) (fun hc => ?_)) | (refine Cw.k_cond ?_; first | refine Cw.cond_true rfl ?_ | refine Cw.cond_false rfl ?_ | (refine Cw.cond_dec rfl (fun hc => ?_) (fun hc => ?_) <;> try (exfalso; omega)) | refine Cw.cond_bool rfl (fun hc => ?_) (fun hc => ?_)))
    refine Fin.ret Ent.refl (Outs.one rfl rfl) ⟨rfl, congrArg Tr.bool ?_⟩
    simp [outB, h1]
  · repeat' (first | refine Ops.nil ?_ | refine Then.norm ?_ | refine Cw.seq ?_ | refine Cw.region ?_ | refine Cw.block ?_ | refine Cw.exit ?_ | refine Cw.skip ?_ | refine Cw.ret ?_ | refine Then.exit ?_ | refine Then.ret ?_ | refine InB.exit ?_ | refine InB.norm ?_ | refine InB.ret ?_ | refine InB.exit_ne rfl ?_ | (refine Ops.k_move ?_; first | refine Ops.move rfl rfl ?_ | refine Ops.move_any rfl ?_) | (refine Ops.k_assign ?_; first | refine Ops.assign rfl rfl ?_ | refine Ops.assign_any rfl ?_) | (refine Ops.k_b_lss ?_; first | refine Ops.lss rfl rfl rfl ?_) | (refine Ops.k_b_gtr ?_; first | refine Ops.gtr rfl rfl rfl ?_) | (refine Ops.k_pick ?_; first | refine Ops.pick_true rfl rfl rfl ?_ | refine Ops.pick_false rfl rfl rfl ?_) | (refine Ops.k_guard ?_; first | refine Ops.guard_yes rfl rfl ?_ | refine Ops.guard_no rfl rfl rfl rfl ?_ | refine Ops.guard_no' rfl rfl rfl ?_ | refine Ops.guard_undef rfl rfl rfl ?_ | refine Ops.guard_undef' rfl rfl ?_ | (refine Ops.guard_dec rfl rfl (fun hc => ?_) (fun hc => ?_) <;> try (exfalso; omega)) | refine Ops.guard_split rfl rfl (fun hc => ?_) (fun hc => ?_)) | (refine Cw.k_cond ?_; first | refine Cw.cond_true rfl ?_ | refine Cw.cond_false rfl ?_ | (refine Cw.cond_dec rfl (fun hc => ?_) (fun hc => ?_) <;> try (exfalso; omega)) | refine Cw.cond_bool rfl (fun hc => ?_) (fun hc => ?_)))
    all_goals (refine Fin.ret Ent.refl (Outs.one rfl rfl) ⟨rfl, congrArg Tr.bool ?_⟩)
    all_goals simp [outB, h1]
def momentB (n : Int) : Bool := decide (0 ≤ n ∧ n < 5761440)
theorem moment_fn (n : Int) : PFn Try.prog 39 [.int n] (· = .bool (momentB n)) := by
  refine PFn.mk (Spec.body Try.func39 rfl rfl (Try.ntmps39) rfl fun w0 own0 M => ?_)
  repeat' (first | refine Ops.nil ?_ | refine Then.norm ?_ | refine Cw.seq ?_ | refine Cw.region ?_ | refine Cw.block ?_ | refine Cw.exit ?_ | refine Cw.skip ?_ | refine Cw.ret ?_ | refine Then.exit ?_ | refine Then.ret ?_ | refine InB.exit ?_ | refine InB.norm ?_ | refine InB.ret ?_ | refine InB.exit_ne rfl ?_ | (refine Ops.k_move ?_; first | refine Ops.move rfl rfl ?_ | refine Ops.move_any rfl ?_) | (refine Ops.k_assign ?_; first | refine Ops.assign rfl rfl ?_ | refine Ops.assign_any rfl ?_) | (refine Ops.k_not ?_; first | refine Ops.not_dec rfl rfl ?_ | refine Ops.not rfl rfl ?_) | (refine Cw.k_cond ?_; first | refine Cw.cond_true rfl ?_ | refine Cw.cond_false rfl ?_ | (refine Cw.cond_dec rfl (fun hc => ?_) (fun hc => ?_) <;> try (exfalso; omega)) | refine Cw.cond_bool rfl (fun hc => ?_) (fun hc => ?_)) | (refine Ops.k_calla ?_; first | (refine Ops.k_callf 38 ?_; refine Ops.callV (out_fn _ _ _) (Evs.cons rfl (Evs.cons rfl (Evs.cons rfl Evs.nil))) rfl ?_)))
  refine Fin.ret Ent.refl (Outs.one rfl rfl) ⟨rfl, congrArg Tr.bool ?_⟩
  by_cases h : 0 ≤ n ∧ n < 5761440
  · simp [momentB, outB, h]; omega
  · simp [momentB, outB, h]; omega
theorem refMoment_fn (n : Int) : PFn Try.prog 42 [.int n] (· = .bool (momentB n)) := by
  refine PFn.mk (Spec.body Try.func42 rfl rfl (Try.ntmps42) rfl fun w0 own0 M => ?_)
  by_cases h1 : n < 0
  · repeat' (first | refine Ops.nil ?_ | refine Then.norm ?_ | refine Cw.seq ?_ | refine Cw.region ?_ | refine Cw.block ?_ | refine Cw.exit ?_ | refine Cw.skip ?_ | refine Cw.ret ?_ | refine Then.exit ?_ | refine Then.ret ?_ | refine InB.exit ?_ | refine InB.norm ?_ | refine InB.ret ?_ | refine InB.exit_ne rfl ?_ | (refine Ops.k_move ?_; first | refine Ops.move rfl rfl ?_ | refine Ops.move_any rfl ?_) | (refine Ops.k_assign ?_; first | refine Ops.assign rfl rfl ?_ | refine Ops.assign_any rfl ?_) | (refine Ops.k_b_lss ?_; first | refine Ops.lss rfl rfl rfl ?_) | (refine Ops.k_b_geq ?_; first | refine Ops.geq rfl rfl rfl ?_) | (refine Ops.k_pick ?_; first | refine Ops.pick_true rfl rfl rfl ?_ | refine Ops.pick_false rfl rfl rfl ?_) | (refine Ops.k_guard ?_; first | refine Ops.guard_yes rfl rfl ?_ | refine Ops.guard_no rfl rfl rfl rfl ?_ | refine Ops.guard_no' rfl rfl rfl ?_ | refine Ops.guard_undef rfl rfl rfl ?_ | refine Ops.guard_undef' rfl rfl ?_ | (refine Ops.guard_dec rfl rfl (fun hc => ?_) (fun hc => ?_) <;> try (exfalso; omega)) | refine Ops.guard_split rfl rfl (fun hc => ?_) (fun hc => ?_)) | (refine Cw.k_cond ?_; first | refine Cw.cond_true rfl ?_ | refine Cw.cond_false rfl ?_ | (refine Cw.cond_dec rfl (fun hc => ?_) (fun hc => ?_) <;> try (exfalso; omega)) | refine Cw.cond_bool rfl (fun hc => ?_) (fun hc => ?_)))
    all_goals (refine Fin.ret Ent.refl (Outs.one rfl rfl) ⟨rfl, congrArg Tr.bool ?_⟩)
    all_goals (simp [momentB]; omega)
  · repeat' (first | refine Ops.nil ?_ | refine Then.norm ?_ | refine Cw.seq ?_ | refine Cw.region ?_ | refine Cw.block ?_ | refine Cw.exit ?_ | refine Cw.skip ?_ | refine Cw.ret ?_ | refine Then.exit ?_ | refine Then.ret ?_ | refine InB.exit ?_ | refine InB.norm ?_ | refine InB.ret ?_ | refine InB.exit_ne rfl ?_ | (refine Ops.k_move ?_; first | refine Ops.move rfl rfl ?_ | refine Ops.move_any rfl ?_) | (refine Ops.k_assign ?_; first | refine Ops.assign rfl rfl ?_ | refine Ops.assign_any rfl ?_) | (refine Ops.k_b_lss ?_; first | refine Ops.lss rfl rfl rfl ?_) | (refine Ops.k_b_geq ?_; first | refine Ops.geq rfl rfl rfl ?_) | (refine Ops.k_pick ?_; first | refine Ops.pick_true rfl rfl rfl ?_ | refine Ops.pick_false rfl rfl rfl ?_) | (refine Ops.k_guard ?_; first | refine Ops.guard_yes rfl rfl ?_ | refine Ops.guard_no rfl rfl rfl rfl ?_ | refine Ops.guard_no' rfl rfl rfl ?_ | refine Ops.guard_undef rfl rfl rfl ?_ | refine Ops.guard_undef' rfl rfl ?_ | (refine Ops.guard_dec rfl rfl (fun hc => ?_) (fun hc => ?_) <;> try (exfalso; omega)) | refine Ops.guard_split rfl rfl (fun hc => ?_) (fun hc => ?_)) | (refine Cw.k_cond ?_; first | refine Cw.cond_true rfl ?_ | refine Cw.cond_false rfl ?_ | (refine Cw.cond_dec rfl (fun hc => ?_) (fun hc => ?_) <;> try (exfalso; omega)) | refine Cw.cond_bool rfl (fun hc => ?_) (fun hc => ?_)))
    all_goals (refine Fin.ret Ent.refl (Outs.one rfl rfl) ⟨rfl, congrArg Tr.bool ?_⟩)
    all_goals (simp [momentB]; omega)
def dayB (n : Int) : Bool := !(outB n 0 4000)

theorem rows_at {α : Type} {f : α → List Tr} {l : List α} {k : Nat} {x : α} (h : l[k]? = some x) : (l.map f)[k]? = some (f x) := by
  rw [List.getElem?_map, h]
  rfl

def idxFrom {α : Type} (p : α → Bool) : List α → Int → Int
  | [], _ => -1
  | x :: l, k => if p x then k else idxFrom p l (k + 1)

theorem idxFrom_drop {α : Type} (p : α → Bool) {l : List α} {k : Nat} {x : α} (h : l[k]? = some x) : idxFrom p (l.drop k) k = if p x then (k : Int) else idxFrom p (l.drop (k + 1)) ((k + 1 : Nat) : Int) := by
  obtain ⟨hk, rfl⟩ := List.getElem?_eq_some_iff.1 h
  rw [List.drop_eq_getElem_cons hk, idxFrom]
  rfl

theorem idxFrom_ge {α : Type} (p : α → Bool) : ∀ (l : List α) (k : Int), 0 ≤ k → (0 ≤ idxFrom p l k ↔ l.any p = true)
  | [], k, _ => by simp [idxFrom]
  | x :: l, k, hk => by
    unfold idxFrom
    by_cases h : p x = true
    · simp [h, hk]
    · simp [h, idxFrom_ge p l (k + 1) (by omega)]
end Lg
end
section
set_option linter.all false
set_option maxRecDepth 100000
set_option maxHeartbeats 1000000
namespace Lg
open Go Go.Proofs

theorem drop_at {α : Type} {l : List α} {k : Nat} {x : α} (h : l[k]? = some x) : l.drop k = x :: l.drop (k + 1) := by
  obtain ⟨hk, rfl⟩ := List.getElem?_eq_some_iff.1 h
  exact List.drop_eq_getElem_cons hk
theorem take_at {α : Type} {l : List α} {k : Nat} {x : α} (h : l[k]? = some x) : l.take (k + 1) = l.take k ++ [x] := by
  obtain ⟨hk, rfl⟩ := List.getElem?_eq_some_iff.1 h
  rw [List.take_add_one, h]
  rfl
theorem at_lt {α : Type} {l : List α} {k : Nat} (h : k < l.length) : ∃ x, l[k]? = some x := ⟨_, List.getElem?_eq_getElem h⟩

theorem outB_f {n lo hi : Int} : outB n lo hi = false ↔ (lo ≤ n ∧ n ≤ hi) := by simp [outB]
theorem Ent.own_strm {Γ : Ctx} {env : Env} {cs cs1 cf : List Chunk} {c : Chunk} {ty b m n : Nat} {rows : List (List Tr)} (hp1 : cs.Perm (Chunk.strm ty b rows m :: cs1)) (hp2 : cs1.Perm (c :: cf)) (hm : m ≤ n) : Ent Γ env cs env [c, Chunk.strm ty b rows n] :=
  Ent.trans (Ent.take (Take.cons hp1 (Take.cons hp2 Take.nil))) (Ent.trans (Ent.more_strm hm) (Ent.perm (List.Perm.swap _ _ _)))
theorem agg_raw {w : World} {A : Nat → Prop} : ∀ {l : List Value} {v : Value}, (Tr.agg (l.map Tr.raw)).rd w A v → v = .agg l.toArray := by
  intro l v h
  unfold Tr.agg at h
  obtain ⟨vs, e, hr⟩ := h
  subst e
  congr 2
  induction l generalizing vs with
  | nil => simpa [RdC] using hr
  | cons u l ih =>
    obtain ⟨v, rest, rfl, hv, _, hr⟩ := hr
    have := rd_raw hv
    rw [this, ih rest hr]
theorem out_t (n lo hi : Int) (h : n < lo ∨ hi < n) : PFn Try.prog 38 [.int n, .int lo, .int hi] (· = .bool true) := by
  have := out_fn n lo hi
  rwa [show outB n lo hi = true from outB_eq.2 h] at this
theorem out_f (n lo hi : Int) (h : lo ≤ n ∧ n ≤ hi) : PFn Try.prog 38 [.int n, .int lo, .int hi] (· = .bool false) := by
  have := out_fn n lo hi
  rwa [show outB n lo hi = false by unfold outB; exact decide_eq_false (by omega)] at this

section
variable {Γ : Ctx} {env : Env} {cs : List Chunk} {x y : Operand} {T2 ty : TypeId}
theorem OpV.eqb {a b : Bool} (hx : ev env x = some (Tr.bool a)) (hy : ev env y = some (Tr.bool b)) : OpV Try.prog Γ (.binOp .eql 4 x y T2) ty env cs (.bool (a == b)) := by
  unfold OpV
  intro ac w d
  have h1 := rd_raw (d.ev hx)
  have h2 := rd_raw (d.ev hy)
  have h3 := run_eql_bool (P := Try.prog) w 4 a b Try.underlying4
  exact ⟨.bool (a == b), by simp [execOp, h1, h2, h3, eqGuard], by unfold Tr.bool Tr.raw; rfl⟩
end
end Lg
end
section
set_option linter.all false
set_option maxRecDepth 100000
set_option maxHeartbeats 4000000
namespace Lg
open Go Go.Proofs

/-! ### readings, in plain terms -/
structure Rdg where
  t : Int
  vs : List Int
theorem Rdg.ext' {x y : Rdg} (h1 : x.t = y.t) (h2 : x.vs = y.vs) : x = y := by
  cases x
  cases y
  simp at h1 h2
  rw [h1, h2]
/-- two lists in strict order with the same members -/
theorem strict_ext {α : Type} (key : α → Int) : ∀ {l1 l2 : List α}, l1.Pairwise (fun a b => key a < key b) → l2.Pairwise (fun a b => key a < key b) → (∀ x, x ∈ l1 ↔ x ∈ l2) → l1 = l2
  | [], [], _, _, _ => rfl
  | [], y :: l2, _, _, h => by
    have := (h y).2 (List.mem_cons_self ..)
    cases this
  | x :: l1, [], _, _, h => by
    have := (h x).1 (List.mem_cons_self ..)
    cases this
  | x :: l1, y :: l2, h1, h2, h => by
    rw [List.pairwise_cons] at h1 h2
    obtain ⟨a1, b1⟩ := h1
    obtain ⟨a2, b2⟩ := h2
    have hxy : x = y := by
      rcases List.mem_cons.1 ((h x).1 (List.mem_cons_self ..)) with e | hx
      · exact e
      rcases List.mem_cons.1 ((h y).2 (List.mem_cons_self ..)) with e | hy
      · exact e.symm
      have := a2 x hx
      have := a1 y hy
      omega
    subst hxy
    have : l1 = l2 := strict_ext key b1 b2 fun z => by
      constructor
      · intro hz
        rcases List.mem_cons.1 ((h z).1 (List.mem_cons_of_mem _ hz)) with e | h3
        · subst e
          have := a1 z hz
          omega
        · exact h3
      · intro hz
        rcases List.mem_cons.1 ((h z).2 (List.mem_cons_of_mem _ hz)) with e | h3
        · subst e
          have := a2 z hz
          omega
        · exact h3
    rw [this]
/-- one after the other: the same moment as the last one -/
def dedA : List Rdg → List Rdg → Option (List Rdg)
  | acc, [] => some acc
  | acc, r :: l => match acc.getLast? with
    | none => dedA (acc ++ [r]) l
    | some x => if x.t = r.t then (if x.vs = r.vs then dedA acc l else none) else dedA (acc ++ [r]) l
/-- the same moment as any one before -/
def dedF : List Rdg → List Rdg → Option (List Rdg)
  | acc, [] => some acc
  | acc, r :: l => match acc.find? (fun x => decide (x.t = r.t)) with
    | none => dedF (acc ++ [r]) l
    | some x => if x.vs = r.vs then dedF acc l else none
def Agr (l : List Rdg) : Prop := ∀ x ∈ l, ∀ y ∈ l, x.t = y.t → x = y
theorem agr_snoc {acc : List Rdg} {r : Rdg} (h : Agr acc) (hn : ∀ x ∈ acc, x.t ≠ r.t) : Agr (acc ++ [r]) := by
  intro x hx y hy e
  rcases List.mem_append.1 hx with h1 | h1 <;> rcases List.mem_append.1 hy with h2 | h2
  · exact h x h1 y h2 e
  · rw [List.mem_singleton.1 h2] at e; exact absurd e (hn x h1)
  · rw [List.mem_singleton.1 h1] at e; exact absurd e.symm (hn y h2)
  · rw [List.mem_singleton.1 h1, List.mem_singleton.1 h2]
theorem dedF_spec : ∀ (l acc : List Rdg), Agr acc → (acc.map Rdg.t).Nodup →
    (∀ D, dedF acc l = some D → Agr (acc ++ l) ∧ (D.map Rdg.t).Nodup ∧ ∀ x, x ∈ D ↔ x ∈ acc ++ l) ∧ (dedF acc l = none → ¬ Agr (acc ++ l))
  | [], acc, ha, hn => by
    constructor
    · intro D h
      rw [dedF] at h
      cases h
      exact ⟨by rw [List.append_nil]; exact ha, hn, fun x => by rw [List.append_nil]⟩
    · intro h
      rw [dedF] at h
      cases h
  | r :: l, acc, ha, hn => by
    cases hf : acc.find? (fun x => decide (x.t = r.t)) with
    | none =>
      have hno : ∀ x ∈ acc, x.t ≠ r.t := fun x hx e => by
        have := List.find?_eq_none.1 hf x hx
        simp [e] at this
      have ih := dedF_spec l (acc ++ [r]) (agr_snoc ha hno) (by
        rw [List.map_append, List.nodup_append]
        refine ⟨hn, by simp, ?_⟩
        intro a h1 b h2 e
        obtain ⟨x, hx, rfl⟩ := List.mem_map.1 h1
        simp at h2
        subst h2
        exact hno x hx e)
      rw [dedF, hf]
      simp only [List.append_assoc, List.singleton_append] at ih
      exact ih
    | some x =>
      have hx := List.mem_of_find?_eq_some hf
      have ht : x.t = r.t := by have := List.find?_some hf; simpa using this
      by_cases hv : x.vs = r.vs
      · have hxr : x = r := Rdg.ext' ht hv
        subst hxr
        have ih := dedF_spec l acc ha hn
        have hm : ∀ y, y ∈ acc ++ x :: l ↔ y ∈ acc ++ l := by
          intro y
          simp only [List.mem_append, List.mem_cons]
          constructor
          · rintro (h | rfl | h)
            · exact .inl h
            · exact .inl hx
            · exact .inr h
          · rintro (h | h)
            · exact .inl h
            · exact .inr (.inr h)
        have hA : Agr (acc ++ x :: l) ↔ Agr (acc ++ l) := by
          constructor
          · intro h a ha b hb e
            exact h a ((hm a).2 ha) b ((hm b).2 hb) e
          · intro h a ha b hb e
            exact h a ((hm a).1 ha) b ((hm b).1 hb) e
        simp only [dedF, hf, ht, if_pos]
        constructor
        · intro D hD
          obtain ⟨h1, h2, h3⟩ := ih.1 D hD
          exact ⟨hA.2 h1, h2, fun y => (h3 y).trans (hm y).symm⟩
        · intro hD h
          exact ih.2 hD (hA.1 h)
      · simp only [dedF, hf, if_neg hv]
        constructor
        · intro D h; cases h
        · intro _ h
          have := h x (List.mem_append_left _ hx) r (List.mem_append_right _ (List.mem_cons_self ..)) ht
          exact hv (by rw [this])
theorem dedA_spec : ∀ (l acc : List Rdg), Agr acc → acc.Pairwise (fun a b => a.t < b.t) → (acc ++ l).Pairwise (fun a b => a.t ≤ b.t) →
    (∀ D, dedA acc l = some D → Agr (acc ++ l) ∧ D.Pairwise (fun a b => a.t < b.t) ∧ ∀ x, x ∈ D ↔ x ∈ acc ++ l) ∧ (dedA acc l = none → ¬ Agr (acc ++ l))
  | [], acc, ha, hn, hs => by
    constructor
    · intro D h
      rw [dedA] at h
      cases h
      exact ⟨by rw [List.append_nil]; exact ha, hn, fun x => by rw [List.append_nil]⟩
    · intro h
      rw [dedA] at h
      cases h
  | r :: l, acc, ha, hn, hs => by
    have hsa := List.pairwise_append.1 hs
    have step : (∀ x ∈ acc, x.t ≠ r.t) → (dedA acc (r :: l) = dedA (acc ++ [r]) l) → (∀ D, dedA acc (r :: l) = some D → Agr (acc ++ r :: l) ∧ D.Pairwise (fun a b => a.t < b.t) ∧ ∀ x, x ∈ D ↔ x ∈ acc ++ r :: l) ∧ (dedA acc (r :: l) = none → ¬ Agr (acc ++ r :: l)) := by
      intro hno he
      have ih := dedA_spec l (acc ++ [r]) (agr_snoc ha hno) (by
        rw [List.pairwise_append]
        refine ⟨hn, by simp, ?_⟩
        intro a h1 b h2
        rw [List.mem_singleton.1 h2]
        have h3 := hsa.2.2 a h1 r (List.mem_cons_self ..)
        have h4 := hno a h1
        omega) (by rw [List.append_assoc]; exact hs)
      rw [he]
      simp only [List.append_assoc, List.singleton_append] at ih
      exact ih
    cases hf : acc.getLast? with
    | none =>
      have e : acc = [] := List.getLast?_eq_none_iff.1 hf
      exact step (by rw [e]; simp) (by rw [dedA, hf])
    | some x =>
      obtain ⟨A, hA⟩ : ∃ A, acc = A ++ [x] := List.getLast?_eq_some_iff.1 hf
      have hx : x ∈ acc := by rw [hA]; simp
      by_cases ht : x.t = r.t
      · by_cases hv : x.vs = r.vs
        · have hxr : x = r := Rdg.ext' ht hv
          subst hxr
          have hm : ∀ y, y ∈ acc ++ x :: l ↔ y ∈ acc ++ l := by
            intro y
            simp only [List.mem_append, List.mem_cons]
            constructor
            · rintro (h | rfl | h)
              · exact .inl h
              · exact .inl hx
              · exact .inr h
            · rintro (h | h)
              · exact .inl h
              · exact .inr (.inr h)
          have ih := dedA_spec l acc ha hn (by
            rw [List.pairwise_append]
            exact ⟨hsa.1, (List.pairwise_cons.1 hsa.2.1).2, fun a h1 b h2 => hsa.2.2 a h1 b (List.mem_cons_of_mem _ h2)⟩)
          have hAg : Agr (acc ++ x :: l) ↔ Agr (acc ++ l) := by
            constructor
            · intro h a ha b hb e
              exact h a ((hm a).2 ha) b ((hm b).2 hb) e
            · intro h a ha b hb e
              exact h a ((hm a).1 ha) b ((hm b).1 hb) e
          simp only [dedA, hf, if_pos]
          constructor
          · intro D hD
            obtain ⟨h1, h2, h3⟩ := ih.1 D hD
            exact ⟨hAg.2 h1, h2, fun y => (h3 y).trans (hm y).symm⟩
          · intro hD h
            exact ih.2 hD (hAg.1 h)
        · simp only [dedA, hf, if_pos ht, if_neg hv]
          constructor
          · intro D h; cases h
          · intro _ h
            have := h x (List.mem_append_left _ hx) r (List.mem_append_right _ (List.mem_cons_self ..)) ht
            exact hv (by rw [this])
      · refine step (fun y hy e => ?_) (by rw [dedA, hf]; simp only [if_neg ht])
        have h1 : y.t ≤ x.t := by
          rw [hA] at hy hn
          rcases List.mem_append.1 hy with h2 | h2
          · have := (List.pairwise_append.1 hn).2.2 y h2 x (by simp)
            omega
          · rw [List.mem_singleton.1 h2]
            omega
        have h3 := hsa.2.2 x hx r (List.mem_cons_self ..)
        omega
def rlt : Rdg → Rdg → Bool := fun a b => decide (a.t < b.t)
theorem ded_eq (l : List Rdg) : dedA [] (isort rlt l) = (dedF [] l).map (isort rlt) := by
  have hp := isort_perm rlt l
  have hs : (isort rlt l).Pairwise (fun a b => a.t ≤ b.t) := isort_key_sorted Rdg.t l
  have hA := dedA_spec (isort rlt l) [] (by intro x hx; cases hx) List.Pairwise.nil (by simpa using hs)
  have hF := dedF_spec l [] (by intro x hx; cases hx) (by simp)
  simp only [List.nil_append] at hA hF
  have hag : Agr (isort rlt l) ↔ Agr l := by
    constructor
    · intro h a ha b hb e
      exact h a (hp.mem_iff.2 ha) b (hp.mem_iff.2 hb) e
    · intro h a ha b hb e
      exact h a (hp.mem_iff.1 ha) b (hp.mem_iff.1 hb) e
  cases h1 : dedF [] l with
  | none =>
    cases h2 : dedA [] (isort rlt l) with
    | none => rfl
    | some D => exact absurd (hag.1 (hA.1 D h2).1) (hF.2 h1)
  | some D =>
    obtain ⟨f1, f2, f3⟩ := hF.1 D h1
    cases h2 : dedA [] (isort rlt l) with
    | none => exact absurd (hag.2 f1) (hA.2 h2)
    | some D' =>
      obtain ⟨a1, a2, a3⟩ := hA.1 D' h2
      rw [Option.map_some]
      congr 1
      refine strict_ext Rdg.t a2 ?_ fun x => ?_
      · have hpD := isort_perm rlt D
        have hsD : (isort rlt D).Pairwise (fun a b => a.t ≤ b.t) := isort_key_sorted Rdg.t D
        have hnd : ((isort rlt D).map Rdg.t).Nodup := (hpD.map Rdg.t).nodup_iff.2 f2
        have hnd2 : (isort rlt D).Pairwise (fun a b => a.t ≠ b.t) := by
          have := hnd
          unfold List.Nodup at this
          rw [List.pairwise_map] at this
          exact this
        exact (hsD.and hnd2).imp fun ⟨h3, h4⟩ => by omega
      · rw [a3, (isort_perm rlt D).mem_iff, f3, hp.mem_iff]

/-! ### what happened between two readings -/
structure Stp where
  a : Int
  b : Int
  r : Bool
  s : List Int
def Stp.row (x : Stp) : List Tr := [.int x.a, .int x.b, .bool x.r, .ints x.s]
def limE (tn fast a b : Int) : Int := min (fast * (b / 1440 - a / 1440 + 1)) (tn - 1)
def difE (tn x y : Int) : Int := if y - x < 0 then y - x + tn else y - x
def difL (tn : Int) : List Int → List Int → List Int
  | x :: xs, y :: ys => difE tn x y :: difL tn xs ys
  | _, _ => []
def overB (lim : Int) (d : Int) : Bool := decide (lim < d)
def stpOf (tn fast : Int) (a b : Rdg) : Stp :=
  if (difL tn a.vs b.vs).any (overB (limE tn fast a.t b.t)) = true then ⟨a.t, b.t, true, b.vs⟩ else ⟨a.t, b.t, false, difL tn a.vs b.vs⟩
def stpsOf (tn fast : Int) : List Rdg → List Stp
  | a :: b :: l => stpOf tn fast a b :: stpsOf tn fast (b :: l)
  | _ => []
theorem difL_len (tn : Int) : ∀ {x y : List Int}, y.length = x.length → (difL tn x y).length = x.length
  | [], [], _ => rfl
  | x :: xs, y :: ys, h => by
    unfold difL
    rw [List.length_cons, List.length_cons, difL_len tn (x := xs) (y := ys) (by simpa using h)]
theorem difL_at (tn : Int) : ∀ {x y : List Int} {k : Nat} {p q : Int}, x[k]? = some p → y[k]? = some q → (difL tn x y)[k]? = some (difE tn p q)
  | [], _, k, p, q, h, _ => by simp at h
  | x :: xs, [], k, p, q, _, h => by simp at h
  | x :: xs, y :: ys, 0, p, q, h1, h2 => by
    simp at h1 h2
    subst h1
    subst h2
    rfl
  | x :: xs, y :: ys, k + 1, p, q, h1, h2 => by
    simp at h1 h2
    unfold difL
    rw [List.getElem?_cons_succ]
    exact difL_at tn h1 h2
theorem stpsOf_len (tn fast : Int) : ∀ l : List Rdg, (stpsOf tn fast l).length = l.length - 1
  | [] => rfl
  | [a] => rfl
  | a :: b :: l => by
    unfold stpsOf
    rw [List.length_cons, stpsOf_len tn fast (b :: l)]
    simp
theorem stpsOf_at (tn fast : Int) : ∀ {l : List Rdg} {k : Nat} {a b : Rdg}, l[k]? = some a → l[k + 1]? = some b → (stpsOf tn fast l)[k]? = some (stpOf tn fast a b)
  | [], k, a, b, h, _ => by simp at h
  | [x], k, a, b, _, h => by simp at h
  | x :: y :: l, 0, a, b, h1, h2 => by
    simp at h1 h2
    subst h1
    subst h2
    rfl
  | x :: y :: l, k + 1, a, b, h1, h2 => by
    rw [List.getElem?_cons_succ] at h1 h2
    unfold stpsOf
    rw [List.getElem?_cons_succ]
    exact stpsOf_at tn fast h1 h2
/-- what the loop that counts up finds -/
theorem dif_found {tn x y d : Int} (ht : 0 < tn) (hx : 0 ≤ x ∧ x < tn) (hy : 0 ≤ y ∧ y < tn) (hd : 0 ≤ d) (hlt : d ≤ difE tn x y) : (x + d) % tn = y ↔ d = difE tn x y := by
  unfold difE at *
  split at hlt
  · rename_i h
    rw [if_pos h]
    by_cases h2 : x + d < tn
    · rw [Int.emod_eq_of_lt (by omega) h2]
      omega
    · have e : (x + d) % tn = x + d - tn := by
        rw [← Int.sub_emod_right (x + d) tn]
        exact Int.emod_eq_of_lt (by omega) (by omega)
      rw [e]
      omega
  · rename_i h
    rw [if_neg h]
    rw [Int.emod_eq_of_lt (by omega) (by omega)]
    omega
theorem difE_bd {tn x y : Int} (hx : 0 ≤ x ∧ x < tn) (hy : 0 ≤ y ∧ y < tn) : 0 ≤ difE tn x y ∧ difE tn x y < tn := by
  unfold difE
  split <;> omega
/-- the numbers that were sold, and the moments behind which counters were reset -/
def addL : List Int → List Int → List Int := List.zipWith (· + ·)
def soldF (acc : List Int) : List Stp → List Int
  | [] => acc
  | s :: l => soldF (addL acc s.s) l
def rstF (l : List Stp) : List Int := (l.filter Stp.r).map Stp.b
end Lg
end
section
set_option linter.all false
set_option maxRecDepth 100000
set_option maxHeartbeats 2000000
namespace Lg
open Go Go.Proofs

@[simp] theorem rowsOf_len (k n : Nat) (ts : List Tr) : (rowsOf k n ts).length = n := by simp [rowsOf]
theorem intRows_app (a b : List Int) : intRows (a ++ b) = intRows a ++ intRows b := by simp [intRows]

theorem equalInts_same (xs : List Int) (h : xs.length ≤ 1000000000) : PFn Try.prog 21 [.ints xs, .ints xs] (· = .bool true) := by
  refine PFn.mk (Spec.body Try.func21 rfl rfl (Try.ntmps21) rfl fun w0 own0 M => ?_)
  have hL := intRows_len xs
  repeat' (first | refine Ops.nil ?_ | refine Then.norm ?_ | refine Cw.seq ?_ | refine Cw.region ?_ | refine Cw.block ?_ | refine Cw.exit ?_ | refine Cw.skip ?_ | refine Cw.ret ?_ | refine Then.exit ?_ | refine Then.ret ?_ | refine InB.exit ?_ | refine InB.norm ?_ | refine InB.ret ?_ | refine InB.exit_ne rfl ?_ | (refine Ops.k_move ?_; first | refine Ops.move rfl rfl ?_ | refine Ops.move_any rfl ?_) | (refine Ops.k_assign ?_; first | refine Ops.assign rfl rfl ?_ | refine Ops.assign_any rfl ?_) | (refine Ops.k_load ?_; first | refine Ops.load_ref_one rfl rfl ?_ | refine Ops.load_ref_agg rfl rfl rfl ?_ | refine Ops.load_box_one rfl goPk rfl rfl ?_ | refine Ops.load_box_agg rfl goPk rfl rfl ?_ | refine Ops.load_own_one rfl goPk (by first | rfl | assumption | (simp [*]; done)) rfl rfl ?_ | refine Ops.load_own_agg rfl goPk (by first | rfl | assumption | (simp [*]; done)) rfl ?_ | refine Ops.load_box_part rfl goPk rfl rfl rfl ?_ | refine Ops.load_q_one rfl goPk (by first | rfl | assumption | (simp [*]; done)) rfl rfl ?_) | (refine Ops.k_c_len ?_; first | refine Ops.len_raw rfl rfl ?_ | refine Ops.len_sl rfl rfl ?_ | refine Ops.len_str rfl rfl rfl ?_ | refine Ops.len_q rfl rfl ?_) | (refine Ops.k_b_lss ?_; first | refine Ops.lss rfl rfl rfl ?_) | (refine Ops.k_b_neq ?_; first | refine Ops.neq rfl rfl rfl ?_) | (refine Ops.k_b_add ?_; first | refine Ops.add rfl rfl (by first | omega | (simp; done) | (simp; omega)) rfl ?_) | (refine Ops.k_indexAddr ?_; first | refine Ops.indexAddr_sl rfl rfl (by omega) (by first | rfl | assumption | (simp [*]; done)) rfl ?_ | refine Ops.indexAddr_own rfl rfl goPk (by first | rfl | omega | (simp; done) | (simp; omega)) (by first | omega | (simp; done) | (simp; omega)) (by first | omega | (simp; done) | (simp; omega)) rfl ?_ | refine Ops.indexAddr_q rfl rfl goPk (by first | rfl | omega | (simp; done) | (simp; omega)) (by first | omega | (simp; done) | (simp; omega)) (by first | omega | (simp; done) | (simp; omega)) rfl ?_) | (refine Cw.k_cond ?_; first | refine Cw.cond_true rfl ?_ | refine Cw.cond_false rfl ?_ | (refine Cw.cond_dec rfl (fun hc => ?_) (fun hc => ?_) <;> try (exfalso; omega)) | refine Cw.cond_bool rfl (fun hc => ?_) (fun hc => ?_)) | (refine Cw.k_draw ?_; first | refine Cw.region_seqC rfl (by decide +kernel) rfl ?_ | refine Cw.region_seq rfl (by decide +kernel) rfl ?_) | refine PSeq.nil ?_ | apply PSeq.cons | apply PSeq.yes rfl rfl rfl | refine PSeq.no rfl rfl rfl ?_ | refine PSeq.pass rfl rfl rfl ?_ | (apply OpV.w; apply OpV.k_move; first | exact OpV.move rfl) | (apply OpV.w; apply OpV.k_assign; first | exact OpV.assign rfl) | (apply OpV.w; apply OpV.k_load; first | exact OpV.load_ref_one rfl | exact OpV.load_ref_agg rfl rfl | exact OpV.load_box_one rfl goPk rfl | exact OpV.load_box_agg rfl goPk (by rfl) | exact OpV.load_box_part rfl goPk (by rfl) (by rfl) | exact OpV.load_own_agg rfl goPk (by first | rfl | assumption | (simp [*]; done)) | exact OpV.load_own_one rfl goPk (by first | rfl | assumption | (simp [*]; done)) rfl | exact OpV.load_q_one rfl goPk (by first | rfl | assumption | (simp [*]; done)) rfl) | (apply OpV.w; apply OpV.k_c_len; first | exact OpV.len_raw rfl | exact OpV.len_sl rfl | exact OpV.len_str rfl rfl) | (apply OpV.w; apply OpV.k_b_lss; first | exact OpV.lss_t rfl rfl (by omega) | exact OpV.lss_f rfl rfl (by omega) | exact OpV.lss rfl rfl) | (apply OpV.w; apply OpV.k_b_neq; first | exact OpV.neq_t rfl rfl (by omega) | exact OpV.neq_f rfl rfl (by omega) | exact OpV.neq rfl rfl) | (apply OpV.w; apply OpV.k_b_add; first | exact OpV.add rfl rfl (by first | omega | (simp; done) | (simp; omega))) | (apply OpV.w; apply OpV.k_indexAddr; first | exact OpV.indexAddr_sl rfl rfl (by omega) (by first | rfl | assumption | (simp [*]; done)) | exact OpV.indexAddr_own rfl rfl goPk (by first | rfl | omega | (simp; done) | (simp; omega)) (by first | omega | (simp; done) | (simp; omega)) (by first | omega | (simp; done) | (simp; omega)) | exact OpV.indexAddr_q rfl rfl goPk (by first | rfl | omega | (simp; done) | (simp; omega)) (by first | omega | (simp; done) | (simp; omega)) (by first | omega | (simp; done) | (simp; omega))))
  refine Cw.loop (ι := Nat) (fun k => k ≤ xs.length) (fun k => [(0, .ints xs), (1, .ints xs), (11, .ints xs), (12, .int (intRows xs).length), (13, .int k)]) (fun _ => []) (fun k => xs.length - k) ⟨0, by omega, (Ent.mk goSub goTk)⟩ ?_
  intro k hk
  by_cases hkl : k < xs.length
  · obtain ⟨d, hd⟩ : ∃ x, xs[k]? = some x := ⟨_, List.getElem?_eq_getElem hkl⟩
    have hrow := intRows_at hd
    repeat' (first | refine Ops.nil ?_ | refine Then.norm ?_ | refine Cw.seq ?_ | refine Cw.region ?_ | refine Cw.block ?_ | refine Cw.exit ?_ | refine Cw.skip ?_ | refine Cw.ret ?_ | refine Then.exit ?_ | refine Then.ret ?_ | refine InB.exit ?_ | refine InB.norm ?_ | refine InB.ret ?_ | refine InB.exit_ne rfl ?_ | (refine Ops.k_move ?_; first | refine Ops.move rfl rfl ?_ | refine Ops.move_any rfl ?_) | (refine Ops.k_assign ?_; first | refine Ops.assign rfl rfl ?_ | refine Ops.assign_any rfl ?_) | (refine Ops.k_load ?_; first | refine Ops.load_ref_one rfl rfl ?_ | refine Ops.load_ref_agg rfl rfl rfl ?_ | refine Ops.load_box_one rfl goPk rfl rfl ?_ | refine Ops.load_box_agg rfl goPk rfl rfl ?_ | refine Ops.load_own_one rfl goPk (by first | rfl | assumption | (simp [*]; done)) rfl rfl ?_ | refine Ops.load_own_agg rfl goPk (by first | rfl | assumption | (simp [*]; done)) rfl ?_ | refine Ops.load_box_part rfl goPk rfl rfl rfl ?_ | refine Ops.load_q_one rfl goPk (by first | rfl | assumption | (simp [*]; done)) rfl rfl ?_) | (refine Ops.k_c_len ?_; first | refine Ops.len_raw rfl rfl ?_ | refine Ops.len_sl rfl rfl ?_ | refine Ops.len_str rfl rfl rfl ?_ | refine Ops.len_q rfl rfl ?_) | (refine Ops.k_b_lss ?_; first | refine Ops.lss rfl rfl rfl ?_) | (refine Ops.k_b_neq ?_; first | refine Ops.neq rfl rfl rfl ?_) | (refine Ops.k_b_add ?_; first | refine Ops.add rfl rfl (by first | omega | (simp; done) | (simp; omega)) rfl ?_) | (refine Ops.k_indexAddr ?_; first | refine Ops.indexAddr_sl rfl rfl (by omega) (by first | rfl | assumption | (simp [*]; done)) rfl ?_ | refine Ops.indexAddr_own rfl rfl goPk (by first | rfl | omega | (simp; done) | (simp; omega)) (by first | omega | (simp; done) | (simp; omega)) (by first | omega | (simp; done) | (simp; omega)) rfl ?_ | refine Ops.indexAddr_q rfl rfl goPk (by first | rfl | omega | (simp; done) | (simp; omega)) (by first | omega | (simp; done) | (simp; omega)) (by first | omega | (simp; done) | (simp; omega)) rfl ?_) | (refine Cw.k_cond ?_; first | refine Cw.cond_true rfl ?_ | refine Cw.cond_false rfl ?_ | (refine Cw.cond_dec rfl (fun hc => ?_) (fun hc => ?_) <;> try (exfalso; omega)) | refine Cw.cond_bool rfl (fun hc => ?_) (fun hc => ?_)) | (refine Cw.k_draw ?_; first | refine Cw.region_seqC rfl (by decide +kernel) rfl ?_ | refine Cw.region_seq rfl (by decide +kernel) rfl ?_) | refine PSeq.nil ?_ | apply PSeq.cons | apply PSeq.yes rfl rfl rfl | refine PSeq.no rfl rfl rfl ?_ | refine PSeq.pass rfl rfl rfl ?_ | (apply OpV.w; apply OpV.k_move; first | exact OpV.move rfl) | (apply OpV.w; apply OpV.k_assign; first | exact OpV.assign rfl) | (apply OpV.w; apply OpV.k_load; first | exact OpV.load_ref_one rfl | exact OpV.load_ref_agg rfl rfl | exact OpV.load_box_one rfl goPk rfl | exact OpV.load_box_agg rfl goPk (by rfl) | exact OpV.load_box_part rfl goPk (by rfl) (by rfl) | exact OpV.load_own_agg rfl goPk (by first | rfl | assumption | (simp [*]; done)) | exact OpV.load_own_one rfl goPk (by first | rfl | assumption | (simp [*]; done)) rfl | exact OpV.load_q_one rfl goPk (by first | rfl | assumption | (simp [*]; done)) rfl) | (apply OpV.w; apply OpV.k_c_len; first | exact OpV.len_raw rfl | exact OpV.len_sl rfl | exact OpV.len_str rfl rfl) | (apply OpV.w; apply OpV.k_b_lss; first | exact OpV.lss_t rfl rfl (by omega) | exact OpV.lss_f rfl rfl (by omega) | exact OpV.lss rfl rfl) | (apply OpV.w; apply OpV.k_b_neq; first | exact OpV.neq_t rfl rfl (by omega) | exact OpV.neq_f rfl rfl (by omega) | exact OpV.neq rfl rfl) | (apply OpV.w; apply OpV.k_b_add; first | exact OpV.add rfl rfl (by first | omega | (simp; done) | (simp; omega))) | (apply OpV.w; apply OpV.k_indexAddr; first | exact OpV.indexAddr_sl rfl rfl (by omega) (by first | rfl | assumption | (simp [*]; done)) | exact OpV.indexAddr_own rfl rfl goPk (by first | rfl | omega | (simp; done) | (simp; omega)) (by first | omega | (simp; done) | (simp; omega)) (by first | omega | (simp; done) | (simp; omega)) | exact OpV.indexAddr_q rfl rfl goPk (by first | rfl | omega | (simp; done) | (simp; omega)) (by first | omega | (simp; done) | (simp; omega)) (by first | omega | (simp; done) | (simp; omega))))
    exact ⟨k + 1, by omega, by omega, (Ent.mk goSub goTk)⟩
  · repeat' (first | refine Ops.nil ?_ | refine Then.norm ?_ | refine Cw.seq ?_ | refine Cw.region ?_ | refine Cw.block ?_ | refine Cw.exit ?_ | refine Cw.skip ?_ | refine Cw.ret ?_ | refine Then.exit ?_ | refine Then.ret ?_ | refine InB.exit ?_ | refine InB.norm ?_ | refine InB.ret ?_ | refine InB.exit_ne rfl ?_ | (refine Ops.k_move ?_; first | refine Ops.move rfl rfl ?_ | refine Ops.move_any rfl ?_) | (refine Ops.k_assign ?_; first | refine Ops.assign rfl rfl ?_ | refine Ops.assign_any rfl ?_) | (refine Ops.k_load ?_; first | refine Ops.load_ref_one rfl rfl ?_ | refine Ops.load_ref_agg rfl rfl rfl ?_ | refine Ops.load_box_one rfl goPk rfl rfl ?_ | refine Ops.load_box_agg rfl goPk rfl rfl ?_ | refine Ops.load_own_one rfl goPk (by first | rfl | assumption | (simp [*]; done)) rfl rfl ?_ | refine Ops.load_own_agg rfl goPk (by first | rfl | assumption | (simp [*]; done)) rfl ?_ | refine Ops.load_box_part rfl goPk rfl rfl rfl ?_ | refine Ops.load_q_one rfl goPk (by first | rfl | assumption | (simp [*]; done)) rfl rfl ?_) | (refine Ops.k_c_len ?_; first | refine Ops.len_raw rfl rfl ?_ | refine Ops.len_sl rfl rfl ?_ | refine Ops.len_str rfl rfl rfl ?_ | refine Ops.len_q rfl rfl ?_) | (refine Ops.k_b_lss ?_; first | refine Ops.lss rfl rfl rfl ?_) | (refine Ops.k_b_neq ?_; first | refine Ops.neq rfl rfl rfl ?_) | (refine Ops.k_b_add ?_; first | refine Ops.add rfl rfl (by first | omega | (simp; done) | (simp; omega)) rfl ?_) | (refine Ops.k_indexAddr ?_; first | refine Ops.indexAddr_sl rfl rfl (by omega) (by first | rfl | assumption | (simp [*]; done)) rfl ?_ | refine Ops.indexAddr_own rfl rfl goPk (by first | rfl | omega | (simp; done) | (simp; omega)) (by first | omega | (simp; done) | (simp; omega)) (by first | omega | (simp; done) | (simp; omega)) rfl ?_ | refine Ops.indexAddr_q rfl rfl goPk (by first | rfl | omega | (simp; done) | (simp; omega)) (by first | omega | (simp; done) | (simp; omega)) (by first | omega | (simp; done) | (simp; omega)) rfl ?_) | (refine Cw.k_cond ?_; first | refine Cw.cond_true rfl ?_ | refine Cw.cond_false rfl ?_ | (refine Cw.cond_dec rfl (fun hc => ?_) (fun hc => ?_) <;> try (exfalso; omega)) | refine Cw.cond_bool rfl (fun hc => ?_) (fun hc => ?_)) | (refine Cw.k_draw ?_; first | refine Cw.region_seqC rfl (by decide +kernel) rfl ?_ | refine Cw.region_seq rfl (by decide +kernel) rfl ?_) | refine PSeq.nil ?_ | apply PSeq.cons | apply PSeq.yes rfl rfl rfl | refine PSeq.no rfl rfl rfl ?_ | refine PSeq.pass rfl rfl rfl ?_ | (apply OpV.w; apply OpV.k_move; first | exact OpV.move rfl) | (apply OpV.w; apply OpV.k_assign; first | exact OpV.assign rfl) | (apply OpV.w; apply OpV.k_load; first | exact OpV.load_ref_one rfl | exact OpV.load_ref_agg rfl rfl | exact OpV.load_box_one rfl goPk rfl | exact OpV.load_box_agg rfl goPk (by rfl) | exact OpV.load_box_part rfl goPk (by rfl) (by rfl) | exact OpV.load_own_agg rfl goPk (by first | rfl | assumption | (simp [*]; done)) | exact OpV.load_own_one rfl goPk (by first | rfl | assumption | (simp [*]; done)) rfl | exact OpV.load_q_one rfl goPk (by first | rfl | assumption | (simp [*]; done)) rfl) | (apply OpV.w; apply OpV.k_c_len; first | exact OpV.len_raw rfl | exact OpV.len_sl rfl | exact OpV.len_str rfl rfl) | (apply OpV.w; apply OpV.k_b_lss; first | exact OpV.lss_t rfl rfl (by omega) | exact OpV.lss_f rfl rfl (by omega) | exact OpV.lss rfl rfl) | (apply OpV.w; apply OpV.k_b_neq; first | exact OpV.neq_t rfl rfl (by omega) | exact OpV.neq_f rfl rfl (by omega) | exact OpV.neq rfl rfl) | (apply OpV.w; apply OpV.k_b_add; first | exact OpV.add rfl rfl (by first | omega | (simp; done) | (simp; omega))) | (apply OpV.w; apply OpV.k_indexAddr; first | exact OpV.indexAddr_sl rfl rfl (by omega) (by first | rfl | assumption | (simp [*]; done)) | exact OpV.indexAddr_own rfl rfl goPk (by first | rfl | omega | (simp; done) | (simp; omega)) (by first | omega | (simp; done) | (simp; omega)) (by first | omega | (simp; done) | (simp; omega)) | exact OpV.indexAddr_q rfl rfl goPk (by first | rfl | omega | (simp; done) | (simp; omega)) (by first | omega | (simp; done) | (simp; omega)) (by first | omega | (simp; done) | (simp; omega))))
    exact Fin.ret Ent.refl (Outs.one rfl rfl) ⟨rfl, rfl⟩
end Lg
end
section
set_option linter.all false
set_option maxRecDepth 100000
set_option maxHeartbeats 1000000
namespace Lg
open Go Go.Proofs
theorem indexFunc_int {l : List Int} {p : Int → Bool} {g : Nat} {caps : List Value} {cin : List Chunk} (hl : l.length ≤ 1000000000)
    (hs : ∀ x, x ∈ l → Spec Try.prog g ([Tr.int x] ++ caps.map Tr.raw) cin (fun r cs => r = Tr.bool (p x) ∧ cs = cin)) :
    Spec Try.prog 61 [Tr.sl 1 (l.map (fun x => [Tr.int x])), Tr.raw (.func (.func g) #[] caps.toArray)] cin (fun r cs => r = Tr.int (idxFrom p l 0) ∧ cs = cin) := by
  refine Spec.body Try.func61 rfl rfl (Try.ntmps61) rfl fun w0 own0 M => ?_
  have hL : (l.map (fun x => [Tr.int x])).length = l.length := List.length_map _
  repeat' (first | refine Ops.nil ?_ | refine Then.norm ?_ | refine Cw.seq ?_ | refine Cw.region ?_ | refine Cw.block ?_ | refine Cw.exit ?_ | refine Cw.skip ?_ | refine Cw.ret ?_ | refine Then.exit ?_ | refine Then.ret ?_ | refine InB.exit ?_ | refine InB.norm ?_ | refine InB.ret ?_ | refine InB.exit_ne rfl ?_ | (refine Ops.k_move ?_; first | refine Ops.move rfl rfl ?_ | refine Ops.move_any rfl ?_) | (refine Ops.k_assign ?_; first | refine Ops.assign rfl rfl ?_ | refine Ops.assign_any rfl ?_) | (refine Ops.k_load ?_; first | refine Ops.load_ref_one rfl rfl ?_ | refine Ops.load_ref_agg rfl rfl rfl ?_ | refine Ops.load_box_one rfl goPk rfl rfl ?_ | refine Ops.load_box_agg rfl goPk rfl rfl ?_ | refine Ops.load_own_one rfl goPk (by first | rfl | assumption | (simp [*]; done)) rfl rfl ?_ | refine Ops.load_own_agg rfl goPk (by first | rfl | assumption | (simp [*]; done)) rfl ?_ | refine Ops.load_box_part rfl goPk rfl rfl rfl ?_ | refine Ops.load_q_one rfl goPk (by first | rfl | assumption | (simp [*]; done)) rfl rfl ?_) | (refine Ops.k_c_len ?_; first | refine Ops.len_raw rfl rfl ?_ | refine Ops.len_sl rfl rfl ?_ | refine Ops.len_str rfl rfl rfl ?_ | refine Ops.len_q rfl rfl ?_) | (refine Ops.k_b_lss ?_; first | refine Ops.lss rfl rfl rfl ?_) | (refine Ops.k_b_add ?_; first | refine Ops.add rfl rfl (by first | omega | (simp; done) | (simp; omega)) rfl ?_) | (refine Ops.k_indexAddr ?_; first | refine Ops.indexAddr_sl rfl rfl (by omega) (by first | rfl | assumption | (simp [*]; done)) rfl ?_ | refine Ops.indexAddr_own rfl rfl goPk (by first | rfl | omega | (simp; done) | (simp; omega)) (by first | omega | (simp; done) | (simp; omega)) (by first | omega | (simp; done) | (simp; omega)) rfl ?_ | refine Ops.indexAddr_q rfl rfl goPk (by first | rfl | omega | (simp; done) | (simp; omega)) (by first | omega | (simp; done) | (simp; omega)) (by first | omega | (simp; done) | (simp; omega)) rfl ?_) | (refine Cw.k_cond ?_; first | refine Cw.cond_true rfl ?_ | refine Cw.cond_false rfl ?_ | (refine Cw.cond_dec rfl (fun hc => ?_) (fun hc => ?_) <;> try (exfalso; omega)) | refine Cw.cond_bool rfl (fun hc => ?_) (fun hc => ?_)))
  refine Cw.loop (ι := Nat) (fun k => k ≤ l.length ∧ idxFrom p l 0 = idxFrom p (l.drop k) k) (fun k => [(0, Tr.sl 1 (l.map (fun x => [Tr.int x]))), (1, Tr.raw (.func (.func g) #[] caps.toArray)), (7, .int (l.map (fun x => [Tr.int x])).length), (8, .int k)]) (fun _ => cin) (fun k => l.length - k) ⟨0, ⟨by omega, rfl⟩, Ent.sub goSub⟩ ?_
  rintro k ⟨hk, hgo⟩
  by_cases hkl : k < l.length
  · obtain ⟨x, hx⟩ : ∃ x, l[k]? = some x := ⟨_, List.getElem?_eq_getElem hkl⟩
    have hrow : (l.map (fun x => [Tr.int x]))[k]? = some [Tr.int x] := rows_at hx
    have hdrop := idxFrom_drop p hx
    rw [hdrop] at hgo
    have hsx := hs x (List.mem_of_getElem? hx)
    by_cases hp : p x = true
    · rw [if_pos hp] at hgo
      rw [hp] at hsx
      repeat' (first | refine Ops.nil ?_ | refine Then.norm ?_ | refine Cw.seq ?_ | refine Cw.region ?_ | refine Cw.block ?_ | refine Cw.exit ?_ | refine Cw.skip ?_ | refine Cw.ret ?_ | refine Then.exit ?_ | refine Then.ret ?_ | refine InB.exit ?_ | refine InB.norm ?_ | refine InB.ret ?_ | refine InB.exit_ne rfl ?_ | (refine Ops.k_move ?_; first | refine Ops.move rfl rfl ?_ | refine Ops.move_any rfl ?_) | (refine Ops.k_assign ?_; first | refine Ops.assign rfl rfl ?_ | refine Ops.assign_any rfl ?_) | (refine Ops.k_load ?_; first | refine Ops.load_ref_one rfl rfl ?_ | refine Ops.load_ref_agg rfl rfl rfl ?_ | refine Ops.load_box_one rfl goPk rfl rfl ?_ | refine Ops.load_box_agg rfl goPk rfl rfl ?_ | refine Ops.load_own_one rfl goPk (by first | rfl | assumption | (simp [*]; done)) rfl rfl ?_ | refine Ops.load_own_agg rfl goPk (by first | rfl | assumption | (simp [*]; done)) rfl ?_ | refine Ops.load_box_part rfl goPk rfl rfl rfl ?_ | refine Ops.load_q_one rfl goPk (by first | rfl | assumption | (simp [*]; done)) rfl rfl ?_) | (refine Ops.k_c_len ?_; first | refine Ops.len_raw rfl rfl ?_ | refine Ops.len_sl rfl rfl ?_ | refine Ops.len_str rfl rfl rfl ?_ | refine Ops.len_q rfl rfl ?_) | (refine Ops.k_b_lss ?_; first | refine Ops.lss rfl rfl rfl ?_) | (refine Ops.k_b_add ?_; first | refine Ops.add rfl rfl (by first | omega | (simp; done) | (simp; omega)) rfl ?_) | (refine Ops.k_indexAddr ?_; first | refine Ops.indexAddr_sl rfl rfl (by omega) (by first | rfl | assumption | (simp [*]; done)) rfl ?_ | refine Ops.indexAddr_own rfl rfl goPk (by first | rfl | omega | (simp; done) | (simp; omega)) (by first | omega | (simp; done) | (simp; omega)) (by first | omega | (simp; done) | (simp; omega)) rfl ?_ | refine Ops.indexAddr_q rfl rfl goPk (by first | rfl | omega | (simp; done) | (simp; omega)) (by first | omega | (simp; done) | (simp; omega)) (by first | omega | (simp; done) | (simp; omega)) rfl ?_) | (refine Cw.k_cond ?_; first | refine Cw.cond_true rfl ?_ | refine Cw.cond_false rfl ?_ | (refine Cw.cond_dec rfl (fun hc => ?_) (fun hc => ?_) <;> try (exfalso; omega)) | refine Cw.cond_bool rfl (fun hc => ?_) (fun hc => ?_)) | (refine Ops.k_calla ?_; first | (refine Ops.call_fn rfl hsx (Evs.cons rfl Evs.nil) (by rw [List.append_nil]) rfl ?_; rintro r cs' ⟨rfl, hcs⟩; rw [hcs, List.append_nil])))
      exact Fin.ret Ent.refl (Outs.one rfl rfl) ⟨by rw [hgo], rfl⟩
    · rw [if_neg hp] at hgo
      rw [Bool.not_eq_true] at hp
      rw [hp] at hsx
      repeat' (first | refine Ops.nil ?_ | refine Then.norm ?_ | refine Cw.seq ?_ | refine Cw.region ?_ | refine Cw.block ?_ | refine Cw.exit ?_ | refine Cw.skip ?_ | refine Cw.ret ?_ | refine Then.exit ?_ | refine Then.ret ?_ | refine InB.exit ?_ | refine InB.norm ?_ | refine InB.ret ?_ | refine InB.exit_ne rfl ?_ | (refine Ops.k_move ?_; first | refine Ops.move rfl rfl ?_ | refine Ops.move_any rfl ?_) | (refine Ops.k_assign ?_; first | refine Ops.assign rfl rfl ?_ | refine Ops.assign_any rfl ?_) | (refine Ops.k_load ?_; first | refine Ops.load_ref_one rfl rfl ?_ | refine Ops.load_ref_agg rfl rfl rfl ?_ | refine Ops.load_box_one rfl goPk rfl rfl ?_ | refine Ops.load_box_agg rfl goPk rfl rfl ?_ | refine Ops.load_own_one rfl goPk (by first | rfl | assumption | (simp [*]; done)) rfl rfl ?_ | refine Ops.load_own_agg rfl goPk (by first | rfl | assumption | (simp [*]; done)) rfl ?_ | refine Ops.load_box_part rfl goPk rfl rfl rfl ?_ | refine Ops.load_q_one rfl goPk (by first | rfl | assumption | (simp [*]; done)) rfl rfl ?_) | (refine Ops.k_c_len ?_; first | refine Ops.len_raw rfl rfl ?_ | refine Ops.len_sl rfl rfl ?_ | refine Ops.len_str rfl rfl rfl ?_ | refine Ops.len_q rfl rfl ?_) | (refine Ops.k_b_lss ?_; first | refine Ops.lss rfl rfl rfl ?_) | (refine Ops.k_b_add ?_; first | refine Ops.add rfl rfl (by first | omega | (simp; done) | (simp; omega)) rfl ?_) | (refine Ops.k_indexAddr ?_; first | refine Ops.indexAddr_sl rfl rfl (by omega) (by first | rfl | assumption | (simp [*]; done)) rfl ?_ | refine Ops.indexAddr_own rfl rfl goPk (by first | rfl | omega | (simp; done) | (simp; omega)) (by first | omega | (simp; done) | (simp; omega)) (by first | omega | (simp; done) | (simp; omega)) rfl ?_ | refine Ops.indexAddr_q rfl rfl goPk (by first | rfl | omega | (simp; done) | (simp; omega)) (by first | omega | (simp; done) | (simp; omega)) (by first | omega | (simp; done) | (simp; omega)) rfl ?_) | (refine Cw.k_cond ?_; first | refine Cw.cond_true rfl ?_ | refine Cw.cond_false rfl ?_ | (refine Cw.cond_dec rfl (fun hc => ?_) (fun hc => ?_) <;> try (exfalso; omega)) | refine Cw.cond_bool rfl (fun hc => ?_) (fun hc => ?_)) | (refine Ops.k_calla ?_; first | (refine Ops.call_fn rfl hsx (Evs.cons rfl Evs.nil) (by rw [List.append_nil]) rfl ?_; rintro r cs' ⟨rfl, hcs⟩; rw [hcs, List.append_nil])))
      exact ⟨k + 1, ⟨by omega, hgo⟩, by omega, Ent.sub goSub⟩
  · rw [List.drop_eq_nil_of_le (by omega), idxFrom] at hgo
    repeat' (first | refine Ops.nil ?_ | refine Then.norm ?_ | refine Cw.seq ?_ | refine Cw.region ?_ | refine Cw.block ?_ | refine Cw.exit ?_ | refine Cw.skip ?_ | refine Cw.ret ?_ | refine Then.exit ?_ | refine Then.ret ?_ | refine InB.exit ?_ | refine InB.norm ?_ | refine InB.ret ?_ | refine InB.exit_ne rfl ?_ | (refine Ops.k_move ?_; first | refine Ops.move rfl rfl ?_ | refine Ops.move_any rfl ?_) | (refine Ops.k_assign ?_; first | refine Ops.assign rfl rfl ?_ | refine Ops.assign_any rfl ?_) | (refine Ops.k_load ?_; first | refine Ops.load_ref_one rfl rfl ?_ | refine Ops.load_ref_agg rfl rfl rfl ?_ | refine Ops.load_box_one rfl goPk rfl rfl ?_ | refine Ops.load_box_agg rfl goPk rfl rfl ?_ | refine Ops.load_own_one rfl goPk (by first | rfl | assumption | (simp [*]; done)) rfl rfl ?_ | refine Ops.load_own_agg rfl goPk (by first | rfl | assumption | (simp [*]; done)) rfl ?_ | refine Ops.load_box_part rfl goPk rfl rfl rfl ?_ | refine Ops.load_q_one rfl goPk (by first | rfl | assumption | (simp [*]; done)) rfl rfl ?_) | (refine Ops.k_c_len ?_; first | refine Ops.len_raw rfl rfl ?_ | refine Ops.len_sl rfl rfl ?_ | refine Ops.len_str rfl rfl rfl ?_ | refine Ops.len_q rfl rfl ?_) | (refine Ops.k_b_lss ?_; first | refine Ops.lss rfl rfl rfl ?_) | (refine Ops.k_b_add ?_; first | refine Ops.add rfl rfl (by first | omega | (simp; done) | (simp; omega)) rfl ?_) | (refine Ops.k_indexAddr ?_; first | refine Ops.indexAddr_sl rfl rfl (by omega) (by first | rfl | assumption | (simp [*]; done)) rfl ?_ | refine Ops.indexAddr_own rfl rfl goPk (by first | rfl | omega | (simp; done) | (simp; omega)) (by first | omega | (simp; done) | (simp; omega)) (by first | omega | (simp; done) | (simp; omega)) rfl ?_ | refine Ops.indexAddr_q rfl rfl goPk (by first | rfl | omega | (simp; done) | (simp; omega)) (by first | omega | (simp; done) | (simp; omega)) (by first | omega | (simp; done) | (simp; omega)) rfl ?_) | (refine Cw.k_cond ?_; first | refine Cw.cond_true rfl ?_ | refine Cw.cond_false rfl ?_ | (refine Cw.cond_dec rfl (fun hc => ?_) (fun hc => ?_) <;> try (exfalso; omega)) | refine Cw.cond_bool rfl (fun hc => ?_) (fun hc => ?_)))
    exact Fin.ret Ent.refl (Outs.one rfl rfl) ⟨by rw [hgo], rfl⟩

theorem containsFunc_int {l : List Int} {p : Int → Bool} {g : Nat} {caps : List Value} {cin : List Chunk} (hl : l.length ≤ 1000000000)
    (hs : ∀ x, x ∈ l → Spec Try.prog g ([Tr.int x] ++ caps.map Tr.raw) cin (fun r cs => r = Tr.bool (p x) ∧ cs = cin)) :
    Spec Try.prog 40 [Tr.sl 1 (l.map (fun x => [Tr.int x])), Tr.raw (.func (.func g) #[] caps.toArray)] cin (fun r cs => r = Tr.bool (l.any p) ∧ cs = cin) := by
  refine Spec.body Try.func40 rfl rfl (Try.ntmps40) rfl fun w0 own0 M => ?_
  repeat' (first | refine Ops.nil ?_ | refine Then.norm ?_ | refine Cw.seq ?_ | refine Cw.region ?_ | refine Cw.block ?_ | refine Cw.exit ?_ | refine Cw.skip ?_ | refine Cw.ret ?_ | refine Then.exit ?_ | refine Then.ret ?_ | refine InB.exit ?_ | refine InB.norm ?_ | refine InB.ret ?_ | refine InB.exit_ne rfl ?_ | (refine Ops.k_move ?_; first | refine Ops.move rfl rfl ?_ | refine Ops.move_any rfl ?_) | (refine Ops.k_assign ?_; first | refine Ops.assign rfl rfl ?_ | refine Ops.assign_any rfl ?_) | (refine Ops.k_b_geq ?_; first | refine Ops.geq rfl rfl rfl ?_) | (refine Cw.k_cond ?_; first | refine Cw.cond_true rfl ?_ | refine Cw.cond_false rfl ?_ | (refine Cw.cond_dec rfl (fun hc => ?_) (fun hc => ?_) <;> try (exfalso; omega)) | refine Cw.cond_bool rfl (fun hc => ?_) (fun hc => ?_)) | (refine Ops.k_calla ?_; first | (refine Ops.k_callf 61 ?_; (refine Ops.call (indexFunc_int hl hs) (Evs.cons rfl (Evs.cons rfl Evs.nil)) (by rw [List.append_nil]) rfl ?_; rintro r cs' ⟨rfl, hcs⟩; rw [hcs, List.append_nil]))))
  refine Fin.ret Ent.refl (Outs.one rfl rfl) ⟨congrArg Tr.bool ?_, rfl⟩
  have := idxFrom_ge p l 0 (Int.le_refl _)
  by_cases h : 0 ≤ idxFrom p l 0
  · simp [h, this.1 h]
  · have h2 : l.any p = false := by rw [← Bool.not_eq_true]; exact fun e => h (this.2 e)
    simp [h, h2]

end Lg
end
