/- A part of the proof of a law of this seat: it adds no condition. By an AI agent. -/
import Derived.Test.YtckmbloodnndeaaGreatDoorTypes
section
set_option linter.all false
set_option maxRecDepth 100000
set_option maxHeartbeats 1000000
namespace Lg
open Go Go.Proofs

theorem tmod_range (x n : Int) (hn : 1 ≤ n) : -n < x.tmod n ∧ x.tmod n < n := by
  rw [tmod_eq_if]
  have h1 := Int.emod_nonneg x (show n ≠ 0 by omega)
  have h2 := Int.emod_lt_of_pos x (show 0 < n by omega)
  have h3 := Int.emod_nonneg (-x) (show n ≠ 0 by omega)
  have h4 := Int.emod_lt_of_pos (-x) (show 0 < n by omega)
  split <;> omega

/-- a number of a range, or 0 -/
def InRange (n v : Int) : Prop := 0 ≤ v ∧ (v < n ∨ v = 0)

theorem below_fn (x n : Int) (hn : -9223372036854775808 ≤ n ∧ n ≤ 9223372036854775807) : PFn Tryz.prog 55 [.int x, .int n] (fun r => ∃ v, r = .int v ∧ InRange n v) := by
  refine PFn.mk (Spec.body Tryz.func55 rfl rfl (Tryz.ntmps55) rfl fun w0 own0 M => ?_)
  by_cases h1 : n < 1
  · repeat' (first | refine Ops.nil ?_ | refine Then.norm ?_ | refine Cw.seq ?_ | refine Cw.region ?_ | refine Cw.block ?_ | refine Cw.exit ?_ | refine Cw.skip ?_ | refine Cw.ret ?_ | refine Then.exit ?_ | refine Then.ret ?_ | refine InB.exit ?_ | refine InB.norm ?_ | refine InB.ret ?_ | refine InB.exit_ne rfl ?_ | (refine Ops.k_move ?_; first | refine Ops.move rfl rfl ?_ | refine Ops.move_any rfl ?_) | (refine Ops.k_assign ?_; first | refine Ops.assign rfl rfl ?_ | refine Ops.assign_any rfl ?_) | (refine Ops.k_b_lss ?_; first | refine Ops.lss rfl rfl rfl ?_) | (refine Ops.k_b_add ?_; first | refine Ops.add rfl rfl (by first | omega | (simp; done) | (simp; omega)) rfl ?_) | (refine Ops.k_b_rem ?_; first | refine Ops.rem rfl rfl (by omega) rfl ?_ | refine Ops.remT rfl rfl (by omega) rfl ?_) | (refine Cw.k_cond ?_; first | refine Cw.cond_true rfl ?_ | refine Cw.cond_false rfl ?_ | (refine Cw.cond_dec rfl (fun hc => ?_) (fun hc => ?_) <;> try (exfalso; omega)) | refine Cw.cond_bool rfl (fun hc => ?_) (fun hc => ?_)))
    refine Fin.ret Ent.refl (Outs.one rfl rfl) ⟨rfl, 0, rfl, ?_⟩
    exact ⟨Int.le_refl _, .inr rfl⟩
  · have ht := tmod_range x n (by omega)
    repeat' (first | refine Ops.nil ?_ | refine Then.norm ?_ | refine Cw.seq ?_ | refine Cw.region ?_ | refine Cw.block ?_ | refine Cw.exit ?_ | refine Cw.skip ?_ | refine Cw.ret ?_ | refine Then.exit ?_ | refine Then.ret ?_ | refine InB.exit ?_ | refine InB.norm ?_ | refine InB.ret ?_ | refine InB.exit_ne rfl ?_ | (refine Ops.k_move ?_; first | refine Ops.move rfl rfl ?_ | refine Ops.move_any rfl ?_) | (refine Ops.k_assign ?_; first | refine Ops.assign rfl rfl ?_ | refine Ops.assign_any rfl ?_) | (refine Ops.k_b_lss ?_; first | refine Ops.lss rfl rfl rfl ?_) | (refine Ops.k_b_add ?_; first | refine Ops.add rfl rfl (by first | omega | (simp; done) | (simp; omega)) rfl ?_) | (refine Ops.k_b_rem ?_; first | refine Ops.rem rfl rfl (by omega) rfl ?_ | refine Ops.remT rfl rfl (by omega) rfl ?_) | (refine Cw.k_cond ?_; first | refine Cw.cond_true rfl ?_ | refine Cw.cond_false rfl ?_ | (refine Cw.cond_dec rfl (fun hc => ?_) (fun hc => ?_) <;> try (exfalso; omega)) | refine Cw.cond_bool rfl (fun hc => ?_) (fun hc => ?_)))
    all_goals (refine Fin.ret Ent.refl (Outs.one rfl rfl) ⟨rfl, _, rfl, ?_⟩; unfold InRange; omega)

/-- the Stream's own Next -/
theorem next_gen (n : Int) (hn : -9223372036854775808 ≤ n ∧ n ≤ 9223372036854775807) :
    Gen Tryz.prog 25 20 [.int n] 1 (fun r => ∃ v, r = .int v ∧ InRange n v) := by
  unfold Gen
  intro b xs N hN
  refine Spec.body Tryz.func20 rfl rfl (Tryz.ntmps20) rfl fun w0 own0 M => ?_
  refine Cw.open_strm fun m hm => ?_
  by_cases h0 : (intRows xs).length = 0
  · repeat' (first | refine Ops.nil ?_ | refine Then.norm ?_ | refine Cw.seq ?_ | refine Cw.region ?_ | refine Cw.block ?_ | refine Cw.exit ?_ | refine Cw.skip ?_ | refine Cw.ret ?_ | refine Then.exit ?_ | refine Then.ret ?_ | refine InB.exit ?_ | refine InB.norm ?_ | refine InB.ret ?_ | refine InB.exit_ne rfl ?_ | (refine Ops.k_move ?_; first | refine Ops.move rfl rfl ?_ | refine Ops.move_any rfl ?_) | (refine Ops.k_assign ?_; first | refine Ops.assign rfl rfl ?_ | refine Ops.assign_any rfl ?_) | (refine Ops.k_load ?_; first | refine Ops.load_ref_one rfl rfl ?_ | refine Ops.load_ref_agg rfl rfl rfl ?_ | refine Ops.load_box_one rfl goPk rfl rfl ?_ | refine Ops.load_box_agg rfl goPk rfl rfl ?_ | refine Ops.load_own_one rfl goPk (by first | rfl | assumption | (simp [*]; done)) rfl rfl ?_ | refine Ops.load_own_agg rfl goPk (by first | rfl | assumption | (simp [*]; done)) rfl ?_ | refine Ops.load_box_part rfl goPk rfl rfl rfl ?_ | refine Ops.load_q_one rfl goPk (by first | rfl | assumption | (simp [*]; done)) rfl rfl ?_) | (refine Ops.k_store ?_; first | refine Ops.store_box rfl rfl goPk rfl rfl ?_ | refine Ops.store_own1 rfl rfl goPk (by first | rfl | assumption | (simp [*]; done)) (by decide) ?_ | refine Ops.store_own_all rfl rfl goPk (by first | assumption | omega | (simp; omega) | (simp [*]; done)) rfl ?_) | (refine Ops.k_c_len ?_; first | refine Ops.len_raw rfl rfl ?_ | refine Ops.len_sl rfl rfl ?_ | refine Ops.len_str rfl rfl rfl ?_ | refine Ops.len_q rfl rfl ?_) | (refine Ops.k_b_eql ?_; first | refine Ops.eql rfl rfl rfl ?_) | (refine Ops.k_b_add ?_; first | refine Ops.add rfl rfl (by first | omega | (simp; done) | (simp; omega)) rfl ?_) | (refine Ops.k_b_sub ?_; first | refine Ops.sub rfl rfl (by first | omega | (simp; done) | (simp; omega)) rfl ?_) | (refine Ops.k_b_mul ?_; first | refine Ops.mul rfl rfl (by first | omega | assumption) rfl ?_) | (refine Ops.k_b_quo ?_; first | refine Ops.quo rfl rfl (by omega) rfl ?_ | refine Ops.quoT rfl rfl (by omega) rfl ?_) | (refine Ops.k_b_rem ?_; first | refine Ops.rem rfl rfl (by omega) rfl ?_ | refine Ops.remT rfl rfl (by omega) rfl ?_) | (refine Ops.k_nilCheck ?_; first | refine Ops.nilCheck_raw rfl rfl ?_ | refine Ops.nilCheck_ref rfl rfl ?_) | (refine Ops.k_fieldAddr ?_; first | refine Ops.fieldAddr_raw rfl rfl ?_ | refine Ops.fieldAddr_ref rfl rfl ?_ | refine Ops.fieldAddr_eptr rfl rfl ?_) | (refine Ops.k_indexAddr ?_; first | refine Ops.indexAddr_sl rfl rfl (by omega) (by first | rfl | assumption | (simp [*]; done)) rfl ?_ | refine Ops.indexAddr_own rfl rfl goPk (by first | rfl | omega | (simp; done) | (simp; omega)) (by first | omega | (simp; done) | (simp; omega)) (by first | omega | (simp; done) | (simp; omega)) rfl ?_ | refine Ops.indexAddr_q rfl rfl goPk (by first | rfl | omega | (simp; done) | (simp; omega)) (by first | omega | (simp; done) | (simp; omega)) (by first | omega | (simp; done) | (simp; omega)) rfl ?_) | (refine Cw.k_cond ?_; first | refine Cw.cond_true rfl ?_ | refine Cw.cond_false rfl ?_ | (refine Cw.cond_dec rfl (fun hc => ?_) (fun hc => ?_) <;> try (exfalso; omega)) | refine Cw.cond_bool rfl (fun hc => ?_) (fun hc => ?_)) | (refine Ops.k_calla ?_; first | (refine Ops.k_callf 55 ?_; (refine Ops.callF (below_fn _ _ (by omega)) (Evs.cons rfl (Evs.cons rfl Evs.nil)) rfl ?_; rintro r ⟨v, rfl, hv⟩))) | (refine Cw.k_draw ?_; first | refine Cw.region_seqC rfl (by decide +kernel) rfl ?_ | refine Cw.region_seq rfl (by decide +kernel) rfl ?_) | refine PSeq.nil ?_ | apply PSeq.cons | apply PSeq.yes rfl rfl rfl | refine PSeq.no rfl rfl rfl ?_ | refine PSeq.pass rfl rfl rfl ?_ | (apply OpV.w; apply OpV.k_move; first | exact OpV.move rfl) | (apply OpV.w; apply OpV.k_assign; first | exact OpV.assign rfl) | (apply OpV.w; apply OpV.k_load; first | exact OpV.load_ref_one rfl | exact OpV.load_ref_agg rfl rfl | exact OpV.load_box_one rfl goPk rfl | exact OpV.load_box_agg rfl goPk (by rfl) | exact OpV.load_box_part rfl goPk (by rfl) (by rfl) | exact OpV.load_own_agg rfl goPk (by first | rfl | assumption | (simp [*]; done)) | exact OpV.load_own_one rfl goPk (by first | rfl | assumption | (simp [*]; done)) rfl | exact OpV.load_q_one rfl goPk (by first | rfl | assumption | (simp [*]; done)) rfl) | (apply OpV.w; apply OpV.k_c_len; first | exact OpV.len_raw rfl | exact OpV.len_sl rfl | exact OpV.len_str rfl rfl) | (apply OpV.w; apply OpV.k_b_eql; first | exact OpV.eql_t rfl rfl (by omega) | exact OpV.eql_f rfl rfl (by omega) | exact OpV.eql rfl rfl) | (apply OpV.w; apply OpV.k_b_add; first | exact OpV.add rfl rfl (by first | omega | (simp; done) | (simp; omega))) | (apply OpV.w; apply OpV.k_b_sub; first | exact OpV.sub rfl rfl (by first | omega | (simp; done) | (simp; omega))) | (apply OpV.w; apply OpV.k_b_mul; first | exact OpV.mul rfl rfl (by first | omega | assumption)) | (apply OpV.w; apply OpV.k_b_quo; first | exact OpV.quo rfl rfl (by omega) | exact OpV.quoT rfl rfl (by omega)) | (apply OpV.w; apply OpV.k_b_rem; first | exact OpV.rem rfl rfl (by omega) | exact OpV.remT rfl rfl (by omega)) | (apply OpV.w; apply OpV.k_nilCheck; first | exact OpV.nilCheck_raw rfl | exact OpV.nilCheck_ref rfl) | (apply OpV.w; apply OpV.k_fieldAddr; first | exact OpV.fieldAddr_raw rfl | exact OpV.fieldAddr_ref rfl | exact OpV.fieldAddr_eptr rfl) | (apply OpV.w; apply OpV.k_indexAddr; first | exact OpV.indexAddr_sl rfl rfl (by omega) (by first | rfl | assumption | (simp [*]; done)) | exact OpV.indexAddr_own rfl rfl goPk (by first | rfl | omega | (simp; done) | (simp; omega)) (by first | omega | (simp; done) | (simp; omega)) (by first | omega | (simp; done) | (simp; omega)) | exact OpV.indexAddr_q rfl rfl goPk (by first | rfl | omega | (simp; done) | (simp; omega)) (by first | omega | (simp; done) | (simp; omega)) (by first | omega | (simp; done) | (simp; omega))))
    refine Fin.ret (Ent.shut_strm (m := m + 1) (n := N + 1) (by omega)) (Outs.one rfl rfl) ⟨rfl, v, rfl, hv⟩
  · have hlt : ((↑m + 1 - 1) % ↑(intRows xs).length : Int).toNat < (intRows xs).length := by
      have h1 := Int.emod_nonneg ((m : Int) + 1 - 1) (show ((intRows xs).length : Int) ≠ 0 by omega)
      have h2 := Int.emod_lt_of_pos ((m : Int) + 1 - 1) (show 0 < ((intRows xs).length : Int) by omega)
      omega
    obtain ⟨y, hy⟩ : ∃ y, (intRows xs)[((↑m + 1 - 1) % ↑(intRows xs).length : Int).toNat]? = some [Tr.int y] := by
      have hlt' := hlt
      generalize ((↑m + 1 - 1) % ↑(intRows xs).length : Int).toNat = j at hlt'
      rw [intRows_len] at hlt'
      exact ⟨xs[j], by simp [intRows, hlt']⟩
    have hi0 := Int.emod_nonneg ((m : Int) + 1 - 1) (show ((intRows xs).length : Int) ≠ 0 by omega)
    repeat' (first | refine Ops.nil ?_ | refine Then.norm ?_ | refine Cw.seq ?_ | refine Cw.region ?_ | refine Cw.block ?_ | refine Cw.exit ?_ | refine Cw.skip ?_ | refine Cw.ret ?_ | refine Then.exit ?_ | refine Then.ret ?_ | refine InB.exit ?_ | refine InB.norm ?_ | refine InB.ret ?_ | refine InB.exit_ne rfl ?_ | (refine Ops.k_move ?_; first | refine Ops.move rfl rfl ?_ | refine Ops.move_any rfl ?_) | (refine Ops.k_assign ?_; first | refine Ops.assign rfl rfl ?_ | refine Ops.assign_any rfl ?_) | (refine Ops.k_load ?_; first | refine Ops.load_ref_one rfl rfl ?_ | refine Ops.load_ref_agg rfl rfl rfl ?_ | refine Ops.load_box_one rfl goPk rfl rfl ?_ | refine Ops.load_box_agg rfl goPk rfl rfl ?_ | refine Ops.load_own_one rfl goPk (by first | rfl | assumption | (simp [*]; done)) rfl rfl ?_ | refine Ops.load_own_agg rfl goPk (by first | rfl | assumption | (simp [*]; done)) rfl ?_ | refine Ops.load_box_part rfl goPk rfl rfl rfl ?_ | refine Ops.load_q_one rfl goPk (by first | rfl | assumption | (simp [*]; done)) rfl rfl ?_) | (refine Ops.k_store ?_; first | refine Ops.store_box rfl rfl goPk rfl rfl ?_ | refine Ops.store_own1 rfl rfl goPk (by first | rfl | assumption | (simp [*]; done)) (by decide) ?_ | refine Ops.store_own_all rfl rfl goPk (by first | assumption | omega | (simp; omega) | (simp [*]; done)) rfl ?_) | (refine Ops.k_c_len ?_; first | refine Ops.len_raw rfl rfl ?_ | refine Ops.len_sl rfl rfl ?_ | refine Ops.len_str rfl rfl rfl ?_ | refine Ops.len_q rfl rfl ?_) | (refine Ops.k_b_eql ?_; first | refine Ops.eql rfl rfl rfl ?_) | (refine Ops.k_b_add ?_; first | refine Ops.add rfl rfl (by first | omega | (simp; done) | (simp; omega)) rfl ?_ | refine Ops.addW rfl rfl rfl ?_) | (refine Ops.k_b_sub ?_; first | refine Ops.sub rfl rfl (by first | omega | (simp; done) | (simp; omega)) rfl ?_) | (refine Ops.k_b_mul ?_; first | refine Ops.mul rfl rfl (by first | omega | assumption) rfl ?_ | refine Ops.mulW rfl rfl rfl ?_) | (refine Ops.k_b_quo ?_; first | refine Ops.quo rfl rfl (by omega) rfl ?_ | refine Ops.quoT rfl rfl (by omega) rfl ?_) | (refine Ops.k_b_rem ?_; first | refine Ops.rem rfl rfl (by omega) rfl ?_ | refine Ops.remT rfl rfl (by omega) rfl ?_) | (refine Ops.k_nilCheck ?_; first | refine Ops.nilCheck_raw rfl rfl ?_ | refine Ops.nilCheck_ref rfl rfl ?_) | (refine Ops.k_fieldAddr ?_; first | refine Ops.fieldAddr_raw rfl rfl ?_ | refine Ops.fieldAddr_ref rfl rfl ?_ | refine Ops.fieldAddr_eptr rfl rfl ?_) | (refine Ops.k_indexAddr ?_; first | refine Ops.indexAddr_sl rfl rfl (by omega) (by first | rfl | assumption | (simp [*]; done)) rfl ?_ | refine Ops.indexAddr_own rfl rfl goPk (by first | rfl | omega | (simp; done) | (simp; omega)) (by first | omega | (simp; done) | (simp; omega)) (by first | omega | (simp; done) | (simp; omega)) rfl ?_ | refine Ops.indexAddr_q rfl rfl goPk (by first | rfl | omega | (simp; done) | (simp; omega)) (by first | omega | (simp; done) | (simp; omega)) (by first | omega | (simp; done) | (simp; omega)) rfl ?_) | (refine Cw.k_cond ?_; first | refine Cw.cond_true rfl ?_ | refine Cw.cond_false rfl ?_ | (refine Cw.cond_dec rfl (fun hc => ?_) (fun hc => ?_) <;> try (exfalso; omega)) | refine Cw.cond_bool rfl (fun hc => ?_) (fun hc => ?_)) | (refine Ops.k_calla ?_; first | (refine Ops.k_callf 55 ?_; (refine Ops.callF (below_fn _ _ (by omega)) (Evs.cons rfl (Evs.cons rfl Evs.nil)) rfl ?_; rintro r ⟨v, rfl, hv⟩))) | (refine Cw.k_draw ?_; first | refine Cw.region_seqC rfl (by decide +kernel) rfl ?_ | refine Cw.region_seq rfl (by decide +kernel) rfl ?_) | refine PSeq.nil ?_ | apply PSeq.cons | apply PSeq.yes rfl rfl rfl | refine PSeq.no rfl rfl rfl ?_ | refine PSeq.pass rfl rfl rfl ?_ | (apply OpV.w; apply OpV.k_move; first | exact OpV.move rfl) | (apply OpV.w; apply OpV.k_assign; first | exact OpV.assign rfl) | (apply OpV.w; apply OpV.k_load; first | exact OpV.load_ref_one rfl | exact OpV.load_ref_agg rfl rfl | exact OpV.load_box_one rfl goPk rfl | exact OpV.load_box_agg rfl goPk (by rfl) | exact OpV.load_box_part rfl goPk (by rfl) (by rfl) | exact OpV.load_own_agg rfl goPk (by first | rfl | assumption | (simp [*]; done)) | exact OpV.load_own_one rfl goPk (by first | rfl | assumption | (simp [*]; done)) rfl | exact OpV.load_q_one rfl goPk (by first | rfl | assumption | (simp [*]; done)) rfl) | (apply OpV.w; apply OpV.k_c_len; first | exact OpV.len_raw rfl | exact OpV.len_sl rfl | exact OpV.len_str rfl rfl) | (apply OpV.w; apply OpV.k_b_eql; first | exact OpV.eql_t rfl rfl (by omega) | exact OpV.eql_f rfl rfl (by omega) | exact OpV.eql rfl rfl) | (apply OpV.w; apply OpV.k_b_add; first | exact OpV.add rfl rfl (by first | omega | (simp; done) | (simp; omega))) | (apply OpV.w; apply OpV.k_b_sub; first | exact OpV.sub rfl rfl (by first | omega | (simp; done) | (simp; omega))) | (apply OpV.w; apply OpV.k_b_mul; first | exact OpV.mul rfl rfl (by first | omega | assumption)) | (apply OpV.w; apply OpV.k_b_quo; first | exact OpV.quo rfl rfl (by omega) | exact OpV.quoT rfl rfl (by omega)) | (apply OpV.w; apply OpV.k_b_rem; first | exact OpV.rem rfl rfl (by omega) | exact OpV.remT rfl rfl (by omega)) | (apply OpV.w; apply OpV.k_nilCheck; first | exact OpV.nilCheck_raw rfl | exact OpV.nilCheck_ref rfl) | (apply OpV.w; apply OpV.k_fieldAddr; first | exact OpV.fieldAddr_raw rfl | exact OpV.fieldAddr_ref rfl | exact OpV.fieldAddr_eptr rfl) | (apply OpV.w; apply OpV.k_indexAddr; first | exact OpV.indexAddr_sl rfl rfl (by omega) (by first | rfl | assumption | (simp [*]; done)) | exact OpV.indexAddr_own rfl rfl goPk (by first | rfl | omega | (simp; done) | (simp; omega)) (by first | omega | (simp; done) | (simp; omega)) (by first | omega | (simp; done) | (simp; omega)) | exact OpV.indexAddr_q rfl rfl goPk (by first | rfl | omega | (simp; done) | (simp; omega)) (by first | omega | (simp; done) | (simp; omega)) (by first | omega | (simp; done) | (simp; omega))))
    refine Fin.ret (Ent.shut_strm (m := m + 1) (n := N + 1) (by omega)) (Outs.one rfl rfl) ⟨rfl, v, rfl, hv⟩

theorem range_gen (lo hi : Int) (h : -1000000000000 ≤ lo ∧ lo ≤ hi ∧ hi ≤ 1000000000000) :
    Gen Tryz.prog 25 22 [.int lo, .int hi] 1 (fun r => ∃ v, r = .int v ∧ lo ≤ v ∧ v ≤ hi) := by
  unfold Gen
  intro b xs N hN
  refine Spec.body Tryz.func22 rfl rfl (Tryz.ntmps22) rfl fun w0 own0 M => ?_
  repeat' (first | refine Ops.nil ?_ | refine Then.norm ?_ | refine Cw.seq ?_ | refine Cw.region ?_ | refine Cw.block ?_ | refine Cw.exit ?_ | refine Cw.skip ?_ | refine Cw.ret ?_ | refine Then.exit ?_ | refine Then.ret ?_ | refine InB.exit ?_ | refine InB.norm ?_ | refine InB.ret ?_ | refine InB.exit_ne rfl ?_ | (refine Ops.k_move ?_; first | refine Ops.move rfl rfl ?_ | refine Ops.move_any rfl ?_) | (refine Ops.k_assign ?_; first | refine Ops.assign rfl rfl ?_ | refine Ops.assign_any rfl ?_) | (refine Ops.k_b_lss ?_; first | refine Ops.lss rfl rfl rfl ?_) | (refine Ops.k_b_add ?_; first | refine Ops.add rfl rfl (by first | omega | (simp; done) | (simp; omega)) rfl ?_) | (refine Ops.k_b_sub ?_; first | refine Ops.sub rfl rfl (by first | omega | (simp; done) | (simp; omega)) rfl ?_) | (refine Cw.k_cond ?_; first | refine Cw.cond_true rfl ?_ | refine Cw.cond_false rfl ?_ | (refine Cw.cond_dec rfl (fun hc => ?_) (fun hc => ?_) <;> try (exfalso; omega)) | refine Cw.cond_bool rfl (fun hc => ?_) (fun hc => ?_)) | (refine Ops.k_calla ?_; first | (refine Ops.k_callf 20 ?_; (refine Ops.callG (next_gen _ (by omega)) (Evs.cons rfl (Evs.cons rfl Evs.nil)) goPk (by omega) rfl ?_; rintro r ⟨v, rfl, hv⟩; unfold InRange at hv))))
  exact Fin.ret Ent.refl (Outs.one rfl rfl) ⟨rfl, _, rfl, by omega⟩

theorem flip_gen (n : Int) (h : -1000000000000 ≤ n ∧ n ≤ 1000000000000) :
    Gen Tryz.prog 25 21 [.int n] 1 (fun r => ∃ v, r = .bool v) := by
  unfold Gen
  intro b xs N hN
  refine Spec.body Tryz.func21 rfl rfl (Tryz.ntmps21) rfl fun w0 own0 M => ?_
  repeat' (first | refine Ops.nil ?_ | refine Then.norm ?_ | refine Cw.seq ?_ | refine Cw.region ?_ | refine Cw.block ?_ | refine Cw.exit ?_ | refine Cw.skip ?_ | refine Cw.ret ?_ | refine Then.exit ?_ | refine Then.ret ?_ | refine InB.exit ?_ | refine InB.norm ?_ | refine InB.ret ?_ | refine InB.exit_ne rfl ?_ | (refine Ops.k_move ?_; first | refine Ops.move rfl rfl ?_ | refine Ops.move_any rfl ?_) | (refine Ops.k_assign ?_; first | refine Ops.assign rfl rfl ?_ | refine Ops.assign_any rfl ?_) | (refine Ops.k_b_eql ?_; first | refine Ops.eql rfl rfl rfl ?_) | (refine Cw.k_cond ?_; first | refine Cw.cond_true rfl ?_ | refine Cw.cond_false rfl ?_ | (refine Cw.cond_dec rfl (fun hc => ?_) (fun hc => ?_) <;> try (exfalso; omega)) | refine Cw.cond_bool rfl (fun hc => ?_) (fun hc => ?_)) | (refine Ops.k_calla ?_; first | (refine Ops.k_callf 20 ?_; (refine Ops.callG (next_gen _ (by omega)) (Evs.cons rfl (Evs.cons rfl Evs.nil)) goPk (by omega) rfl ?_; rintro r ⟨v, rfl, hv⟩; unfold InRange at hv))))
  exact Fin.ret Ent.refl (Outs.one rfl rfl) ⟨rfl, _, rfl⟩

/-- a list of the numbers of a slice of one cell each -/
inductive IsInts : List (List Tr) → List Int → Prop
  | nil : IsInts [] []
  | cons {rows : List (List Tr)} {l : List Int} {x : Int} (h : IsInts rows l) : IsInts ([Tr.int x] :: rows) (x :: l)
theorem IsInts.eq {rows : List (List Tr)} {l : List Int} (h : IsInts rows l) : rows = intRows l := by
  induction h with
  | nil => rfl
  | cons h ih => rw [ih]; rfl

/-- one of some numbers -/
theorem pick_gen {rows : List (List Tr)} {l : List Int} (hr : IsInts rows l) (h : 0 < l.length ∧ l.length ≤ 100000) :
    Gen Tryz.prog 25 8 [.sl 1 rows] 1 (fun r => ∃ v, r = .int v ∧ v ∈ l) := by
  have h := hr.eq
  subst h
  unfold Gen
  intro b xs N hN
  refine Spec.body Tryz.func8 rfl rfl (Tryz.ntmps8) rfl fun w0 own0 M => ?_
  have hl := intRows_len l
  repeat' (first | refine Ops.nil ?_ | refine Then.norm ?_ | refine Cw.seq ?_ | refine Cw.region ?_ | refine Cw.block ?_ | refine Cw.exit ?_ | refine Cw.skip ?_ | refine Cw.ret ?_ | refine Then.exit ?_ | refine Then.ret ?_ | refine InB.exit ?_ | refine InB.norm ?_ | refine InB.ret ?_ | refine InB.exit_ne rfl ?_ | (refine Ops.k_move ?_; first | refine Ops.move rfl rfl ?_ | refine Ops.move_any rfl ?_) | (refine Ops.k_assign ?_; first | refine Ops.assign rfl rfl ?_ | refine Ops.assign_any rfl ?_) | (refine Ops.k_load ?_; first | refine Ops.load_ref_one rfl rfl ?_ | refine Ops.load_ref_agg rfl rfl rfl ?_ | refine Ops.load_box_one rfl goPk rfl rfl ?_ | refine Ops.load_box_agg rfl goPk rfl rfl ?_ | refine Ops.load_own_one rfl goPk (by first | rfl | assumption | (simp [*]; done)) rfl rfl ?_ | refine Ops.load_own_agg rfl goPk (by first | rfl | assumption | (simp [*]; done)) rfl ?_ | refine Ops.load_box_part rfl goPk rfl rfl rfl ?_ | refine Ops.load_q_one rfl goPk (by first | rfl | assumption | (simp [*]; done)) rfl rfl ?_) | (refine Ops.k_c_len ?_; first | refine Ops.len_raw rfl rfl ?_ | refine Ops.len_sl rfl rfl ?_ | refine Ops.len_str rfl rfl rfl ?_ | refine Ops.len_q rfl rfl ?_) | (refine Ops.k_indexAddr ?_; first | refine Ops.indexAddr_sl rfl rfl (by omega) (by first | rfl | assumption | (simp [*]; done)) rfl ?_ | refine Ops.indexAddr_own rfl rfl goPk (by first | rfl | omega | (simp; done) | (simp; omega)) (by first | omega | (simp; done) | (simp; omega)) (by first | omega | (simp; done) | (simp; omega)) rfl ?_ | refine Ops.indexAddr_q rfl rfl goPk (by first | rfl | omega | (simp; done) | (simp; omega)) (by first | omega | (simp; done) | (simp; omega)) (by first | omega | (simp; done) | (simp; omega)) rfl ?_) | (refine Cw.k_cond ?_; first | refine Cw.cond_true rfl ?_ | refine Cw.cond_false rfl ?_ | (refine Cw.cond_dec rfl (fun hc => ?_) (fun hc => ?_) <;> try (exfalso; omega)) | refine Cw.cond_bool rfl (fun hc => ?_) (fun hc => ?_)) | (refine Ops.k_calla ?_; first | (refine Ops.k_callf 20 ?_; (refine Ops.callG (next_gen _ (by omega)) (Evs.cons rfl (Evs.cons rfl Evs.nil)) goPk (by omega) rfl ?_; rintro r ⟨v, rfl, hv⟩; unfold InRange at hv; have hj : v.toNat < l.length := (by omega); have hj2 := intRows_get hj))))
  exact Fin.ret Ent.refl (Outs.one rfl rfl) ⟨rfl, _, rfl, List.getElem_mem hj⟩

def outB (n lo hi : Int) : Bool := decide (n < lo ∨ hi < n)
theorem outB_eq {n lo hi : Int} : outB n lo hi = true ↔ (n < lo ∨ hi < n) := by simp [outB]
theorem out_fn (n lo hi : Int) : PFn Tryz.prog 50 [.int n, .int lo, .int hi] (· = .bool (outB n lo hi)) := by
  refine PFn.mk (Spec.body Tryz.func50 rfl rfl (Tryz.ntmps50) rfl fun w0 own0 M => ?_)
  by_cases h1 : n < lo
  · repeat' (first | refine Ops.nil ?_ | refine Then.norm ?_ | refine Cw.seq ?_ | refine Cw.region ?_ | refine Cw.block ?_ | refine Cw.exit ?_ | refine Cw.skip ?_ | refine Cw.ret ?_ | refine Then.exit ?_ | refine Then.ret ?_ | refine InB.exit ?_ | refine InB.norm ?_ | refine InB.ret ?_ | refine InB.exit_ne rfl ?_ | (refine Ops.k_move ?_; first | refine Ops.move rfl rfl ?_ | refine Ops.move_any rfl ?_) | (refine Ops.k_assign ?_; first | refine Ops.assign rfl rfl ?_ | refine Ops.assign_any rfl ?_) | (refine Ops.k_b_lss ?_; first | refine Ops.lss rfl rfl rfl ?_) | (refine Ops.k_b_gtr ?_; first | refine Ops.gtr rfl rfl rfl ?_) | (refine Ops.k_pick ?_; first | refine Ops.pick_true rfl rfl rfl ?_ | refine Ops.pick_false rfl rfl rfl ?_) | (refine Ops.k_guard ?_; first | refine Ops.guard_yes rfl rfl ?_ | refine Ops.guard_no rfl rfl rfl rfl ?_ | refine Ops.guard_no' rfl rfl rfl ?_ | refine Ops.guard_undef rfl rfl rfl ?_ | refine Ops.guard_undef' rfl rfl ?_ | (refine Ops.guard_dec rfl rfl (fun hc => ?_) (fun hc => ?_) <;> try (exfalso; omega)) | refine Ops.guard_split rfl rfl (fun hc => ?_) (fun hc => ?_)) | (refine Cw.k_cond ?_; first | refine Cw.cond_true rfl ?_ | refine Cw.cond_false rfl ?_ | (refine Cw.cond_dec rfl (fun hc => ?_) (fun hc => ?_) <;> try (exfalso; omega)) | refine Cw.cond_bool rfl (fun hc => ?_) (fun hc => ?_)))
    refine Fin.ret Ent.refl (Outs.one rfl rfl) ⟨rfl, congrArg Tr.bool ?_⟩
    simp [outB, h1]
  · repeat' (first | refine Ops.nil ?_ | refine Then.norm ?_ | refine Cw.seq ?_ | refine Cw.region ?_ | refine Cw.block ?_ | refine Cw.exit ?_ | refine Cw.skip ?_ | refine Cw.ret ?_ | refine Then.exit ?_ | refine Then.ret ?_ | refine InB.exit ?_ | refine InB.norm ?_ | refine InB.ret ?_ | refine InB.exit_ne rfl ?_ | (refine Ops.k_move ?_; first | refine Ops.move rfl rfl ?_ | refine Ops.move_any rfl ?_) | (refine Ops.k_assign ?_; first | refine Ops.assign rfl rfl ?_ | refine Ops.assign_any rfl ?_) | (refine Ops.k_b_lss ?_; first | refine Ops.lss rfl rfl rfl ?_) | (refine Ops.k_b_gtr ?_; first | refine Ops.gtr rfl rfl rfl ?_) | (refine Ops.k_pick ?_; first | refine Ops.pick_true rfl rfl rfl ?_ | refine Ops.pick_false rfl rfl rfl ?_) | (refine Ops.k_guard ?_; first | refine Ops.guard_yes rfl rfl ?_ | refine Ops.guard_no rfl rfl rfl rfl ?_ | refine Ops.guard_no' rfl rfl rfl ?_ | refine Ops.guard_undef rfl rfl rfl ?_ | refine Ops.guard_undef' rfl rfl ?_ | (refine Ops.guard_dec rfl rfl (fun hc => ?_) (fun hc => ?_) <;> try (exfalso; omega)) | refine Ops.guard_split rfl rfl (fun hc => ?_) (fun hc => ?_)) | (refine Cw.k_cond ?_; first | refine Cw.cond_true rfl ?_ | refine Cw.cond_false rfl ?_ | (refine Cw.cond_dec rfl (fun hc => ?_) (fun hc => ?_) <;> try (exfalso; omega)) | refine Cw.cond_bool rfl (fun hc => ?_) (fun hc => ?_)))
    all_goals (refine Fin.ret Ent.refl (Outs.one rfl rfl) ⟨rfl, congrArg Tr.bool ?_⟩)
    all_goals simp [outB, h1]
def dayB (n : Int) : Bool := !(outB n 0 4000)
theorem day_fn (n : Int) : PFn Tryz.prog 34 [.int n] (· = .bool (dayB n)) := by
  refine PFn.mk (Spec.body Tryz.func34 rfl rfl (Tryz.ntmps34) rfl fun w0 own0 M => ?_)
  repeat' (first | refine Ops.nil ?_ | refine Then.norm ?_ | refine Cw.seq ?_ | refine Cw.region ?_ | refine Cw.block ?_ | refine Cw.exit ?_ | refine Cw.skip ?_ | refine Cw.ret ?_ | refine Then.exit ?_ | refine Then.ret ?_ | refine InB.exit ?_ | refine InB.norm ?_ | refine InB.ret ?_ | refine InB.exit_ne rfl ?_ | (refine Ops.k_move ?_; first | refine Ops.move rfl rfl ?_ | refine Ops.move_any rfl ?_) | (refine Ops.k_assign ?_; first | refine Ops.assign rfl rfl ?_ | refine Ops.assign_any rfl ?_) | (refine Ops.k_not ?_; first | refine Ops.not_dec rfl rfl ?_ | refine Ops.not rfl rfl ?_) | (refine Cw.k_cond ?_; first | refine Cw.cond_true rfl ?_ | refine Cw.cond_false rfl ?_ | (refine Cw.cond_dec rfl (fun hc => ?_) (fun hc => ?_) <;> try (exfalso; omega)) | refine Cw.cond_bool rfl (fun hc => ?_) (fun hc => ?_)) | (refine Ops.k_calla ?_; first | (refine Ops.k_callf 50 ?_; refine Ops.callV (out_fn _ _ _) (Evs.cons rfl (Evs.cons rfl (Evs.cons rfl Evs.nil))) rfl ?_)))
  exact Fin.ret Ent.refl (Outs.one rfl rfl) ⟨rfl, congrArg Tr.bool (by unfold dayB outB; rw [decide_not])⟩

theorem rows_at {α : Type} {f : α → List Tr} {l : List α} {k : Nat} {x : α} (h : l[k]? = some x) : (l.map f)[k]? = some (f x) := by
  rw [List.getElem?_map, h]
  rfl

def idxFrom {α : Type} (p : α → Bool) : List α → Int → Int
  | [], _ => -1
  | x :: l, k => if p x then k else idxFrom p l (k + 1)

theorem idxFrom_drop {α : Type} (p : α → Bool) {l : List α} {k : Nat} {x : α} (h : l[k]? = some x) : idxFrom p (l.drop k) k = if p x then (k : Int) else idxFrom p (l.drop (k + 1)) ((k + 1 : Nat) : Int) := by
  obtain ⟨hk, rfl⟩ := List.getElem?_eq_some_iff.1 h
  rw [List.drop_eq_getElem_cons hk, idxFrom]
  rfl

theorem idxFrom_ge {α : Type} (p : α → Bool) : ∀ (l : List α) (k : Int), 0 ≤ k → (0 ≤ idxFrom p l k ↔ l.any p = true)
  | [], k, _ => by simp [idxFrom]
  | x :: l, k, hk => by
    unfold idxFrom
    by_cases h : p x = true
    · simp [h, hk]
    · simp [h, idxFrom_ge p l (k + 1) (by omega)]
end Lg
end
section
set_option linter.all false
set_option maxRecDepth 100000
set_option maxHeartbeats 2000000
namespace Lg
open Go Go.Proofs

@[simp] theorem rowsOf_len (k n : Nat) (ts : List Tr) : (rowsOf k n ts).length = n := by simp [rowsOf]
theorem intRows_app (a b : List Int) : intRows (a ++ b) = intRows a ++ intRows b := by simp [intRows]

end Lg
end
section
set_option linter.all false
namespace Lg
open Go Go.Proofs

theorem intRows_take (o : List Int) (k : Nat) : (intRows o).take k = intRows (o.take k) := by unfold intRows; rw [List.map_take]
end Lg
end
