/- A part of the proof of a law of this seat: it adds no condition. By an AI agent. -/
import Derived.Shelf.Strings.SlTrimAscii
import Derived.Test.YtflfdomajimpjaaDoorProg
import Derived.Test.YtflfdomajimpjaaDoorLgGo
import Derived.Test.YtflfdomajimpjaaDoorTypes
section
set_option linter.all false
set_option maxRecDepth 100000
set_option maxHeartbeats 1000000
namespace Lg
open Go Go.Proofs

theorem tmod_range (x n : Int) (hn : 1 ≤ n) : -n < x.tmod n ∧ x.tmod n < n := by
  rw [tmod_eq_if]
  have h1 := Int.emod_nonneg x (show n ≠ 0 by omega)
  have h2 := Int.emod_lt_of_pos x (show 0 < n by omega)
  have h3 := Int.emod_nonneg (-x) (show n ≠ 0 by omega)
  have h4 := Int.emod_lt_of_pos (-x) (show 0 < n by omega)
  split <;> omega

/-- a number of a range, or 0 -/
def InRange (n v : Int) : Prop := 0 ≤ v ∧ (v < n ∨ v = 0)

theorem below_fn (x n : Int) (hn : -9223372036854775808 ≤ n ∧ n ≤ 9223372036854775807) : PFn Tryd.prog 65 [.int x, .int n] (fun r => ∃ v, r = .int v ∧ InRange n v) := by
  refine PFn.mk (Spec.body Tryd.func65 rfl rfl (Tryd.ntmps65) rfl fun w0 own0 M => ?_)
  by_cases h1 : n < 1
  · repeat' (first | refine Ops.nil ?_ | refine Then.norm ?_ | refine Cw.seq ?_ | refine Cw.region ?_ | refine Cw.block ?_ | refine Cw.exit ?_ | refine Cw.skip ?_ | refine Cw.ret ?_ | refine Then.exit ?_ | refine Then.ret ?_ | refine InB.exit ?_ | refine InB.norm ?_ | refine InB.ret ?_ | refine InB.exit_ne rfl ?_ | (refine Ops.k_move ?_; first | refine Ops.move rfl rfl ?_ | refine Ops.move_any rfl ?_) | (refine Ops.k_assign ?_; first | refine Ops.assign rfl rfl ?_ | refine Ops.assign_any rfl ?_) | (refine Ops.k_b_lss ?_; first | refine Ops.lss rfl rfl rfl ?_) | (refine Ops.k_b_add ?_; first | refine Ops.add rfl rfl (by first | omega | (simp; done) | (simp; omega)) rfl ?_) | (refine Ops.k_b_rem ?_; first | refine Ops.rem rfl rfl (by omega) rfl ?_ | refine Ops.remT rfl rfl (by omega) rfl ?_) | (refine Cw.k_cond ?_; first | refine Cw.cond_true rfl ?_ | refine Cw.cond_false rfl ?_ | (refine Cw.cond_dec rfl (fun hc => ?_) (fun hc => ?_) <;> try (exfalso; omega)) | refine Cw.cond_bool rfl (fun hc => ?_) (fun hc => ?_)))
    refine Fin.ret Ent.refl (Outs.one rfl rfl) ⟨rfl, 0, rfl, ?_⟩
    exact ⟨Int.le_refl _, .inr rfl⟩
  · have ht := tmod_range x n (by omega)
    repeat' (first | refine Ops.nil ?_ | refine Then.norm ?_ | refine Cw.seq ?_ | refine Cw.region ?_ | refine Cw.block ?_ | refine Cw.exit ?_ | refine Cw.skip ?_ | refine Cw.ret ?_ | refine Then.exit ?_ | refine Then.ret ?_ | refine InB.exit ?_ | refine InB.norm ?_ | refine InB.ret ?_ | refine InB.exit_ne rfl ?_ | (refine Ops.k_move ?_; first | refine Ops.move rfl rfl ?_ | refine Ops.move_any rfl ?_) | (refine Ops.k_assign ?_; first | refine Ops.assign rfl rfl ?_ | refine Ops.assign_any rfl ?_) | (refine Ops.k_b_lss ?_; first | refine Ops.lss rfl rfl rfl ?_) | (refine Ops.k_b_add ?_; first | refine Ops.add rfl rfl (by first | omega | (simp; done) | (simp; omega)) rfl ?_) | (refine Ops.k_b_rem ?_; first | refine Ops.rem rfl rfl (by omega) rfl ?_ | refine Ops.remT rfl rfl (by omega) rfl ?_) | (refine Cw.k_cond ?_; first | refine Cw.cond_true rfl ?_ | refine Cw.cond_false rfl ?_ | (refine Cw.cond_dec rfl (fun hc => ?_) (fun hc => ?_) <;> try (exfalso; omega)) | refine Cw.cond_bool rfl (fun hc => ?_) (fun hc => ?_)))
    all_goals (refine Fin.ret Ent.refl (Outs.one rfl rfl) ⟨rfl, _, rfl, ?_⟩; unfold InRange; omega)

/-- the Stream's own Next -/
theorem next_gen (n : Int) (hn : -9223372036854775808 ≤ n ∧ n ≤ 9223372036854775807) :
    Gen Tryd.prog 25 34 [.int n] 1 (fun r => ∃ v, r = .int v ∧ InRange n v) := by
  unfold Gen
  intro b xs N hN
  refine Spec.body Tryd.func34 rfl rfl (Tryd.ntmps34) rfl fun w0 own0 M => ?_
  refine Cw.open_strm fun m hm => ?_
  by_cases h0 : (intRows xs).length = 0
  · repeat' (first | refine Ops.nil ?_ | refine Then.norm ?_ | refine Cw.seq ?_ | refine Cw.region ?_ | refine Cw.block ?_ | refine Cw.exit ?_ | refine Cw.skip ?_ | refine Cw.ret ?_ | refine Then.exit ?_ | refine Then.ret ?_ | refine InB.exit ?_ | refine InB.norm ?_ | refine InB.ret ?_ | refine InB.exit_ne rfl ?_ | (refine Ops.k_move ?_; first | refine Ops.move rfl rfl ?_ | refine Ops.move_any rfl ?_) | (refine Ops.k_assign ?_; first | refine Ops.assign rfl rfl ?_ | refine Ops.assign_any rfl ?_) | (refine Ops.k_load ?_; first | refine Ops.load_ref_one rfl rfl ?_ | refine Ops.load_ref_agg rfl rfl rfl ?_ | refine Ops.load_box_one rfl goPk rfl rfl ?_ | refine Ops.load_box_agg rfl goPk rfl rfl ?_ | refine Ops.load_own_one rfl goPk (by first | rfl | assumption | (simp [*]; done)) rfl rfl ?_ | refine Ops.load_own_agg rfl goPk (by first | rfl | assumption | (simp [*]; done)) rfl ?_ | refine Ops.load_box_part rfl goPk rfl rfl rfl ?_ | refine Ops.load_q_one rfl goPk (by first | rfl | assumption | (simp [*]; done)) rfl rfl ?_) | (refine Ops.k_store ?_; first | refine Ops.store_box rfl rfl goPk rfl rfl ?_ | refine Ops.store_own1 rfl rfl goPk (by first | rfl | assumption | (simp [*]; done)) (by decide) ?_ | refine Ops.store_own_all rfl rfl goPk (by first | assumption | omega | (simp; omega) | (simp [*]; done)) rfl ?_) | (refine Ops.k_c_len ?_; first | refine Ops.len_raw rfl rfl ?_ | refine Ops.len_sl rfl rfl ?_ | refine Ops.len_str rfl rfl rfl ?_ | refine Ops.len_q rfl rfl ?_) | (refine Ops.k_b_eql ?_; first | refine Ops.eql rfl rfl rfl ?_) | (refine Ops.k_b_add ?_; first | refine Ops.add rfl rfl (by first | omega | (simp; done) | (simp; omega)) rfl ?_) | (refine Ops.k_b_sub ?_; first | refine Ops.sub rfl rfl (by first | omega | (simp; done) | (simp; omega)) rfl ?_) | (refine Ops.k_b_mul ?_; first | refine Ops.mul rfl rfl (by first | omega | assumption) rfl ?_) | (refine Ops.k_b_quo ?_; first | refine Ops.quo rfl rfl (by omega) rfl ?_ | refine Ops.quoT rfl rfl (by omega) rfl ?_) | (refine Ops.k_b_rem ?_; first | refine Ops.rem rfl rfl (by omega) rfl ?_ | refine Ops.remT rfl rfl (by omega) rfl ?_) | (refine Ops.k_nilCheck ?_; first | refine Ops.nilCheck_raw rfl rfl ?_ | refine Ops.nilCheck_ref rfl rfl ?_) | (refine Ops.k_fieldAddr ?_; first | refine Ops.fieldAddr_raw rfl rfl ?_ | refine Ops.fieldAddr_ref rfl rfl ?_ | refine Ops.fieldAddr_eptr rfl rfl ?_) | (refine Ops.k_indexAddr ?_; first | refine Ops.indexAddr_sl rfl rfl (by omega) (by first | rfl | assumption | (simp [*]; done)) rfl ?_ | refine Ops.indexAddr_own rfl rfl goPk (by first | rfl | omega | (simp; done) | (simp; omega)) (by first | omega | (simp; done) | (simp; omega)) (by first | omega | (simp; done) | (simp; omega)) rfl ?_ | refine Ops.indexAddr_q rfl rfl goPk (by first | rfl | omega | (simp; done) | (simp; omega)) (by first | omega | (simp; done) | (simp; omega)) (by first | omega | (simp; done) | (simp; omega)) rfl ?_) | (refine Cw.k_cond ?_; first | refine Cw.cond_true rfl ?_ | refine Cw.cond_false rfl ?_ | (refine Cw.cond_dec rfl (fun hc => ?_) (fun hc => ?_) <;> try (exfalso; omega)) | refine Cw.cond_bool rfl (fun hc => ?_) (fun hc => ?_)) | (refine Ops.k_calla ?_; first | (refine Ops.k_callf 65 ?_; (refine Ops.callF (below_fn _ _ (by omega)) (Evs.cons rfl (Evs.cons rfl Evs.nil)) rfl ?_; rintro r ⟨v, rfl, hv⟩))) | (refine Cw.k_draw ?_; first | refine Cw.region_seqC rfl (by decide +kernel) rfl ?_ | refine Cw.region_seq rfl (by decide +kernel) rfl ?_) | refine PSeq.nil ?_ | apply PSeq.cons | apply PSeq.yes rfl rfl rfl | refine PSeq.no rfl rfl rfl ?_ | refine PSeq.pass rfl rfl rfl ?_ | (apply OpV.w; apply OpV.k_move; first | exact OpV.move rfl) | (apply OpV.w; apply OpV.k_assign; first | exact OpV.assign rfl) | (apply OpV.w; apply OpV.k_load; first | exact OpV.load_ref_one rfl | exact OpV.load_ref_agg rfl rfl | exact OpV.load_box_one rfl goPk rfl | exact OpV.load_box_agg rfl goPk (by rfl) | exact OpV.load_box_part rfl goPk (by rfl) (by rfl) | exact OpV.load_own_agg rfl goPk (by first | rfl | assumption | (simp [*]; done)) | exact OpV.load_own_one rfl goPk (by first | rfl | assumption | (simp [*]; done)) rfl | exact OpV.load_q_one rfl goPk (by first | rfl | assumption | (simp [*]; done)) rfl) | (apply OpV.w; apply OpV.k_c_len; first | exact OpV.len_raw rfl | exact OpV.len_sl rfl | exact OpV.len_str rfl rfl) | (apply OpV.w; apply OpV.k_b_eql; first | exact OpV.eql_t rfl rfl (by omega) | exact OpV.eql_f rfl rfl (by omega) | exact OpV.eql rfl rfl) | (apply OpV.w; apply OpV.k_b_add; first | exact OpV.add rfl rfl (by first | omega | (simp; done) | (simp; omega))) | (apply OpV.w; apply OpV.k_b_sub; first | exact OpV.sub rfl rfl (by first | omega | (simp; done) | (simp; omega))) | (apply OpV.w; apply OpV.k_b_mul; first | exact OpV.mul rfl rfl (by first | omega | assumption)) | (apply OpV.w; apply OpV.k_b_quo; first | exact OpV.quo rfl rfl (by omega) | exact OpV.quoT rfl rfl (by omega)) | (apply OpV.w; apply OpV.k_b_rem; first | exact OpV.rem rfl rfl (by omega) | exact OpV.remT rfl rfl (by omega)) | (apply OpV.w; apply OpV.k_nilCheck; first | exact OpV.nilCheck_raw rfl | exact OpV.nilCheck_ref rfl) | (apply OpV.w; apply OpV.k_fieldAddr; first | exact OpV.fieldAddr_raw rfl | exact OpV.fieldAddr_ref rfl | exact OpV.fieldAddr_eptr rfl) | (apply OpV.w; apply OpV.k_indexAddr; first | exact OpV.indexAddr_sl rfl rfl (by omega) (by first | rfl | assumption | (simp [*]; done)) | exact OpV.indexAddr_own rfl rfl goPk (by first | rfl | omega | (simp; done) | (simp; omega)) (by first | omega | (simp; done) | (simp; omega)) (by first | omega | (simp; done) | (simp; omega)) | exact OpV.indexAddr_q rfl rfl goPk (by first | rfl | omega | (simp; done) | (simp; omega)) (by first | omega | (simp; done) | (simp; omega)) (by first | omega | (simp; done) | (simp; omega))))
    refine Fin.ret (Ent.shut_strm (m := m + 1) (n := N + 1) (by omega)) (Outs.one rfl rfl) ⟨rfl, v, rfl, hv⟩
  · have hlt : ((↑m + 1 - 1) % ↑(intRows xs).length : Int).toNat < (intRows xs).length := by
      have h1 := Int.emod_nonneg ((m : Int) + 1 - 1) (show ((intRows xs).length : Int) ≠ 0 by omega)
      have h2 := Int.emod_lt_of_pos ((m : Int) + 1 - 1) (show 0 < ((intRows xs).length : Int) by omega)
      omega
    obtain ⟨y, hy⟩ : ∃ y, (intRows xs)[((↑m + 1 - 1) % ↑(intRows xs).length : Int).toNat]? = some [Tr.int y] := by
      have hlt' := hlt
      generalize ((↑m + 1 - 1) % ↑(intRows xs).length : Int).toNat = j at hlt'
      rw [intRows_len] at hlt'
      exact ⟨xs[j], by simp [intRows, hlt']⟩
    have hi0 := Int.emod_nonneg ((m : Int) + 1 - 1) (show ((intRows xs).length : Int) ≠ 0 by omega)
    repeat' (first | refine Ops.nil ?_ | refine Then.norm ?_ | refine Cw.seq ?_ | refine Cw.region ?_ | refine Cw.block ?_ | refine Cw.exit ?_ | refine Cw.skip ?_ | refine Cw.ret ?_ | refine Then.exit ?_ | refine Then.ret ?_ | refine InB.exit ?_ | refine InB.norm ?_ | refine InB.ret ?_ | refine InB.exit_ne rfl ?_ | (refine Ops.k_move ?_; first | refine Ops.move rfl rfl ?_ | refine Ops.move_any rfl ?_) | (refine Ops.k_assign ?_; first | refine Ops.assign rfl rfl ?_ | refine Ops.assign_any rfl ?_) | (refine Ops.k_load ?_; first | refine Ops.load_ref_one rfl rfl ?_ | refine Ops.load_ref_agg rfl rfl rfl ?_ | refine Ops.load_box_one rfl goPk rfl rfl ?_ | refine Ops.load_box_agg rfl goPk rfl rfl ?_ | refine Ops.load_own_one rfl goPk (by first | rfl | assumption | (simp [*]; done)) rfl rfl ?_ | refine Ops.load_own_agg rfl goPk (by first | rfl | assumption | (simp [*]; done)) rfl ?_ | refine Ops.load_box_part rfl goPk rfl rfl rfl ?_ | refine Ops.load_q_one rfl goPk (by first | rfl | assumption | (simp [*]; done)) rfl rfl ?_) | (refine Ops.k_store ?_; first | refine Ops.store_box rfl rfl goPk rfl rfl ?_ | refine Ops.store_own1 rfl rfl goPk (by first | rfl | assumption | (simp [*]; done)) (by decide) ?_ | refine Ops.store_own_all rfl rfl goPk (by first | assumption | omega | (simp; omega) | (simp [*]; done)) rfl ?_) | (refine Ops.k_c_len ?_; first | refine Ops.len_raw rfl rfl ?_ | refine Ops.len_sl rfl rfl ?_ | refine Ops.len_str rfl rfl rfl ?_ | refine Ops.len_q rfl rfl ?_) | (refine Ops.k_b_eql ?_; first | refine Ops.eql rfl rfl rfl ?_) | (refine Ops.k_b_add ?_; first | refine Ops.add rfl rfl (by first | omega | (simp; done) | (simp; omega)) rfl ?_ | refine Ops.addW rfl rfl rfl ?_) | (refine Ops.k_b_sub ?_; first | refine Ops.sub rfl rfl (by first | omega | (simp; done) | (simp; omega)) rfl ?_) | (refine Ops.k_b_mul ?_; first | refine Ops.mul rfl rfl (by first | omega | assumption) rfl ?_ | refine Ops.mulW rfl rfl rfl ?_) | (refine Ops.k_b_quo ?_; first | refine Ops.quo rfl rfl (by omega) rfl ?_ | refine Ops.quoT rfl rfl (by omega) rfl ?_) | (refine Ops.k_b_rem ?_; first | refine Ops.rem rfl rfl (by omega) rfl ?_ | refine Ops.remT rfl rfl (by omega) rfl ?_) | (refine Ops.k_nilCheck ?_; first | refine Ops.nilCheck_raw rfl rfl ?_ | refine Ops.nilCheck_ref rfl rfl ?_) | (refine Ops.k_fieldAddr ?_; first | refine Ops.fieldAddr_raw rfl rfl ?_ | refine Ops.fieldAddr_ref rfl rfl ?_ | refine Ops.fieldAddr_eptr rfl rfl ?_) | (refine Ops.k_indexAddr ?_; first | refine Ops.indexAddr_sl rfl rfl (by omega) (by first | rfl | assumption | (simp [*]; done)) rfl ?_ | refine Ops.indexAddr_own rfl rfl goPk (by first | rfl | omega | (simp; done) | (simp; omega)) (by first | omega | (simp; done) | (simp; omega)) (by first | omega | (simp; done) | (simp; omega)) rfl ?_ | refine Ops.indexAddr_q rfl rfl goPk (by first | rfl | omega | (simp; done) | (simp; omega)) (by first | omega | (simp; done) | (simp; omega)) (by first | omega | (simp; done) | (simp; omega)) rfl ?_) | (refine Cw.k_cond ?_; first | refine Cw.cond_true rfl ?_ | refine Cw.cond_false rfl ?_ | (refine Cw.cond_dec rfl (fun hc => ?_) (fun hc => ?_) <;> try (exfalso; omega)) | refine Cw.cond_bool rfl (fun hc => ?_) (fun hc => ?_)) | (refine Ops.k_calla ?_; first | (refine Ops.k_callf 65 ?_; (refine Ops.callF (below_fn _ _ (by omega)) (Evs.cons rfl (Evs.cons rfl Evs.nil)) rfl ?_; rintro r ⟨v, rfl, hv⟩))) | (refine Cw.k_draw ?_; first | refine Cw.region_seqC rfl (by decide +kernel) rfl ?_ | refine Cw.region_seq rfl (by decide +kernel) rfl ?_) | refine PSeq.nil ?_ | apply PSeq.cons | apply PSeq.yes rfl rfl rfl | refine PSeq.no rfl rfl rfl ?_ | refine PSeq.pass rfl rfl rfl ?_ | (apply OpV.w; apply OpV.k_move; first | exact OpV.move rfl) | (apply OpV.w; apply OpV.k_assign; first | exact OpV.assign rfl) | (apply OpV.w; apply OpV.k_load; first | exact OpV.load_ref_one rfl | exact OpV.load_ref_agg rfl rfl | exact OpV.load_box_one rfl goPk rfl | exact OpV.load_box_agg rfl goPk (by rfl) | exact OpV.load_box_part rfl goPk (by rfl) (by rfl) | exact OpV.load_own_agg rfl goPk (by first | rfl | assumption | (simp [*]; done)) | exact OpV.load_own_one rfl goPk (by first | rfl | assumption | (simp [*]; done)) rfl | exact OpV.load_q_one rfl goPk (by first | rfl | assumption | (simp [*]; done)) rfl) | (apply OpV.w; apply OpV.k_c_len; first | exact OpV.len_raw rfl | exact OpV.len_sl rfl | exact OpV.len_str rfl rfl) | (apply OpV.w; apply OpV.k_b_eql; first | exact OpV.eql_t rfl rfl (by omega) | exact OpV.eql_f rfl rfl (by omega) | exact OpV.eql rfl rfl) | (apply OpV.w; apply OpV.k_b_add; first | exact OpV.add rfl rfl (by first | omega | (simp; done) | (simp; omega))) | (apply OpV.w; apply OpV.k_b_sub; first | exact OpV.sub rfl rfl (by first | omega | (simp; done) | (simp; omega))) | (apply OpV.w; apply OpV.k_b_mul; first | exact OpV.mul rfl rfl (by first | omega | assumption)) | (apply OpV.w; apply OpV.k_b_quo; first | exact OpV.quo rfl rfl (by omega) | exact OpV.quoT rfl rfl (by omega)) | (apply OpV.w; apply OpV.k_b_rem; first | exact OpV.rem rfl rfl (by omega) | exact OpV.remT rfl rfl (by omega)) | (apply OpV.w; apply OpV.k_nilCheck; first | exact OpV.nilCheck_raw rfl | exact OpV.nilCheck_ref rfl) | (apply OpV.w; apply OpV.k_fieldAddr; first | exact OpV.fieldAddr_raw rfl | exact OpV.fieldAddr_ref rfl | exact OpV.fieldAddr_eptr rfl) | (apply OpV.w; apply OpV.k_indexAddr; first | exact OpV.indexAddr_sl rfl rfl (by omega) (by first | rfl | assumption | (simp [*]; done)) | exact OpV.indexAddr_own rfl rfl goPk (by first | rfl | omega | (simp; done) | (simp; omega)) (by first | omega | (simp; done) | (simp; omega)) (by first | omega | (simp; done) | (simp; omega)) | exact OpV.indexAddr_q rfl rfl goPk (by first | rfl | omega | (simp; done) | (simp; omega)) (by first | omega | (simp; done) | (simp; omega)) (by first | omega | (simp; done) | (simp; omega))))
    refine Fin.ret (Ent.shut_strm (m := m + 1) (n := N + 1) (by omega)) (Outs.one rfl rfl) ⟨rfl, v, rfl, hv⟩

theorem flip_gen (n : Int) (h : -1000000000000 ≤ n ∧ n ≤ 1000000000000) :
    Gen Tryd.prog 25 35 [.int n] 1 (fun r => ∃ v, r = .bool v) := by
  unfold Gen
  intro b xs N hN
  refine Spec.body Tryd.func35 rfl rfl (Tryd.ntmps35) rfl fun w0 own0 M => ?_
  repeat' (first | refine Ops.nil ?_ | refine Then.norm ?_ | refine Cw.seq ?_ | refine Cw.region ?_ | refine Cw.block ?_ | refine Cw.exit ?_ | refine Cw.skip ?_ | refine Cw.ret ?_ | refine Then.exit ?_ | refine Then.ret ?_ | refine InB.exit ?_ | refine InB.norm ?_ | refine InB.ret ?_ | refine InB.exit_ne rfl ?_ | (refine Ops.k_move ?_; first | refine Ops.move rfl rfl ?_ | refine Ops.move_any rfl ?_) | (refine Ops.k_assign ?_; first | refine Ops.assign rfl rfl ?_ | refine Ops.assign_any rfl ?_) | (refine Ops.k_b_eql ?_; first | refine Ops.eql rfl rfl rfl ?_) | (refine Cw.k_cond ?_; first | refine Cw.cond_true rfl ?_ | refine Cw.cond_false rfl ?_ | (refine Cw.cond_dec rfl (fun hc => ?_) (fun hc => ?_) <;> try (exfalso; omega)) | refine Cw.cond_bool rfl (fun hc => ?_) (fun hc => ?_)) | (refine Ops.k_calla ?_; first | (refine Ops.k_callf 34 ?_; (refine Ops.callG (next_gen _ (by omega)) (Evs.cons rfl (Evs.cons rfl Evs.nil)) goPk (by omega) rfl ?_; rintro r ⟨v, rfl, hv⟩; unfold InRange at hv))))
  exact Fin.ret Ent.refl (Outs.one rfl rfl) ⟨rfl, _, rfl⟩

/-- a list of the numbers of a slice of one cell each -/
inductive IsInts : List (List Tr) → List Int → Prop
  | nil : IsInts [] []
  | cons {rows : List (List Tr)} {l : List Int} {x : Int} (h : IsInts rows l) : IsInts ([Tr.int x] :: rows) (x :: l)
theorem IsInts.eq {rows : List (List Tr)} {l : List Int} (h : IsInts rows l) : rows = intRows l := by
  induction h with
  | nil => rfl
  | cons h ih => rw [ih]; rfl

/-- one of some numbers -/
theorem pick_gen {rows : List (List Tr)} {l : List Int} (hr : IsInts rows l) (h : 0 < l.length ∧ l.length ≤ 100000) :
    Gen Tryd.prog 25 7 [.sl 1 rows] 1 (fun r => ∃ v, r = .int v ∧ v ∈ l) := by
  have h := hr.eq
  subst h
  unfold Gen
  intro b xs N hN
  refine Spec.body Tryd.func7 rfl rfl (Tryd.ntmps7) rfl fun w0 own0 M => ?_
  have hl := intRows_len l
  repeat' (first | refine Ops.nil ?_ | refine Then.norm ?_ | refine Cw.seq ?_ | refine Cw.region ?_ | refine Cw.block ?_ | refine Cw.exit ?_ | refine Cw.skip ?_ | refine Cw.ret ?_ | refine Then.exit ?_ | refine Then.ret ?_ | refine InB.exit ?_ | refine InB.norm ?_ | refine InB.ret ?_ | refine InB.exit_ne rfl ?_ | (refine Ops.k_move ?_; first | refine Ops.move rfl rfl ?_ | refine Ops.move_any rfl ?_) | (refine Ops.k_assign ?_; first | refine Ops.assign rfl rfl ?_ | refine Ops.assign_any rfl ?_) | (refine Ops.k_load ?_; first | refine Ops.load_ref_one rfl rfl ?_ | refine Ops.load_ref_agg rfl rfl rfl ?_ | refine Ops.load_box_one rfl goPk rfl rfl ?_ | refine Ops.load_box_agg rfl goPk rfl rfl ?_ | refine Ops.load_own_one rfl goPk (by first | rfl | assumption | (simp [*]; done)) rfl rfl ?_ | refine Ops.load_own_agg rfl goPk (by first | rfl | assumption | (simp [*]; done)) rfl ?_ | refine Ops.load_box_part rfl goPk rfl rfl rfl ?_ | refine Ops.load_q_one rfl goPk (by first | rfl | assumption | (simp [*]; done)) rfl rfl ?_) | (refine Ops.k_c_len ?_; first | refine Ops.len_raw rfl rfl ?_ | refine Ops.len_sl rfl rfl ?_ | refine Ops.len_str rfl rfl rfl ?_ | refine Ops.len_q rfl rfl ?_) | (refine Ops.k_indexAddr ?_; first | refine Ops.indexAddr_sl rfl rfl (by omega) (by first | rfl | assumption | (simp [*]; done)) rfl ?_ | refine Ops.indexAddr_own rfl rfl goPk (by first | rfl | omega | (simp; done) | (simp; omega)) (by first | omega | (simp; done) | (simp; omega)) (by first | omega | (simp; done) | (simp; omega)) rfl ?_ | refine Ops.indexAddr_q rfl rfl goPk (by first | rfl | omega | (simp; done) | (simp; omega)) (by first | omega | (simp; done) | (simp; omega)) (by first | omega | (simp; done) | (simp; omega)) rfl ?_) | (refine Cw.k_cond ?_; first | refine Cw.cond_true rfl ?_ | refine Cw.cond_false rfl ?_ | (refine Cw.cond_dec rfl (fun hc => ?_) (fun hc => ?_) <;> try (exfalso; omega)) | refine Cw.cond_bool rfl (fun hc => ?_) (fun hc => ?_)) | (refine Ops.k_calla ?_; first | (refine Ops.k_callf 34 ?_; (refine Ops.callG (next_gen _ (by omega)) (Evs.cons rfl (Evs.cons rfl Evs.nil)) goPk (by omega) rfl ?_; rintro r ⟨v, rfl, hv⟩; unfold InRange at hv; have hj : v.toNat < l.length := (by omega); have hj2 := intRows_get hj))))
  exact Fin.ret Ent.refl (Outs.one rfl rfl) ⟨rfl, _, rfl, List.getElem_mem hj⟩

def outB (n lo hi : Int) : Bool := decide (n < lo ∨ hi < n)
theorem outB_eq {n lo hi : Int} : outB n lo hi = true ↔ (n < lo ∨ hi < n) := by simp [outB]
theorem out_fn (n lo hi : Int) : PFn Tryd.prog 45 [.int n, .int lo, .int hi] (· = .bool (outB n lo hi)) := by
  refine PFn.mk (Spec.body Tryd.func45 rfl rfl (Tryd.ntmps45) rfl fun w0 own0 M => ?_)
  by_cases h1 : n < lo
  · repeat' (first | refine Ops.nil ?_ | refine Then.norm ?_ | refine Cw.seq ?_ | refine Cw.region ?_ | refine Cw.block ?_ | refine Cw.exit ?_ | refine Cw.skip ?_ | refine Cw.ret ?_ | refine Then.exit ?_ | refine Then.ret ?_ | refine InB.exit ?_ | refine InB.norm ?_ | refine InB.ret ?_ | refine InB.exit_ne rfl ?_ | (refine Ops.k_move ?_; first | refine Ops.move rfl rfl ?_ | refine Ops.move_any rfl ?_) | (refine Ops.k_assign ?_; first | refine Ops.assign rfl rfl ?_ | refine Ops.assign_any rfl ?_) | (refine Ops.k_b_lss ?_; first | refine Ops.lss rfl rfl rfl ?_) | (refine Ops.k_b_gtr ?_; first | refine Ops.gtr rfl rfl rfl ?_) | (refine Ops.k_pick ?_; first | refine Ops.pick_true rfl rfl rfl ?_ | refine Ops.pick_false rfl rfl rfl ?_) | (refine Ops.k_guard ?_; first | refine Ops.guard_yes rfl rfl ?_ | refine Ops.guard_no rfl rfl rfl rfl ?_ | refine Ops.guard_no' rfl rfl rfl ?_ | refine Ops.guard_undef rfl rfl rfl ?_ | refine Ops.guard_undef' rfl rfl ?_ | (refine Ops.guard_dec rfl rfl (fun hc => ?_) (fun hc => ?_) <;> try (exfalso; omega)) | refine Ops.guard_split rfl rfl (fun hc => ?_) (fun hc => ?_)) | (refine Cw.k_cond ?_; first | refine Cw.cond_true rfl ?_ | refine Cw.cond_false rfl ?_ | (refine Cw.cond_dec rfl (fun hc => ?_) (fun hc => ?_) <;> try (exfalso; omega)) | refine Cw.cond_bool rfl (fun hc => ?_) (fun hc => ?_)))
    refine Fin.ret Ent.refl (Outs.one rfl rfl) ⟨rfl, congrArg Tr.bool ?_⟩
    simp [outB, h1]
  · repeat' (first | refine Ops.nil ?_ | refine Then.norm ?_ | refine Cw.seq ?_ | refine Cw.region ?_ | refine Cw.block ?_ | refine Cw.exit ?_ | refine Cw.skip ?_ | refine Cw.ret ?_ | refine Then.exit ?_ | refine Then.ret ?_ | refine InB.exit ?_ | refine InB.norm ?_ | refine InB.ret ?_ | refine InB.exit_ne rfl ?_ | (refine Ops.k_move ?_; first | refine Ops.move rfl rfl ?_ | refine Ops.move_any rfl ?_) | (refine Ops.k_assign ?_; first | refine Ops.assign rfl rfl ?_ | refine Ops.assign_any rfl ?_) | (refine Ops.k_b_lss ?_; first | refine Ops.lss rfl rfl rfl ?_) | (refine Ops.k_b_gtr ?_; first | refine Ops.gtr rfl rfl rfl ?_) | (refine Ops.k_pick ?_; first | refine Ops.pick_true rfl rfl rfl ?_ | refine Ops.pick_false rfl rfl rfl ?_) | (refine Ops.k_guard ?_; first | refine Ops.guard_yes rfl rfl ?_ | refine Ops.guard_no rfl rfl rfl rfl ?_ | refine Ops.guard_no' rfl rfl rfl ?_ | refine Ops.guard_undef rfl rfl rfl ?_ | refine Ops.guard_undef' rfl rfl ?_ | (refine Ops.guard_dec rfl rfl (fun hc => ?_) (fun hc => ?_) <;> try (exfalso; omega)) | refine Ops.guard_split rfl rfl (fun hc => ?_) (fun hc => ?_)) | (refine Cw.k_cond ?_; first | refine Cw.cond_true rfl ?_ | refine Cw.cond_false rfl ?_ | (refine Cw.cond_dec rfl (fun hc => ?_) (fun hc => ?_) <;> try (exfalso; omega)) | refine Cw.cond_bool rfl (fun hc => ?_) (fun hc => ?_)))
    all_goals (refine Fin.ret Ent.refl (Outs.one rfl rfl) ⟨rfl, congrArg Tr.bool ?_⟩)
    all_goals simp [outB, h1]
def momentB (n : Int) : Bool := decide (0 ≤ n ∧ n < 5761440)
def dayB (n : Int) : Bool := !(outB n 0 4000)

theorem rows_at {α : Type} {f : α → List Tr} {l : List α} {k : Nat} {x : α} (h : l[k]? = some x) : (l.map f)[k]? = some (f x) := by
  rw [List.getElem?_map, h]
  rfl

def idxFrom {α : Type} (p : α → Bool) : List α → Int → Int
  | [], _ => -1
  | x :: l, k => if p x then k else idxFrom p l (k + 1)

theorem idxFrom_drop {α : Type} (p : α → Bool) {l : List α} {k : Nat} {x : α} (h : l[k]? = some x) : idxFrom p (l.drop k) k = if p x then (k : Int) else idxFrom p (l.drop (k + 1)) ((k + 1 : Nat) : Int) := by
  obtain ⟨hk, rfl⟩ := List.getElem?_eq_some_iff.1 h
  rw [List.drop_eq_getElem_cons hk, idxFrom]
  rfl

theorem idxFrom_ge {α : Type} (p : α → Bool) : ∀ (l : List α) (k : Int), 0 ≤ k → (0 ≤ idxFrom p l k ↔ l.any p = true)
  | [], k, _ => by simp [idxFrom]
  | x :: l, k, hk => by
    unfold idxFrom
    by_cases h : p x = true
    · simp [h, hk]
    · simp [h, idxFrom_ge p l (k + 1) (by omega)]
end Lg
end
section
set_option linter.all false
set_option maxRecDepth 100000
set_option maxHeartbeats 1000000
namespace Lg
open Go Go.Proofs

theorem drop_at {α : Type} {l : List α} {k : Nat} {x : α} (h : l[k]? = some x) : l.drop k = x :: l.drop (k + 1) := by
  obtain ⟨hk, rfl⟩ := List.getElem?_eq_some_iff.1 h
  exact List.drop_eq_getElem_cons hk
theorem take_at {α : Type} {l : List α} {k : Nat} {x : α} (h : l[k]? = some x) : l.take (k + 1) = l.take k ++ [x] := by
  obtain ⟨hk, rfl⟩ := List.getElem?_eq_some_iff.1 h
  rw [List.take_add_one, h]
  rfl
theorem at_lt {α : Type} {l : List α} {k : Nat} (h : k < l.length) : ∃ x, l[k]? = some x := ⟨_, List.getElem?_eq_getElem h⟩

theorem outB_f {n lo hi : Int} : outB n lo hi = false ↔ (lo ≤ n ∧ n ≤ hi) := by simp [outB]
theorem Ent.own_strm {Γ : Ctx} {env : Env} {cs cs1 cf : List Chunk} {c : Chunk} {ty b m n : Nat} {rows : List (List Tr)} (hp1 : cs.Perm (Chunk.strm ty b rows m :: cs1)) (hp2 : cs1.Perm (c :: cf)) (hm : m ≤ n) : Ent Γ env cs env [c, Chunk.strm ty b rows n] :=
  Ent.trans (Ent.take (Take.cons hp1 (Take.cons hp2 Take.nil))) (Ent.trans (Ent.more_strm hm) (Ent.perm (List.Perm.swap _ _ _)))
theorem agg_raw {w : World} {A : Nat → Prop} : ∀ {l : List Value} {v : Value}, (Tr.agg (l.map Tr.raw)).rd w A v → v = .agg l.toArray := by
  intro l v h
  unfold Tr.agg at h
  obtain ⟨vs, e, hr⟩ := h
  subst e
  congr 2
  induction l generalizing vs with
  | nil => simpa [RdC] using hr
  | cons u l ih =>
    obtain ⟨v, rest, rfl, hv, _, hr⟩ := hr
    have := rd_raw hv
    rw [this, ih rest hr]
theorem out_t (n lo hi : Int) (h : n < lo ∨ hi < n) : PFn Tryd.prog 45 [.int n, .int lo, .int hi] (· = .bool true) := by
  have := out_fn n lo hi
  rwa [show outB n lo hi = true from outB_eq.2 h] at this
theorem out_f (n lo hi : Int) (h : lo ≤ n ∧ n ≤ hi) : PFn Tryd.prog 45 [.int n, .int lo, .int hi] (· = .bool false) := by
  have := out_fn n lo hi
  rwa [show outB n lo hi = false by unfold outB; exact decide_eq_false (by omega)] at this

section
variable {Γ : Ctx} {env : Env} {cs : List Chunk} {x y : Operand} {T2 ty : TypeId}
theorem OpV.eqb {a b : Bool} (hx : ev env x = some (Tr.bool a)) (hy : ev env y = some (Tr.bool b)) : OpV Tryd.prog Γ (.binOp .eql 4 x y T2) ty env cs (.bool (a == b)) := by
  unfold OpV
  intro ac w d
  have h1 := rd_raw (d.ev hx)
  have h2 := rd_raw (d.ev hy)
  have h3 := run_eql_bool (P := Tryd.prog) w 4 a b Tryd.underlying4
  exact ⟨.bool (a == b), by simp [execOp, h1, h2, h3, eqGuard], by unfold Tr.bool Tr.raw; rfl⟩
end
end Lg
end
section
/-
  DERIVED: THE SHELF's CONTRACTS AT THIS DUMP, IN PLAIN WORDS (tools/lay-plain.mjs out of 'YtflfdomajimpjaaDoorShelfRaw.lean', which tools/lay-shelf.mjs wrote): THE SAME DECLARATIONS UNDER THE SAME NAMES: 'import', 'namespace', 'open', 'def', 'theorem' AND NOTHING ELSE: no command of the shelf's: FOR A HAND-IN. Each laying: the table of numbers ('.._ren') and one theorem, a field a fact of the dump's own or the kernel's comparison; each contract: ONE APPLICATION.
-/
namespace Go.Proofs
open Go.Shelf
def Tryd.lays160_ren : Go.Shelf.Ren := ⟨fun | 160 => 75 | 232 => 79 | 231 => 78 | 227 => 80 | 234 => 82 | 233 => 81 | 236 => 84 | 235 => 83 | 228 => 89 | 271 => 92 | 151 => 91 | 197 => 90 | 120 => 100 | 152 => 99 | 260 => 98 | 137 => 103 | 119 => 104 | 224 => 105 | 225 => 106 | 217 => 107 | 266 => 108 | n => n, fun | 9 => 9 | 4 => 4 | 3 => 3 | 5 => 5 | 117 => 115 | 116 => 114 | 0 => 0 | 124 => 118 | 21 => 21 | 105 => 126 | 46 => 133 | 119 => 137 | 139 => 140 | 138 => 139 | n => n, fun | 3 => 1 | 4 => 2 | n => n⟩
theorem Tryd.lays160 : Go.Proofs.Lays.n160 Tryd.prog Tryd.lays160_ren := {
  mixed := by kernel_rfl
  f119 := Tryd.func104.trans (congrArg some (by kernel_rfl))
  f120 := Tryd.func100.trans (congrArg some (by kernel_rfl))
  f137 := Tryd.func103.trans (congrArg some (by kernel_rfl))
  f151 := Tryd.func91.trans (congrArg some (by kernel_rfl))
  f152 := Tryd.func99.trans (congrArg some (by kernel_rfl))
  f160 := Tryd.func75.trans (congrArg some (by kernel_rfl))
  f197 := Tryd.func90.trans (congrArg some (by kernel_rfl))
  f217 := Tryd.func107.trans (congrArg some (by kernel_rfl))
  f224 := Tryd.func105.trans (congrArg some (by kernel_rfl))
  f225 := Tryd.func106.trans (congrArg some (by kernel_rfl))
  f227 := Tryd.func80.trans (congrArg some (by kernel_rfl))
  f228 := Tryd.func89.trans (congrArg some (by kernel_rfl))
  f231 := Tryd.func78.trans (congrArg some (by kernel_rfl))
  f232 := Tryd.func79.trans (congrArg some (by kernel_rfl))
  f233 := Tryd.func81.trans (congrArg some (by kernel_rfl))
  f234 := Tryd.func82.trans (congrArg some (by kernel_rfl))
  f235 := Tryd.func83.trans (congrArg some (by kernel_rfl))
  f236 := Tryd.func84.trans (congrArg some (by kernel_rfl))
  f260 := Tryd.func98.trans (congrArg some (by kernel_rfl))
  f266 := Tryd.func108.trans (congrArg some (by kernel_rfl))
  f271 := Tryd.func92.trans (congrArg some (by kernel_rfl))
  t0 := Tryd.underlying0
  a0 := Tryd.isAgg0
  z0 := Tryd.sizeOf0
  v0 := Tryd.zeroValue0
  t3 := Tryd.underlying3
  a3 := Tryd.isAgg3
  z3 := Tryd.sizeOf3
  v3 := Tryd.zeroValue3
  t4 := Tryd.underlying4
  a4 := Tryd.isAgg4
  z4 := Tryd.sizeOf4
  v4 := Tryd.zeroValue4
  t5 := Tryd.underlying5
  a5 := Tryd.isAgg5
  z5 := Tryd.sizeOf5
  v5 := Tryd.zeroValue5
  t9 := Tryd.underlying9
  a9 := Tryd.isAgg9
  z9 := Tryd.sizeOf9
  v9 := Tryd.zeroValue9
  t21 := Tryd.underlying21
  a21 := Tryd.isAgg21
  z21 := Tryd.sizeOf21
  v21 := Tryd.zeroValue21
  t46 := Tryd.underlying133
  a46 := Tryd.isAgg133
  z46 := Tryd.sizeOf133
  v46 := Tryd.zeroValue133
  t105 := Tryd.underlying126
  a105 := Tryd.isAgg126
  z105 := Tryd.sizeOf126
  v105 := Tryd.zeroValue126
  t116 := Tryd.underlying114
  a116 := Tryd.isAgg114
  z116 := Tryd.sizeOf114
  t117 := Tryd.underlying115
  a117 := Tryd.isAgg115
  z117 := Tryd.sizeOf115
  v117 := Tryd.zeroValue115
  t119 := Tryd.underlying137
  a119 := Tryd.isAgg137
  z119 := Tryd.sizeOf137
  t124 := Tryd.underlying118
  a124 := Tryd.isAgg118
  z124 := Tryd.sizeOf118
  v124 := Tryd.zeroValue118
  t138 := Tryd.underlying139
  a138 := Tryd.isAgg139
  z138 := Tryd.sizeOf139
  v138 := Tryd.zeroValue139
  t139 := Tryd.underlying140
  a139 := Tryd.isAgg140
  z139 := Tryd.sizeOf140
  v139 := Tryd.zeroValue140
  g3 := by kernel_rfl
  g4 := by kernel_rfl }
end Go.Proofs
end
section
set_option linter.all false
set_option maxRecDepth 100000
set_option maxHeartbeats 4000000
namespace Lg
open Go Go.Proofs

def smallB (b : Int) : Bool := decide (97 ≤ b ∧ b ≤ 122)
def keyB (b : Int) : Bool := decide ((97 ≤ b ∧ b ≤ 122) ∨ (48 ≤ b ∧ b ≤ 57) ∨ b = 45 ∨ b = 95)
/-- what a key is -/
def isKey (s : ByteArray) : Bool := decide (1 ≤ s.size ∧ s.size ≤ 40 ∧ smallB (sby s 0) = true ∧ ∀ j, j < s.size → keyB (sby s j) = true)

theorem str_empty (s : ByteArray) : s = ⟨#[]⟩ ↔ s.size = 0 := by
  constructor
  · rintro rfl; rfl
  · intro h
    apply ByteArray.ext
    apply Array.eq_empty_of_size_eq_zero
    simpa using h

theorem sby_range (s : ByteArray) (j : Nat) : 0 ≤ sby s j ∧ sby s j ≤ 255 := by
  unfold sby
  have := (s.data.toList.getD j 0).toNat_lt
  omega

theorem key_fn (s : ByteArray) : PFn Tryd.prog 51 [.str s] (· = .bool (isKey s)) := by
  refine PFn.mk (Spec.body Tryd.func51 rfl rfl (Tryd.ntmps51) rfl fun w0 own0 M => ?_)
  have hb := sby_range s 0
  by_cases h0 : s = ⟨#[]⟩
  · have h1 := (str_empty s).1 h0
    repeat' (first | refine goH ?_ | refine goV ?_ | refine goG ?_ | (refine Ops.k_guard ?_; first | (refine Ops.guard_dec rfl rfl (fun hc => ?_) (fun hc => ?_) <;> try (exfalso; omega)) | refine Ops.guard_split rfl rfl (fun hc => ?_) (fun hc => ?_)) | refine goI ?_ | (refine Cw.k_cond ?_; first | (refine Cw.cond_dec rfl (fun hc => ?_) (fun hc => ?_) <;> try (exfalso; omega)) | refine Cw.cond_bool rfl (fun hc => ?_) (fun hc => ?_)) | fail)
    refine Fin.ret Ent.refl (Outs.one rfl rfl) ⟨rfl, congrArg Tr.bool ?_⟩
    unfold isKey
    exact (decide_eq_false (by omega)).symm
  have h1 : s.size ≠ 0 := fun h => h0 ((str_empty s).2 h)
  by_cases h2 : (s.size : Int) > 40
  · repeat' (first | refine goH ?_ | refine goV ?_ | refine goG ?_ | (refine Ops.k_guard ?_; first | (refine Ops.guard_dec rfl rfl (fun hc => ?_) (fun hc => ?_) <;> try (exfalso; omega)) | refine Ops.guard_split rfl rfl (fun hc => ?_) (fun hc => ?_)) | refine goI ?_ | (refine Cw.k_cond ?_; first | (refine Cw.cond_dec rfl (fun hc => ?_) (fun hc => ?_) <;> try (exfalso; omega)) | refine Cw.cond_bool rfl (fun hc => ?_) (fun hc => ?_)) | fail)
    refine Fin.ret Ent.refl (Outs.one rfl rfl) ⟨rfl, congrArg Tr.bool ?_⟩
    unfold isKey
    exact (decide_eq_false (by omega)).symm
  by_cases h3 : smallB (sby s 0) = true
  rotate_left
  · have h3' : sby s 0 < 97 ∨ sby s 0 > 122 := by simp [smallB] at h3; omega
    repeat' (first | refine goH ?_ | refine goV ?_ | refine goG ?_ | (refine Ops.k_guard ?_; first | (refine Ops.guard_dec rfl rfl (fun hc => ?_) (fun hc => ?_) <;> try (exfalso; omega)) | refine Ops.guard_split rfl rfl (fun hc => ?_) (fun hc => ?_)) | refine goI ?_ | (refine Cw.k_cond ?_; first | (refine Cw.cond_dec rfl (fun hc => ?_) (fun hc => ?_) <;> try (exfalso; omega)) | refine Cw.cond_bool rfl (fun hc => ?_) (fun hc => ?_)) | fail)
    all_goals
      refine Fin.ret Ent.refl (Outs.one rfl rfl) ⟨rfl, congrArg Tr.bool ?_⟩
      unfold isKey
      exact (decide_eq_false (fun h => h3 h.2.2.1)).symm
  have h3' : 97 ≤ sby s 0 ∧ sby s 0 ≤ 122 := by simpa [smallB] using h3
  repeat' (first | refine goH ?_ | refine goV ?_ | refine goG ?_ | (refine Ops.k_guard ?_; first | (refine Ops.guard_dec rfl rfl (fun hc => ?_) (fun hc => ?_) <;> try (exfalso; omega)) | refine Ops.guard_split rfl rfl (fun hc => ?_) (fun hc => ?_)) | refine goI ?_ | (refine Cw.k_cond ?_; first | (refine Cw.cond_dec rfl (fun hc => ?_) (fun hc => ?_) <;> try (exfalso; omega)) | refine Cw.cond_bool rfl (fun hc => ?_) (fun hc => ?_)) | fail)
  refine Cw.loop (ι := Nat) (fun k => k ≤ s.size ∧ ∀ j, j < k → keyB (sby s j) = true) (fun k => [(0, .str s), (23, .int s.size), (24, .int k)]) (fun _ => []) (fun k => s.size - k) ⟨0, ⟨by omega, fun _ h => by omega⟩, (Ent.mk goSub goTk)⟩ ?_
  rintro k ⟨hk, hall⟩
  by_cases hkl : k < s.size
  · have hbk := sby_range s k
    by_cases hkey : keyB (sby s k) = true
    · have hkey' : (97 ≤ sby s k ∧ sby s k ≤ 122) ∨ (48 ≤ sby s k ∧ sby s k ≤ 57) ∨ sby s k = 45 ∨ sby s k = 95 := by simpa [keyB] using hkey
      repeat' (first | refine goH ?_ | refine goV ?_ | refine goG ?_ | (refine Ops.k_guard ?_; first | (refine Ops.guard_dec rfl rfl (fun hc => ?_) (fun hc => ?_) <;> try (exfalso; omega)) | refine Ops.guard_split rfl rfl (fun hc => ?_) (fun hc => ?_)) | refine goI ?_ | (refine Cw.k_cond ?_; first | (refine Cw.cond_dec rfl (fun hc => ?_) (fun hc => ?_) <;> try (exfalso; omega)) | refine Cw.cond_bool rfl (fun hc => ?_) (fun hc => ?_)) | fail)
      all_goals (refine ⟨k + 1, ⟨by omega, fun j hj => ?_⟩, by omega, (Ent.mk goSub goTk)⟩; rcases Nat.lt_succ_iff_lt_or_eq.1 hj with hj | rfl; exact hall j hj; exact hkey)
    · have hkey' : ¬ ((97 ≤ sby s k ∧ sby s k ≤ 122) ∨ (48 ≤ sby s k ∧ sby s k ≤ 57) ∨ sby s k = 45 ∨ sby s k = 95) := by simpa [keyB] using hkey
      repeat' (first | refine goH ?_ | refine goV ?_ | refine goG ?_ | (refine Ops.k_guard ?_; first | (refine Ops.guard_dec rfl rfl (fun hc => ?_) (fun hc => ?_) <;> try (exfalso; omega)) | refine Ops.guard_split rfl rfl (fun hc => ?_) (fun hc => ?_)) | refine goI ?_ | (refine Cw.k_cond ?_; first | (refine Cw.cond_dec rfl (fun hc => ?_) (fun hc => ?_) <;> try (exfalso; omega)) | refine Cw.cond_bool rfl (fun hc => ?_) (fun hc => ?_)) | fail)
      all_goals (refine Fin.ret Ent.refl (Outs.one rfl rfl) ⟨rfl, congrArg Tr.bool ?_⟩; unfold isKey; exact (decide_eq_false (fun h => hkey (h.2.2.2 k hkl))).symm)
  · repeat' (first | refine goH ?_ | refine goV ?_ | refine goG ?_ | (refine Ops.k_guard ?_; first | (refine Ops.guard_dec rfl rfl (fun hc => ?_) (fun hc => ?_) <;> try (exfalso; omega)) | refine Ops.guard_split rfl rfl (fun hc => ?_) (fun hc => ?_)) | refine goI ?_ | (refine Cw.k_cond ?_; first | (refine Cw.cond_dec rfl (fun hc => ?_) (fun hc => ?_) <;> try (exfalso; omega)) | refine Cw.cond_bool rfl (fun hc => ?_) (fun hc => ?_)) | fail)
    refine Fin.ret Ent.refl (Outs.one rfl rfl) ⟨rfl, congrArg Tr.bool ?_⟩
    unfold isKey
    exact (decide_eq_true ⟨by omega, by omega, h3, fun j hj => hall j (by omega)⟩).symm

/-! ### the reference's own -/
theorem trim_fn (s of : ByteArray) (hs : s.size ≤ 9223372036854775807) (hcs : of.size < 4294967281) (ha : of.data.toList.all (fun b => decide (b.toNat < 128)) = true) :
    PFn Tryd.prog 75 [.str s, .str of] (· = .str ⟨(Lib.trimS s.data.toList of.data.toList).toArray⟩) :=
  PFn.of_calls (args := [.string s, .string of]) (enters_of Tryd.func75 (by kernel_rfl) rfl) fun w => Any.strings_Trim_laid Tryd.lays160 (by kernel_rfl) s of w hs hcs (ascii_of_all ha)

theorem dropWhile_nil {α : Type} (p : α → Bool) : ∀ (l : List α), l.dropWhile p = [] ↔ l.all p = true
  | [] => by simp
  | a :: l => by
    rw [List.dropWhile_cons]
    cases h : p a with
    | true => simp [h, dropWhile_nil p l]
    | false => simp [h]
theorem trimS_nil (l cs : List UInt8) : Lib.trimS l cs = [] ↔ l.all (cs.contains ·) = true := by
  unfold Lib.trimS Lib.trimLeftS
  rw [dropWhile_nil]
  unfold Lib.trimRightS
  constructor
  · intro h
    by_cases hn : l.reverse.dropWhile (cs.contains ·) = []
    · have := (dropWhile_nil _ _).1 hn
      rwa [List.all_reverse] at this
    · exfalso
      have hm := List.head_mem hn
      have h1 : cs.contains ((l.reverse.dropWhile (cs.contains ·)).head hn) = false := by
        have := List.head_dropWhile_not (cs.contains ·) hn
        simpa using this
      have h2 := List.all_eq_true.1 h _ (List.mem_reverse.2 hm)
      rw [h1] at h2
      cases h2
  · intro h
    rw [List.all_eq_true] at h ⊢
    intro x hx
    exact h x (by
      have h1 := List.mem_reverse.1 hx
      have h2 := (List.dropWhile_sublist _).mem h1
      exact List.mem_reverse.1 h2)

def allIn (s of : ByteArray) : Bool := s.data.toList.all (of.data.toList.contains ·)
theorem made_fn (s of : ByteArray) (hs : s.size ≤ 9223372036854775807) (hcs : of.size < 4294967281) (ha : of.data.toList.all (fun b => decide (b.toNat < 128)) = true) :
    PFn Tryd.prog 70 [.str s, .str of] (· = .bool (allIn s of)) := by
  refine PFn.mk (Spec.body Tryd.func70 rfl rfl (Tryd.ntmps70) rfl fun w0 own0 M => ?_)
  repeat' (first | refine goH ?_ | refine goV ?_ | refine goI ?_ | (refine Cw.k_cond ?_; first | (refine Cw.cond_dec rfl (fun hc => ?_) (fun hc => ?_) <;> try (exfalso; omega)) | refine Cw.cond_bool rfl (fun hc => ?_) (fun hc => ?_)) | (refine Ops.k_calla ?_; first | (refine Ops.k_callf 75 ?_; refine Ops.callV (trim_fn s of hs hcs ha) (Evs.cons rfl (Evs.cons rfl Evs.nil)) rfl ?_)) | fail)
  refine Fin.ret Ent.refl (Outs.one rfl rfl) ⟨rfl, congrArg Tr.bool ?_⟩
  unfold allIn
  rw [Bool.eq_iff_iff, decide_eq_true_iff, ← trimS_nil, str_empty]
  cases Lib.trimS s.data.toList of.data.toList with
  | nil => simp [ByteArray.size]
  | cons a l => simp [ByteArray.size]

def smallS : ByteArray := ⟨#[97, 98, 99, 100, 101, 102, 103, 104, 105, 106, 107, 108, 109, 110, 111, 112, 113, 114, 115, 116, 117, 118, 119, 120, 121, 122]⟩
def keyS : ByteArray := ⟨#[97, 98, 99, 100, 101, 102, 103, 104, 105, 106, 107, 108, 109, 110, 111, 112, 113, 114, 115, 116, 117, 118, 119, 120, 121, 122, 48, 49, 50, 51, 52, 53, 54, 55, 56, 57, 45, 95]⟩
theorem keyS_has (b : UInt8) : keyS.data.toList.contains b = keyB (b.toNat : Int) := by
  have h : ∀ n, n < 256 → keyS.data.toList.contains (UInt8.ofNat n) = keyB ((UInt8.ofNat n).toNat : Int) := by decide +kernel
  have := h b.toNat b.toNat_lt
  rwa [UInt8.ofNat_toNat] at this
theorem smallS_has (b : UInt8) : smallS.data.toList.contains b = smallB (b.toNat : Int) := by
  have h : ∀ n, n < 256 → smallS.data.toList.contains (UInt8.ofNat n) = smallB ((UInt8.ofNat n).toNat : Int) := by decide +kernel
  have := h b.toNat b.toNat_lt
  rwa [UInt8.ofNat_toNat] at this
theorem all_sby (s : ByteArray) (p : Int → Bool) : s.data.toList.all (fun b => p (b.toNat : Int)) = decide (∀ j, j < s.size → p (sby s j) = true) := by
  rw [Bool.eq_iff_iff, List.all_eq_true, decide_eq_true_iff]
  have hl : s.data.toList.length = s.size := Array.length_toList
  constructor
  · intro h j hj
    have := h (s.data.toList[j]'(by omega)) (List.getElem_mem _)
    unfold sby
    rw [List.getD_eq_getElem?_getD, List.getElem?_eq_getElem (by omega)]
    exact this
  · intro h b hb
    obtain ⟨j, hj, rfl⟩ := List.getElem_of_mem hb
    have := h j (by omega)
    unfold sby at this
    rw [List.getD_eq_getElem?_getD, List.getElem?_eq_getElem hj] at this
    exact this
theorem allIn_key (s : ByteArray) : allIn s keyS = decide (∀ j, j < s.size → keyB (sby s j) = true) := by
  rw [← all_sby]
  unfold allIn
  congr 1
  funext b
  exact keyS_has b
theorem allIn_small (s : ByteArray) (h : 1 ≤ s.size) : allIn (s.extract 0 1) smallS = smallB (sby s 0) := by
  have h1 : allIn (s.extract 0 1) smallS = (s.extract 0 1).data.toList.all (fun b => smallB (b.toNat : Int)) := by
    unfold allIn
    congr 1
    funext b
    exact smallS_has b
  rw [h1, all_sby]
  have hs : (s.extract 0 1).size = 1 := by simp; omega
  have h0 : sby (s.extract 0 1) 0 = sby s 0 := by
    unfold sby
    simp only [ByteArray.data_extract, Array.toList_extract, List.getD_eq_getElem?_getD]
    simp
  rw [hs]
  rw [Bool.eq_iff_iff, decide_eq_true_iff]
  constructor
  · intro h; rw [← h0]; exact h 0 (by omega)
  · intro h j hj
    rw [show j = 0 by omega, h0]
    exact h

theorem keyOf_fn (s : ByteArray) : PFn Tryd.prog 54 [.str s] (· = .bool (isKey s)) := by
  refine PFn.mk (Spec.body Tryd.func54 rfl rfl (Tryd.ntmps54) rfl fun w0 own0 M => ?_)
  by_cases h1 : (s.size : Int) ≥ 1
  rotate_left
  · repeat' (first | refine goH ?_ | refine goV ?_ | refine goG ?_ | (refine Ops.k_guard ?_; first | (refine Ops.guard_dec rfl rfl (fun hc => ?_) (fun hc => ?_) <;> try (exfalso; omega)) | refine Ops.guard_split rfl rfl (fun hc => ?_) (fun hc => ?_)) | refine goI ?_ | (refine Cw.k_cond ?_; first | (refine Cw.cond_dec rfl (fun hc => ?_) (fun hc => ?_) <;> try (exfalso; omega)) | refine Cw.cond_bool rfl (fun hc => ?_) (fun hc => ?_)) | fail)
    refine Fin.ret Ent.refl (Outs.one rfl rfl) ⟨rfl, congrArg Tr.bool ?_⟩
    unfold isKey
    exact (decide_eq_false (by omega)).symm
  by_cases h2 : (s.size : Int) ≤ 40
  rotate_left
  · repeat' (first | refine goH ?_ | refine goV ?_ | refine goG ?_ | (refine Ops.k_guard ?_; first | (refine Ops.guard_dec rfl rfl (fun hc => ?_) (fun hc => ?_) <;> try (exfalso; omega)) | refine Ops.guard_split rfl rfl (fun hc => ?_) (fun hc => ?_)) | refine goI ?_ | (refine Cw.k_cond ?_; first | (refine Cw.cond_dec rfl (fun hc => ?_) (fun hc => ?_) <;> try (exfalso; omega)) | refine Cw.cond_bool rfl (fun hc => ?_) (fun hc => ?_)) | fail)
    refine Fin.ret Ent.refl (Outs.one rfl rfl) ⟨rfl, congrArg Tr.bool ?_⟩
    unfold isKey
    exact (decide_eq_false (by omega)).symm
  have hm1 := made_fn s keyS (by omega) (by decide) (by decide)
  have hm2 := made_fn (s.extract 0 1) smallS (by simp; omega) (by decide) (by decide)
  rw [allIn_key] at hm1
  rw [allIn_small s (by omega)] at hm2
  by_cases h3 : ∀ j, j < s.size → keyB (sby s j) = true
  rotate_left
  · rw [decide_eq_false h3] at hm1
    repeat' (first | refine goH ?_ | refine goV ?_ | refine goG ?_ | (refine Ops.k_guard ?_; first | (refine Ops.guard_dec rfl rfl (fun hc => ?_) (fun hc => ?_) <;> try (exfalso; omega)) | refine Ops.guard_split rfl rfl (fun hc => ?_) (fun hc => ?_)) | refine goI ?_ | (refine Cw.k_cond ?_; first | (refine Cw.cond_dec rfl (fun hc => ?_) (fun hc => ?_) <;> try (exfalso; omega)) | refine Cw.cond_bool rfl (fun hc => ?_) (fun hc => ?_)) | (refine Ops.k_calla ?_; first | (refine Ops.k_callf 70 ?_; refine Ops.callV hm1 (Evs.cons rfl (Evs.cons rfl Evs.nil)) rfl ?_)) | fail)
    refine Fin.ret Ent.refl (Outs.one rfl rfl) ⟨rfl, congrArg Tr.bool ?_⟩
    unfold isKey
    exact (decide_eq_false (fun h => h3 h.2.2.2)).symm
  rw [decide_eq_true h3] at hm1
  repeat' (first | refine goH ?_ | refine goV ?_ | refine goG ?_ | (refine Ops.k_guard ?_; first | (refine Ops.guard_dec rfl rfl (fun hc => ?_) (fun hc => ?_) <;> try (exfalso; omega)) | refine Ops.guard_split rfl rfl (fun hc => ?_) (fun hc => ?_)) | refine goI ?_ | (refine Cw.k_cond ?_; first | (refine Cw.cond_dec rfl (fun hc => ?_) (fun hc => ?_) <;> try (exfalso; omega)) | refine Cw.cond_bool rfl (fun hc => ?_) (fun hc => ?_)) | (refine Ops.k_calla ?_; first | (refine Ops.k_callf 70 ?_; refine Ops.callV hm1 (Evs.cons rfl (Evs.cons rfl Evs.nil)) rfl ?_) | (refine Ops.k_callf 70 ?_; refine Ops.callV hm2 (Evs.cons rfl (Evs.cons rfl Evs.nil)) rfl ?_)) | fail)
  refine Fin.ret Ent.refl (Outs.one rfl rfl) ⟨rfl, congrArg Tr.bool ?_⟩
  unfold isKey
  rw [Bool.eq_iff_iff, decide_eq_true_iff]
  exact ⟨fun h => ⟨by omega, by omega, h, h3⟩, fun h => h.2.2.1⟩
attribute [irreducible] isKey
end Lg
end
section
set_option linter.all false
set_option maxRecDepth 100000
set_option maxHeartbeats 2000000
namespace Lg
open Go Go.Proofs

@[simp] theorem rowsOf_len (k n : Nat) (ts : List Tr) : (rowsOf k n ts).length = n := by simp [rowsOf]
theorem intRows_app (a b : List Int) : intRows (a ++ b) = intRows a ++ intRows b := by simp [intRows]

theorem equalInts_same (xs : List Int) (h : xs.length ≤ 1000000000) : PFn Tryd.prog 14 [.ints xs, .ints xs] (· = .bool true) := by
  refine PFn.mk (Spec.body Tryd.func14 rfl rfl (Tryd.ntmps14) rfl fun w0 own0 M => ?_)
  have hL := intRows_len xs
  repeat' (first | refine Ops.nil ?_ | refine Then.norm ?_ | refine Cw.seq ?_ | refine Cw.region ?_ | refine Cw.block ?_ | refine Cw.exit ?_ | refine Cw.skip ?_ | refine Cw.ret ?_ | refine Then.exit ?_ | refine Then.ret ?_ | refine InB.exit ?_ | refine InB.norm ?_ | refine InB.ret ?_ | refine InB.exit_ne rfl ?_ | (refine Ops.k_move ?_; first | refine Ops.move rfl rfl ?_ | refine Ops.move_any rfl ?_) | (refine Ops.k_assign ?_; first | refine Ops.assign rfl rfl ?_ | refine Ops.assign_any rfl ?_) | (refine Ops.k_load ?_; first | refine Ops.load_ref_one rfl rfl ?_ | refine Ops.load_ref_agg rfl rfl rfl ?_ | refine Ops.load_box_one rfl goPk rfl rfl ?_ | refine Ops.load_box_agg rfl goPk rfl rfl ?_ | refine Ops.load_own_one rfl goPk (by first | rfl | assumption | (simp [*]; done)) rfl rfl ?_ | refine Ops.load_own_agg rfl goPk (by first | rfl | assumption | (simp [*]; done)) rfl ?_ | refine Ops.load_box_part rfl goPk rfl rfl rfl ?_ | refine Ops.load_q_one rfl goPk (by first | rfl | assumption | (simp [*]; done)) rfl rfl ?_) | (refine Ops.k_c_len ?_; first | refine Ops.len_raw rfl rfl ?_ | refine Ops.len_sl rfl rfl ?_ | refine Ops.len_str rfl rfl rfl ?_ | refine Ops.len_q rfl rfl ?_) | (refine Ops.k_b_lss ?_; first | refine Ops.lss rfl rfl rfl ?_) | (refine Ops.k_b_neq ?_; first | refine Ops.neq rfl rfl rfl ?_) | (refine Ops.k_b_add ?_; first | refine Ops.add rfl rfl (by first | omega | (simp; done) | (simp; omega)) rfl ?_) | (refine Ops.k_indexAddr ?_; first | refine Ops.indexAddr_sl rfl rfl (by omega) (by first | rfl | assumption | (simp [*]; done)) rfl ?_ | refine Ops.indexAddr_own rfl rfl goPk (by first | rfl | omega | (simp; done) | (simp; omega)) (by first | omega | (simp; done) | (simp; omega)) (by first | omega | (simp; done) | (simp; omega)) rfl ?_ | refine Ops.indexAddr_q rfl rfl goPk (by first | rfl | omega | (simp; done) | (simp; omega)) (by first | omega | (simp; done) | (simp; omega)) (by first | omega | (simp; done) | (simp; omega)) rfl ?_) | (refine Cw.k_cond ?_; first | refine Cw.cond_true rfl ?_ | refine Cw.cond_false rfl ?_ | (refine Cw.cond_dec rfl (fun hc => ?_) (fun hc => ?_) <;> try (exfalso; omega)) | refine Cw.cond_bool rfl (fun hc => ?_) (fun hc => ?_)) | (refine Cw.k_draw ?_; first | refine Cw.region_seqC rfl (by decide +kernel) rfl ?_ | refine Cw.region_seq rfl (by decide +kernel) rfl ?_) | refine PSeq.nil ?_ | apply PSeq.cons | apply PSeq.yes rfl rfl rfl | refine PSeq.no rfl rfl rfl ?_ | refine PSeq.pass rfl rfl rfl ?_ | (apply OpV.w; apply OpV.k_move; first | exact OpV.move rfl) | (apply OpV.w; apply OpV.k_assign; first | exact OpV.assign rfl) | (apply OpV.w; apply OpV.k_load; first | exact OpV.load_ref_one rfl | exact OpV.load_ref_agg rfl rfl | exact OpV.load_box_one rfl goPk rfl | exact OpV.load_box_agg rfl goPk (by rfl) | exact OpV.load_box_part rfl goPk (by rfl) (by rfl) | exact OpV.load_own_agg rfl goPk (by first | rfl | assumption | (simp [*]; done)) | exact OpV.load_own_one rfl goPk (by first | rfl | assumption | (simp [*]; done)) rfl | exact OpV.load_q_one rfl goPk (by first | rfl | assumption | (simp [*]; done)) rfl) | (apply OpV.w; apply OpV.k_c_len; first | exact OpV.len_raw rfl | exact OpV.len_sl rfl | exact OpV.len_str rfl rfl) | (apply OpV.w; apply OpV.k_b_lss; first | exact OpV.lss_t rfl rfl (by omega) | exact OpV.lss_f rfl rfl (by omega) | exact OpV.lss rfl rfl) | (apply OpV.w; apply OpV.k_b_neq; first | exact OpV.neq_t rfl rfl (by omega) | exact OpV.neq_f rfl rfl (by omega) | exact OpV.neq rfl rfl) | (apply OpV.w; apply OpV.k_b_add; first | exact OpV.add rfl rfl (by first | omega | (simp; done) | (simp; omega))) | (apply OpV.w; apply OpV.k_indexAddr; first | exact OpV.indexAddr_sl rfl rfl (by omega) (by first | rfl | assumption | (simp [*]; done)) | exact OpV.indexAddr_own rfl rfl goPk (by first | rfl | omega | (simp; done) | (simp; omega)) (by first | omega | (simp; done) | (simp; omega)) (by first | omega | (simp; done) | (simp; omega)) | exact OpV.indexAddr_q rfl rfl goPk (by first | rfl | omega | (simp; done) | (simp; omega)) (by first | omega | (simp; done) | (simp; omega)) (by first | omega | (simp; done) | (simp; omega))))
  refine Cw.loop (ι := Nat) (fun k => k ≤ xs.length) (fun k => [(0, .ints xs), (1, .ints xs), (11, .ints xs), (12, .int (intRows xs).length), (13, .int k)]) (fun _ => []) (fun k => xs.length - k) ⟨0, by omega, (Ent.mk goSub goTk)⟩ ?_
  intro k hk
  by_cases hkl : k < xs.length
  · obtain ⟨d, hd⟩ : ∃ x, xs[k]? = some x := ⟨_, List.getElem?_eq_getElem hkl⟩
    have hrow := intRows_at hd
    repeat' (first | refine Ops.nil ?_ | refine Then.norm ?_ | refine Cw.seq ?_ | refine Cw.region ?_ | refine Cw.block ?_ | refine Cw.exit ?_ | refine Cw.skip ?_ | refine Cw.ret ?_ | refine Then.exit ?_ | refine Then.ret ?_ | refine InB.exit ?_ | refine InB.norm ?_ | refine InB.ret ?_ | refine InB.exit_ne rfl ?_ | (refine Ops.k_move ?_; first | refine Ops.move rfl rfl ?_ | refine Ops.move_any rfl ?_) | (refine Ops.k_assign ?_; first | refine Ops.assign rfl rfl ?_ | refine Ops.assign_any rfl ?_) | (refine Ops.k_load ?_; first | refine Ops.load_ref_one rfl rfl ?_ | refine Ops.load_ref_agg rfl rfl rfl ?_ | refine Ops.load_box_one rfl goPk rfl rfl ?_ | refine Ops.load_box_agg rfl goPk rfl rfl ?_ | refine Ops.load_own_one rfl goPk (by first | rfl | assumption | (simp [*]; done)) rfl rfl ?_ | refine Ops.load_own_agg rfl goPk (by first | rfl | assumption | (simp [*]; done)) rfl ?_ | refine Ops.load_box_part rfl goPk rfl rfl rfl ?_ | refine Ops.load_q_one rfl goPk (by first | rfl | assumption | (simp [*]; done)) rfl rfl ?_) | (refine Ops.k_c_len ?_; first | refine Ops.len_raw rfl rfl ?_ | refine Ops.len_sl rfl rfl ?_ | refine Ops.len_str rfl rfl rfl ?_ | refine Ops.len_q rfl rfl ?_) | (refine Ops.k_b_lss ?_; first | refine Ops.lss rfl rfl rfl ?_) | (refine Ops.k_b_neq ?_; first | refine Ops.neq rfl rfl rfl ?_) | (refine Ops.k_b_add ?_; first | refine Ops.add rfl rfl (by first | omega | (simp; done) | (simp; omega)) rfl ?_) | (refine Ops.k_indexAddr ?_; first | refine Ops.indexAddr_sl rfl rfl (by omega) (by first | rfl | assumption | (simp [*]; done)) rfl ?_ | refine Ops.indexAddr_own rfl rfl goPk (by first | rfl | omega | (simp; done) | (simp; omega)) (by first | omega | (simp; done) | (simp; omega)) (by first | omega | (simp; done) | (simp; omega)) rfl ?_ | refine Ops.indexAddr_q rfl rfl goPk (by first | rfl | omega | (simp; done) | (simp; omega)) (by first | omega | (simp; done) | (simp; omega)) (by first | omega | (simp; done) | (simp; omega)) rfl ?_) | (refine Cw.k_cond ?_; first | refine Cw.cond_true rfl ?_ | refine Cw.cond_false rfl ?_ | (refine Cw.cond_dec rfl (fun hc => ?_) (fun hc => ?_) <;> try (exfalso; omega)) | refine Cw.cond_bool rfl (fun hc => ?_) (fun hc => ?_)) | (refine Cw.k_draw ?_; first | refine Cw.region_seqC rfl (by decide +kernel) rfl ?_ | refine Cw.region_seq rfl (by decide +kernel) rfl ?_) | refine PSeq.nil ?_ | apply PSeq.cons | apply PSeq.yes rfl rfl rfl | refine PSeq.no rfl rfl rfl ?_ | refine PSeq.pass rfl rfl rfl ?_ | (apply OpV.w; apply OpV.k_move; first | exact OpV.move rfl) | (apply OpV.w; apply OpV.k_assign; first | exact OpV.assign rfl) | (apply OpV.w; apply OpV.k_load; first | exact OpV.load_ref_one rfl | exact OpV.load_ref_agg rfl rfl | exact OpV.load_box_one rfl goPk rfl | exact OpV.load_box_agg rfl goPk (by rfl) | exact OpV.load_box_part rfl goPk (by rfl) (by rfl) | exact OpV.load_own_agg rfl goPk (by first | rfl | assumption | (simp [*]; done)) | exact OpV.load_own_one rfl goPk (by first | rfl | assumption | (simp [*]; done)) rfl | exact OpV.load_q_one rfl goPk (by first | rfl | assumption | (simp [*]; done)) rfl) | (apply OpV.w; apply OpV.k_c_len; first | exact OpV.len_raw rfl | exact OpV.len_sl rfl | exact OpV.len_str rfl rfl) | (apply OpV.w; apply OpV.k_b_lss; first | exact OpV.lss_t rfl rfl (by omega) | exact OpV.lss_f rfl rfl (by omega) | exact OpV.lss rfl rfl) | (apply OpV.w; apply OpV.k_b_neq; first | exact OpV.neq_t rfl rfl (by omega) | exact OpV.neq_f rfl rfl (by omega) | exact OpV.neq rfl rfl) | (apply OpV.w; apply OpV.k_b_add; first | exact OpV.add rfl rfl (by first | omega | (simp; done) | (simp; omega))) | (apply OpV.w; apply OpV.k_indexAddr; first | exact OpV.indexAddr_sl rfl rfl (by omega) (by first | rfl | assumption | (simp [*]; done)) | exact OpV.indexAddr_own rfl rfl goPk (by first | rfl | omega | (simp; done) | (simp; omega)) (by first | omega | (simp; done) | (simp; omega)) (by first | omega | (simp; done) | (simp; omega)) | exact OpV.indexAddr_q rfl rfl goPk (by first | rfl | omega | (simp; done) | (simp; omega)) (by first | omega | (simp; done) | (simp; omega)) (by first | omega | (simp; done) | (simp; omega))))
    exact ⟨k + 1, by omega, by omega, (Ent.mk goSub goTk)⟩
  · repeat' (first | refine Ops.nil ?_ | refine Then.norm ?_ | refine Cw.seq ?_ | refine Cw.region ?_ | refine Cw.block ?_ | refine Cw.exit ?_ | refine Cw.skip ?_ | refine Cw.ret ?_ | refine Then.exit ?_ | refine Then.ret ?_ | refine InB.exit ?_ | refine InB.norm ?_ | refine InB.ret ?_ | refine InB.exit_ne rfl ?_ | (refine Ops.k_move ?_; first | refine Ops.move rfl rfl ?_ | refine Ops.move_any rfl ?_) | (refine Ops.k_assign ?_; first | refine Ops.assign rfl rfl ?_ | refine Ops.assign_any rfl ?_) | (refine Ops.k_load ?_; first | refine Ops.load_ref_one rfl rfl ?_ | refine Ops.load_ref_agg rfl rfl rfl ?_ | refine Ops.load_box_one rfl goPk rfl rfl ?_ | refine Ops.load_box_agg rfl goPk rfl rfl ?_ | refine Ops.load_own_one rfl goPk (by first | rfl | assumption | (simp [*]; done)) rfl rfl ?_ | refine Ops.load_own_agg rfl goPk (by first | rfl | assumption | (simp [*]; done)) rfl ?_ | refine Ops.load_box_part rfl goPk rfl rfl rfl ?_ | refine Ops.load_q_one rfl goPk (by first | rfl | assumption | (simp [*]; done)) rfl rfl ?_) | (refine Ops.k_c_len ?_; first | refine Ops.len_raw rfl rfl ?_ | refine Ops.len_sl rfl rfl ?_ | refine Ops.len_str rfl rfl rfl ?_ | refine Ops.len_q rfl rfl ?_) | (refine Ops.k_b_lss ?_; first | refine Ops.lss rfl rfl rfl ?_) | (refine Ops.k_b_neq ?_; first | refine Ops.neq rfl rfl rfl ?_) | (refine Ops.k_b_add ?_; first | refine Ops.add rfl rfl (by first | omega | (simp; done) | (simp; omega)) rfl ?_) | (refine Ops.k_indexAddr ?_; first | refine Ops.indexAddr_sl rfl rfl (by omega) (by first | rfl | assumption | (simp [*]; done)) rfl ?_ | refine Ops.indexAddr_own rfl rfl goPk (by first | rfl | omega | (simp; done) | (simp; omega)) (by first | omega | (simp; done) | (simp; omega)) (by first | omega | (simp; done) | (simp; omega)) rfl ?_ | refine Ops.indexAddr_q rfl rfl goPk (by first | rfl | omega | (simp; done) | (simp; omega)) (by first | omega | (simp; done) | (simp; omega)) (by first | omega | (simp; done) | (simp; omega)) rfl ?_) | (refine Cw.k_cond ?_; first | refine Cw.cond_true rfl ?_ | refine Cw.cond_false rfl ?_ | (refine Cw.cond_dec rfl (fun hc => ?_) (fun hc => ?_) <;> try (exfalso; omega)) | refine Cw.cond_bool rfl (fun hc => ?_) (fun hc => ?_)) | (refine Cw.k_draw ?_; first | refine Cw.region_seqC rfl (by decide +kernel) rfl ?_ | refine Cw.region_seq rfl (by decide +kernel) rfl ?_) | refine PSeq.nil ?_ | apply PSeq.cons | apply PSeq.yes rfl rfl rfl | refine PSeq.no rfl rfl rfl ?_ | refine PSeq.pass rfl rfl rfl ?_ | (apply OpV.w; apply OpV.k_move; first | exact OpV.move rfl) | (apply OpV.w; apply OpV.k_assign; first | exact OpV.assign rfl) | (apply OpV.w; apply OpV.k_load; first | exact OpV.load_ref_one rfl | exact OpV.load_ref_agg rfl rfl | exact OpV.load_box_one rfl goPk rfl | exact OpV.load_box_agg rfl goPk (by rfl) | exact OpV.load_box_part rfl goPk (by rfl) (by rfl) | exact OpV.load_own_agg rfl goPk (by first | rfl | assumption | (simp [*]; done)) | exact OpV.load_own_one rfl goPk (by first | rfl | assumption | (simp [*]; done)) rfl | exact OpV.load_q_one rfl goPk (by first | rfl | assumption | (simp [*]; done)) rfl) | (apply OpV.w; apply OpV.k_c_len; first | exact OpV.len_raw rfl | exact OpV.len_sl rfl | exact OpV.len_str rfl rfl) | (apply OpV.w; apply OpV.k_b_lss; first | exact OpV.lss_t rfl rfl (by omega) | exact OpV.lss_f rfl rfl (by omega) | exact OpV.lss rfl rfl) | (apply OpV.w; apply OpV.k_b_neq; first | exact OpV.neq_t rfl rfl (by omega) | exact OpV.neq_f rfl rfl (by omega) | exact OpV.neq rfl rfl) | (apply OpV.w; apply OpV.k_b_add; first | exact OpV.add rfl rfl (by first | omega | (simp; done) | (simp; omega))) | (apply OpV.w; apply OpV.k_indexAddr; first | exact OpV.indexAddr_sl rfl rfl (by omega) (by first | rfl | assumption | (simp [*]; done)) | exact OpV.indexAddr_own rfl rfl goPk (by first | rfl | omega | (simp; done) | (simp; omega)) (by first | omega | (simp; done) | (simp; omega)) (by first | omega | (simp; done) | (simp; omega)) | exact OpV.indexAddr_q rfl rfl goPk (by first | rfl | omega | (simp; done) | (simp; omega)) (by first | omega | (simp; done) | (simp; omega)) (by first | omega | (simp; done) | (simp; omega))))
    exact Fin.ret Ent.refl (Outs.one rfl rfl) ⟨rfl, rfl⟩
end Lg
end
