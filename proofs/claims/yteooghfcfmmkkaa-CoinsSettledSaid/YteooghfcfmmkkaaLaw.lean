/- A part of the proof of a law of this seat: it adds no condition. By an AI agent. -/
import Derived.Test.YteooghfcfmmkkaaLgGo
import Derived.Test.YteooghfcfmmkkaaFrame
import Derived.Test.YteooghfcfmmkkaaVend2
section
set_option linter.all false
set_option maxRecDepth 100000
set_option maxHeartbeats 4000000
namespace Lg
open Go Go.Proofs

theorem rightTubes_gen : GenO Try.prog 25 21 [] 15 3 46 (fun rows => ∃ l : List Tube, rows = l.map Tube.row ∧ l.length ≤ 5) := by
  unfold GenO
  intro b xs N hN
  refine Spec.body Try.func21 rfl rfl (Try.ntmps21) rfl fun w0 own0 M => ?_
  repeat' (first | refine Ops.nil ?_ | refine Then.norm ?_ | refine Cw.seq ?_ | refine Cw.region ?_ | refine Cw.block ?_ | refine Cw.exit ?_ | refine Cw.skip ?_ | refine Cw.ret ?_ | refine Then.exit ?_ | refine Then.ret ?_ | refine InB.exit ?_ | refine InB.norm ?_ | refine InB.ret ?_ | refine InB.exit_ne rfl ?_ | (refine Ops.k_move ?_; first | refine Ops.move rfl rfl ?_ | refine Ops.move_any rfl ?_) | (refine Ops.k_assign ?_; first | refine Ops.assign rfl rfl ?_ | refine Ops.assign_any rfl ?_) | (refine Ops.k_load ?_; first | refine Ops.load_ref_one rfl rfl ?_ | refine Ops.load_ref_agg rfl rfl rfl ?_ | refine Ops.load_box_one rfl goPk rfl rfl ?_ | refine Ops.load_box_agg rfl goPk rfl rfl ?_ | refine Ops.load_own_one rfl goPk (by first | rfl | assumption | (simp [*]; done)) rfl rfl ?_ | refine Ops.load_own_agg rfl goPk (by first | rfl | assumption | (simp [*]; done)) rfl ?_ | refine Ops.load_box_part rfl goPk rfl rfl rfl ?_ | refine Ops.load_q_one rfl goPk (by first | rfl | assumption | (simp [*]; done)) rfl rfl ?_) | (refine Ops.k_c_len ?_; first | refine Ops.len_raw rfl rfl ?_ | refine Ops.len_sl rfl rfl ?_ | refine Ops.len_str rfl rfl rfl ?_ | refine Ops.len_q rfl rfl ?_) | (refine Ops.k_b_lss ?_; first | refine Ops.lss rfl rfl rfl ?_) | (refine Ops.k_b_add ?_; first | refine Ops.add rfl rfl (by first | omega | (simp; done) | (simp; omega)) rfl ?_) | (refine Ops.k_indexAddr ?_; first | refine Ops.indexAddr_sl rfl rfl (by omega) (by first | rfl | assumption | (simp [*]; done)) rfl ?_ | refine Ops.indexAddr_own rfl rfl goPk (by first | rfl | omega | (simp; done) | (simp; omega)) (by first | omega | (simp; done) | (simp; omega)) (by first | omega | (simp; done) | (simp; omega)) rfl ?_ | refine Ops.indexAddr_q rfl rfl goPk (by first | rfl | omega | (simp; done) | (simp; omega)) (by first | omega | (simp; done) | (simp; omega)) (by first | omega | (simp; done) | (simp; omega)) rfl ?_) | (refine Ops.k_build ?_; first | (refine Ops.k_build1 ?_; refine Ops.build (by exact Parts.cons rfl rfl rfl (by exact Parts.nil)) rfl ?_) | (refine Ops.k_build3 ?_; refine Ops.build (by exact Parts.cons rfl rfl rfl (by exact Parts.cons rfl rfl rfl (by exact Parts.cons rfl rfl rfl (by exact Parts.nil)))) rfl ?_) | (refine Ops.k_build5 ?_; refine Ops.build (by exact Parts.cons rfl rfl rfl (by exact Parts.cons rfl rfl rfl (by exact Parts.cons rfl rfl rfl (by exact Parts.cons rfl rfl rfl (by exact Parts.cons rfl rfl rfl (by exact Parts.nil)))))) rfl ?_)) | (refine Ops.k_buildSlice ?_; first | (refine Ops.k_buildSlice1 ?_; refine Ops.buildSlice (by exact Parts.cons rfl rfl rfl (by exact Parts.nil)) rfl rfl rfl ?_) | (refine Ops.k_buildSlice3 ?_; refine Ops.buildSlice (by exact Parts.cons rfl rfl rfl (by exact Parts.cons rfl rfl rfl (by exact Parts.cons rfl rfl rfl (by exact Parts.nil)))) rfl rfl rfl ?_) | (refine Ops.k_buildSlice5 ?_; refine Ops.buildSlice (by exact Parts.cons rfl rfl rfl (by exact Parts.cons rfl rfl rfl (by exact Parts.cons rfl rfl rfl (by exact Parts.cons rfl rfl rfl (by exact Parts.cons rfl rfl rfl (by exact Parts.nil)))))) rfl rfl rfl ?_)) | (refine Ops.k_c_append ?_; first | refine Ops.append rfl rfl goPk (by first | rfl | omega | (simp; done) | (simp; omega)) (by first | omega | (simp; done) | (simp; omega)) (by first | omega | (simp; done) | (simp; omega)) rfl (fun ad cap => ?_) | refine Ops.append_q rfl rfl goPk (by first | rfl | omega | (simp; done) | (simp; omega)) (by first | exact List.cons_ne_nil _ _ | simp) (by first | omega | (simp; done) | (simp; omega)) (by first | omega | (simp; done) | (simp; omega)) rfl (fun ad o cap => ?_)) | (refine Cw.k_cond ?_; first | refine Cw.cond_true rfl ?_ | refine Cw.cond_false rfl ?_ | (refine Cw.cond_dec rfl (fun hc => ?_) (fun hc => ?_) <;> try (exfalso; omega)) | refine Cw.cond_bool rfl (fun hc => ?_) (fun hc => ?_)))
  refine Cw.loop (ι := Nat × Option Addr × Nat × List (List Tr) × Nat) (fun s => s.1 ≤ 5 ∧ (∃ l : List Tube, s.2.2.2.1 = l.map Tube.row ∧ l.length ≤ s.1) ∧ s.2.2.2.2 ≤ N + 3 * s.1)
    (fun s => [(0, .ptr b), (7, .ints [5, 10, 25, 50, 100]), (8, .int 5), (3, Tr.raw (.slice s.2.1 s.2.2.2.1.length s.2.2.1)), (9, .int s.1)])
    (fun s => [Chunk.own s.2.1 s.2.2.1 3 46 s.2.2.2.1, Chunk.strm 25 b (intRows xs) s.2.2.2.2]) (fun s => 5 - s.1) ⟨(0, none, 0, [], N), ⟨by simp only; omega, ⟨[], rfl, by simp⟩, by simp only; omega⟩, Ent.trans (Ent.nil 3 46) (Ent.mk goSub goTk)⟩ ?_
  rintro ⟨k, ad, cap, rows, c⟩ ⟨hk, ⟨l, hrows, hlen⟩, h3⟩
  simp only at hk hrows hlen h3 ⊢
  have hrl : rows.length = l.length := by rw [hrows]; simp
  have key : ∀ a b c : Int, rows ++ [[Tr.int a, Tr.int b, Tr.int c]] = (l ++ [Tube.mk a b c]).map Tube.row := by intro a b c; rw [hrows, List.map_append]; rfl
  by_cases hkl : k < 5
  · obtain ⟨y, hy⟩ := at_lt (l := ([5, 10, 25, 50, 100] : List Int)) (k := k) (by simpa using hkl)
    have hrow := intRows_at hy
    repeat' (first | refine Ops.nil ?_ | refine Then.norm ?_ | refine Cw.seq ?_ | refine Cw.region ?_ | refine Cw.block ?_ | refine Cw.exit ?_ | refine Cw.skip ?_ | refine Cw.ret ?_ | refine Then.exit ?_ | refine Then.ret ?_ | refine InB.exit ?_ | refine InB.norm ?_ | refine InB.ret ?_ | refine InB.exit_ne rfl ?_ | (refine Ops.k_move ?_; first | refine Ops.move rfl rfl ?_ | refine Ops.move_any rfl ?_) | (refine Ops.k_assign ?_; first | refine Ops.assign rfl rfl ?_ | refine Ops.assign_any rfl ?_) | (refine Ops.k_load ?_; first | refine Ops.load_ref_one rfl rfl ?_ | refine Ops.load_ref_agg rfl rfl rfl ?_ | refine Ops.load_box_one rfl goPk rfl rfl ?_ | refine Ops.load_box_agg rfl goPk rfl rfl ?_ | refine Ops.load_own_one rfl goPk (by first | rfl | assumption | (simp [*]; done)) rfl rfl ?_ | refine Ops.load_own_agg rfl goPk (by first | rfl | assumption | (simp [*]; done)) rfl ?_ | refine Ops.load_box_part rfl goPk rfl rfl rfl ?_ | refine Ops.load_q_one rfl goPk (by first | rfl | assumption | (simp [*]; done)) rfl rfl ?_) | (refine Ops.k_c_len ?_; first | refine Ops.len_raw rfl rfl ?_ | refine Ops.len_sl rfl rfl ?_ | refine Ops.len_str rfl rfl rfl ?_ | refine Ops.len_q rfl rfl ?_) | (refine Ops.k_b_lss ?_; first | refine Ops.lss rfl rfl rfl ?_) | (refine Ops.k_b_add ?_; first | refine Ops.add rfl rfl (by first | omega | (simp; done) | (simp; omega)) rfl ?_) | (refine Ops.k_indexAddr ?_; first | refine Ops.indexAddr_sl rfl rfl (by omega) (by first | rfl | assumption | (simp [*]; done)) rfl ?_ | refine Ops.indexAddr_own rfl rfl goPk (by first | rfl | omega | (simp; done) | (simp; omega)) (by first | omega | (simp; done) | (simp; omega)) (by first | omega | (simp; done) | (simp; omega)) rfl ?_ | refine Ops.indexAddr_q rfl rfl goPk (by first | rfl | omega | (simp; done) | (simp; omega)) (by first | omega | (simp; done) | (simp; omega)) (by first | omega | (simp; done) | (simp; omega)) rfl ?_) | (refine Ops.k_build ?_; first | (refine Ops.k_build1 ?_; refine Ops.build (by exact Parts.cons rfl rfl rfl (by exact Parts.nil)) rfl ?_) | (refine Ops.k_build3 ?_; refine Ops.build (by exact Parts.cons rfl rfl rfl (by exact Parts.cons rfl rfl rfl (by exact Parts.cons rfl rfl rfl (by exact Parts.nil)))) rfl ?_) | (refine Ops.k_build5 ?_; refine Ops.build (by exact Parts.cons rfl rfl rfl (by exact Parts.cons rfl rfl rfl (by exact Parts.cons rfl rfl rfl (by exact Parts.cons rfl rfl rfl (by exact Parts.cons rfl rfl rfl (by exact Parts.nil)))))) rfl ?_)) | (refine Ops.k_buildSlice ?_; first | (refine Ops.k_buildSlice1 ?_; refine Ops.buildSlice (by exact Parts.cons rfl rfl rfl (by exact Parts.nil)) rfl rfl rfl ?_) | (refine Ops.k_buildSlice3 ?_; refine Ops.buildSlice (by exact Parts.cons rfl rfl rfl (by exact Parts.cons rfl rfl rfl (by exact Parts.cons rfl rfl rfl (by exact Parts.nil)))) rfl rfl rfl ?_) | (refine Ops.k_buildSlice5 ?_; refine Ops.buildSlice (by exact Parts.cons rfl rfl rfl (by exact Parts.cons rfl rfl rfl (by exact Parts.cons rfl rfl rfl (by exact Parts.cons rfl rfl rfl (by exact Parts.cons rfl rfl rfl (by exact Parts.nil)))))) rfl rfl rfl ?_)) | (refine Ops.k_c_append ?_; first | refine Ops.append rfl rfl goPk (by first | rfl | omega | (simp; done) | (simp; omega)) (by first | omega | (simp; done) | (simp; omega)) (by first | omega | (simp; done) | (simp; omega)) rfl (fun ad cap => ?_) | refine Ops.append_q rfl rfl goPk (by first | rfl | omega | (simp; done) | (simp; omega)) (by first | exact List.cons_ne_nil _ _ | simp) (by first | omega | (simp; done) | (simp; omega)) (by first | omega | (simp; done) | (simp; omega)) rfl (fun ad o cap => ?_)) | (refine Cw.k_cond ?_; first | refine Cw.cond_true rfl ?_ | refine Cw.cond_false rfl ?_ | (refine Cw.cond_dec rfl (fun hc => ?_) (fun hc => ?_) <;> try (exfalso; omega)) | refine Cw.cond_bool rfl (fun hc => ?_) (fun hc => ?_)) | (refine Ops.k_calla ?_; first | (refine Ops.k_callf 22 ?_; (refine Ops.callG (flip_gen _ (by omega)) (Evs.cons rfl (Evs.cons rfl Evs.nil)) goPk (by omega) rfl ?_; rintro r ⟨v, rfl⟩)) | (refine Ops.k_callf 7 ?_; (refine Ops.callG (pick_gen (by repeat' (first | exact IsInts.nil | apply IsInts.cons)) (by simp)) (Evs.cons rfl (Evs.cons rfl Evs.nil)) goPk (by omega) rfl ?_; rintro r ⟨u, rfl, hu⟩; have hub : 0 ≤ u ∧ u ≤ 20 := (by simp at hu; omega); clear hu)) | (refine Ops.k_callf 23 ?_; (refine Ops.callG (next_gen _ (by omega)) (Evs.cons rfl (Evs.cons rfl Evs.nil)) goPk (by omega) rfl ?_; rintro r ⟨w, rfl, hw⟩))))
    · refine ⟨(k + 1, _, _, _, _), ?_, ?_, (Ent.mk goSub goTk)⟩
      · exact ⟨by simp only; omega, ⟨l, hrows, by simp only; omega⟩, by simp only; omega⟩
      · simp only; omega
    · refine ⟨(k + 1, _, _, _, _), ?_, ?_, (Ent.mk goSub goTk)⟩
      · exact ⟨by simp only; omega, ⟨_, key _ _ _, by simp only [List.length_append, List.length_cons, List.length_nil]; omega⟩, by simp only; omega⟩
      · simp only; omega
  · repeat' (first | refine Ops.nil ?_ | refine Then.norm ?_ | refine Cw.seq ?_ | refine Cw.region ?_ | refine Cw.block ?_ | refine Cw.exit ?_ | refine Cw.skip ?_ | refine Cw.ret ?_ | refine Then.exit ?_ | refine Then.ret ?_ | refine InB.exit ?_ | refine InB.norm ?_ | refine InB.ret ?_ | refine InB.exit_ne rfl ?_ | (refine Ops.k_move ?_; first | refine Ops.move rfl rfl ?_ | refine Ops.move_any rfl ?_) | (refine Ops.k_assign ?_; first | refine Ops.assign rfl rfl ?_ | refine Ops.assign_any rfl ?_) | (refine Ops.k_load ?_; first | refine Ops.load_ref_one rfl rfl ?_ | refine Ops.load_ref_agg rfl rfl rfl ?_ | refine Ops.load_box_one rfl goPk rfl rfl ?_ | refine Ops.load_box_agg rfl goPk rfl rfl ?_ | refine Ops.load_own_one rfl goPk (by first | rfl | assumption | (simp [*]; done)) rfl rfl ?_ | refine Ops.load_own_agg rfl goPk (by first | rfl | assumption | (simp [*]; done)) rfl ?_ | refine Ops.load_box_part rfl goPk rfl rfl rfl ?_ | refine Ops.load_q_one rfl goPk (by first | rfl | assumption | (simp [*]; done)) rfl rfl ?_) | (refine Ops.k_c_len ?_; first | refine Ops.len_raw rfl rfl ?_ | refine Ops.len_sl rfl rfl ?_ | refine Ops.len_str rfl rfl rfl ?_ | refine Ops.len_q rfl rfl ?_) | (refine Ops.k_b_lss ?_; first | refine Ops.lss rfl rfl rfl ?_) | (refine Ops.k_b_add ?_; first | refine Ops.add rfl rfl (by first | omega | (simp; done) | (simp; omega)) rfl ?_) | (refine Ops.k_indexAddr ?_; first | refine Ops.indexAddr_sl rfl rfl (by omega) (by first | rfl | assumption | (simp [*]; done)) rfl ?_ | refine Ops.indexAddr_own rfl rfl goPk (by first | rfl | omega | (simp; done) | (simp; omega)) (by first | omega | (simp; done) | (simp; omega)) (by first | omega | (simp; done) | (simp; omega)) rfl ?_ | refine Ops.indexAddr_q rfl rfl goPk (by first | rfl | omega | (simp; done) | (simp; omega)) (by first | omega | (simp; done) | (simp; omega)) (by first | omega | (simp; done) | (simp; omega)) rfl ?_) | (refine Ops.k_build ?_; first | (refine Ops.k_build1 ?_; refine Ops.build (by exact Parts.cons rfl rfl rfl (by exact Parts.nil)) rfl ?_) | (refine Ops.k_build3 ?_; refine Ops.build (by exact Parts.cons rfl rfl rfl (by exact Parts.cons rfl rfl rfl (by exact Parts.cons rfl rfl rfl (by exact Parts.nil)))) rfl ?_) | (refine Ops.k_build5 ?_; refine Ops.build (by exact Parts.cons rfl rfl rfl (by exact Parts.cons rfl rfl rfl (by exact Parts.cons rfl rfl rfl (by exact Parts.cons rfl rfl rfl (by exact Parts.cons rfl rfl rfl (by exact Parts.nil)))))) rfl ?_)) | (refine Ops.k_buildSlice ?_; first | (refine Ops.k_buildSlice1 ?_; refine Ops.buildSlice (by exact Parts.cons rfl rfl rfl (by exact Parts.nil)) rfl rfl rfl ?_) | (refine Ops.k_buildSlice3 ?_; refine Ops.buildSlice (by exact Parts.cons rfl rfl rfl (by exact Parts.cons rfl rfl rfl (by exact Parts.cons rfl rfl rfl (by exact Parts.nil)))) rfl rfl rfl ?_) | (refine Ops.k_buildSlice5 ?_; refine Ops.buildSlice (by exact Parts.cons rfl rfl rfl (by exact Parts.cons rfl rfl rfl (by exact Parts.cons rfl rfl rfl (by exact Parts.cons rfl rfl rfl (by exact Parts.cons rfl rfl rfl (by exact Parts.nil)))))) rfl rfl rfl ?_)) | (refine Ops.k_c_append ?_; first | refine Ops.append rfl rfl goPk (by first | rfl | omega | (simp; done) | (simp; omega)) (by first | omega | (simp; done) | (simp; omega)) (by first | omega | (simp; done) | (simp; omega)) rfl (fun ad cap => ?_) | refine Ops.append_q rfl rfl goPk (by first | rfl | omega | (simp; done) | (simp; omega)) (by first | exact List.cons_ne_nil _ _ | simp) (by first | omega | (simp; done) | (simp; omega)) (by first | omega | (simp; done) | (simp; omega)) rfl (fun ad o cap => ?_)) | (refine Cw.k_cond ?_; first | refine Cw.cond_true rfl ?_ | refine Cw.cond_false rfl ?_ | (refine Cw.cond_dec rfl (fun hc => ?_) (fun hc => ?_) <;> try (exfalso; omega)) | refine Cw.cond_bool rfl (fun hc => ?_) (fun hc => ?_)))
    exact Fin.ret (Ent.own_strm goPk goPk (by omega)) (Outs.one rfl rfl) ⟨ad, cap, rows, rfl, rfl, l, hrows, by omega⟩

theorem tubes_gen : Gen Try.prog 25 4 [] 20 (fun r => ∃ l : List Tube, r = .tubes l ∧ l.length ≤ 6) := by
  unfold Gen
  intro b xs N hN
  refine Spec.body Try.func4 rfl rfl (Try.ntmps4) rfl fun w0 own0 M => ?_
  repeat' (first | refine Ops.nil ?_ | refine Then.norm ?_ | refine Cw.seq ?_ | refine Cw.region ?_ | refine Cw.block ?_ | refine Cw.exit ?_ | refine Cw.skip ?_ | refine Cw.ret ?_ | refine Then.exit ?_ | refine Then.ret ?_ | refine InB.exit ?_ | refine InB.norm ?_ | refine InB.ret ?_ | refine InB.exit_ne rfl ?_ | (refine Ops.k_move ?_; first | refine Ops.move rfl rfl ?_ | refine Ops.move_any rfl ?_) | (refine Ops.k_assign ?_; first | refine Ops.assign rfl rfl ?_ | refine Ops.assign_any rfl ?_) | (refine Ops.k_build ?_; first | (refine Ops.k_build1 ?_; refine Ops.build (by exact Parts.cons rfl rfl rfl (by exact Parts.nil)) rfl ?_) | (refine Ops.k_build3 ?_; refine Ops.build (by exact Parts.cons rfl rfl rfl (by exact Parts.cons rfl rfl rfl (by exact Parts.cons rfl rfl rfl (by exact Parts.nil)))) rfl ?_) | (refine Ops.k_build4 ?_; refine Ops.build (by exact Parts.cons rfl rfl rfl (by exact Parts.cons rfl rfl rfl (by exact Parts.cons rfl rfl rfl (by exact Parts.cons rfl rfl rfl (by exact Parts.nil))))) rfl ?_)) | (refine Ops.k_buildSlice ?_; first | (refine Ops.k_buildSlice1 ?_; refine Ops.buildSlice (by exact Parts.cons rfl rfl rfl (by exact Parts.nil)) rfl rfl rfl ?_) | (refine Ops.k_buildSlice3 ?_; refine Ops.buildSlice (by exact Parts.cons rfl rfl rfl (by exact Parts.cons rfl rfl rfl (by exact Parts.cons rfl rfl rfl (by exact Parts.nil)))) rfl rfl rfl ?_) | (refine Ops.k_buildSlice4 ?_; refine Ops.buildSlice (by exact Parts.cons rfl rfl rfl (by exact Parts.cons rfl rfl rfl (by exact Parts.cons rfl rfl rfl (by exact Parts.cons rfl rfl rfl (by exact Parts.nil))))) rfl rfl rfl ?_)) | (refine Ops.k_c_append ?_; first | refine Ops.append rfl rfl goPk (by first | rfl | omega | (simp; done) | (simp; omega)) (by first | omega | (simp; done) | (simp; omega)) (by first | omega | (simp; done) | (simp; omega)) rfl (fun ad cap => ?_) | refine Ops.append_q rfl rfl goPk (by first | rfl | omega | (simp; done) | (simp; omega)) (by first | exact List.cons_ne_nil _ _ | simp) (by first | omega | (simp; done) | (simp; omega)) (by first | omega | (simp; done) | (simp; omega)) rfl (fun ad o cap => ?_)) | (refine Cw.k_cond ?_; first | refine Cw.cond_true rfl ?_ | refine Cw.cond_false rfl ?_ | (refine Cw.cond_dec rfl (fun hc => ?_) (fun hc => ?_) <;> try (exfalso; omega)) | refine Cw.cond_bool rfl (fun hc => ?_) (fun hc => ?_)) | (refine Ops.k_calla ?_; first | (refine Ops.k_callf 21 ?_; (refine Ops.callGO rightTubes_gen (Evs.cons rfl Evs.nil) goPk (by omega) rfl (fun ad cap rows hr => ?_); obtain ⟨l, hrows, hl⟩ := hr; have hrl : rows.length = l.length := (by rw [hrows]; simp))) | (refine Ops.k_callf 22 ?_; (refine Ops.callG (flip_gen _ (by omega)) (Evs.cons rfl (Evs.cons rfl Evs.nil)) goPk (by omega) rfl ?_; rintro r ⟨v, rfl⟩)) | (refine Ops.k_callf 7 ?_; (refine Ops.callG (pick_gen (by repeat' (first | exact IsInts.nil | apply IsInts.cons)) (by simp)) (Evs.cons rfl (Evs.cons rfl Evs.nil)) goPk (by omega) rfl ?_; rintro r ⟨u, rfl, hu⟩; clear hu))))
  all_goals (have key : ∀ a b c : Int, rows ++ [[Tr.int a, Tr.int b, Tr.int c]] = (l ++ [Tube.mk a b c]).map Tube.row := (by intro a b c; rw [hrows, List.map_append]; rfl))
  · refine Fin.ret (Ent.trans (Ent.settle (s := 2) rfl goPk rfl) (Ent.strm_only goPk (by omega))) (Outs.one rfl rfl) ⟨rfl, _, congrArg (Tr.sl 3) (key _ _ _), ?_⟩
    simp only [List.length_append, List.length_cons, List.length_nil]; omega
  · exact Fin.ret (Ent.trans (Ent.settle (s := 2) rfl goPk rfl) (Ent.strm_only goPk (by omega))) (Outs.one rfl rfl) ⟨rfl, _, congrArg (Tr.sl 3) hrows, by omega⟩
end Lg
end
section
set_option linter.all false
set_option maxRecDepth 100000
set_option maxHeartbeats 4000000
namespace Lg
open Go Go.Proofs

def totalI : List Tube → Int
  | [] => 0
  | d :: l => d.val * d.cnt + totalI l
theorem totalI_cons (d : Tube) (l : List Tube) : totalI (d :: l) = d.val * d.cnt + totalI l := rfl
theorem mul_bd {a b A B : Int} (ha : 0 ≤ a ∧ a ≤ A) (hb : 0 ≤ b ∧ b ≤ B) : 0 ≤ a * b ∧ a * b ≤ A * B :=
  ⟨Int.mul_nonneg ha.1 hb.1, Int.mul_le_mul ha.2 hb.2 hb.1 (by omega)⟩
theorem totalI_bd : ∀ {l : List Tube}, (∀ d ∈ l, 1 ≤ d.val ∧ d.val ≤ 10000) → (∀ d ∈ l, 0 ≤ d.cnt ∧ d.cnt ≤ d.most ∧ d.most ≤ 1000) → 0 ≤ totalI l ∧ totalI l ≤ 10000000 * l.length
  | [], _, _ => by simp [totalI]
  | d :: l, h1, h2 => by
    have := totalI_bd (l := l) (fun x hx => h1 x (by simp [hx])) (fun x hx => h2 x (by simp [hx]))
    have a := h1 d (by simp)
    have b := h2 d (by simp)
    have := mul_bd (a := d.val) (b := d.cnt) (A := 10000) (B := 1000) (by omega) (by omega)
    rw [totalI_cons, List.length_cons]
    omega

theorem total_fn (l : List Tube) (ho : TbOk l) : PFn Try.prog 51 [.tubes l] (· = .int (totalI l)) := by
  refine PFn.mk (Spec.body Try.func51 rfl rfl (Try.ntmps51) rfl fun w0 own0 M => ?_)
  have hL : (l.map Tube.row).length = l.length := List.length_map _
  have hlen := ho.len
  repeat' (first | refine goH ?_ | refine goV ?_ | refine goB (fun b => ?_) | refine goI ?_ | (refine Cw.k_cond ?_; first | (refine Cw.cond_dec rfl (fun hc => ?_) (fun hc => ?_) <;> try (exfalso; omega)) | refine Cw.cond_bool rfl (fun hc => ?_) (fun hc => ?_)) | fail)
  refine Cw.loop (ι := Nat × Int) (fun s => s.1 ≤ l.length ∧ s.2 + totalI (l.drop s.1) = totalI l ∧ 0 ≤ s.2 ∧ s.2 ≤ 10000000 * s.1)
    (fun s => [(3, .int s.2), (6, .tubes l), (7, .int (l.map Tube.row).length), (8, .int s.1)]) (fun _ => []) (fun s => l.length - s.1) ⟨(0, 0), ⟨by simp only; omega, by simp only [List.drop_zero]; omega, by simp only; omega, by simp only; omega⟩, (Ent.mk goSub goTk)⟩ ?_
  rintro ⟨k, S⟩ ⟨hk, h1, h2, h3⟩
  simp only at hk h1 h2 h3 ⊢
  by_cases hkl : k < l.length
  · obtain ⟨d, hd⟩ := at_lt hkl
    have hrow : (l.map Tube.row)[k]? = some [Tr.int d.val, Tr.int d.cnt, Tr.int d.most] := rows_at hd
    have hv := ho.val d (List.mem_of_getElem? hd)
    have hc := ho.cnt d (List.mem_of_getElem? hd)
    have hm := mul_bd (a := d.val) (b := d.cnt) (A := 10000) (B := 1000) (by omega) (by omega)
    have hm2 : -9223372036854775808 ≤ d.val * d.cnt ∧ d.val * d.cnt ≤ 9223372036854775807 := by omega
    rw [drop_at hd, totalI_cons] at h1
    repeat' (first | refine goH ?_ | refine goV ?_ | refine goB (fun b => ?_) | refine goI ?_ | (refine Cw.k_cond ?_; first | (refine Cw.cond_dec rfl (fun hc => ?_) (fun hc => ?_) <;> try (exfalso; omega)) | refine Cw.cond_bool rfl (fun hc => ?_) (fun hc => ?_)) | fail)
    exact ⟨(k + 1, S + d.val * d.cnt), ⟨by simp only; omega, by simp only; omega, by simp only; omega, by simp only; omega⟩, by simp only; omega, (Ent.mk goSub goTk)⟩
  · rw [List.drop_eq_nil_of_le (by omega), totalI] at h1
    repeat' (first | refine goH ?_ | refine goV ?_ | refine goB (fun b => ?_) | refine goI ?_ | (refine Cw.k_cond ?_; first | (refine Cw.cond_dec rfl (fun hc => ?_) (fun hc => ?_) <;> try (exfalso; omega)) | refine Cw.cond_bool rfl (fun hc => ?_) (fun hc => ?_)) | fail)
    exact Fin.ret Ent.refl (Outs.one rfl rfl) ⟨rfl, congrArg Tr.int (by omega)⟩

def total1 (l : List Tube) : Int × Int := if tubesErr l ≠ 0 then (0, tubesErr l) else (totalI l, 0)
theorem totalX_fn (l : List Tube) : PFn Try.prog 37 [.tubes l] (· = .tup [.int (total1 l).1, .int (total1 l).2]) := by
  have hck := checkTubes_fn l
  refine PFn.mk (Spec.body Try.func37 rfl rfl (Try.ntmps37) rfl fun w0 own0 M => ?_)
  by_cases h0 : tubesErr l ≠ 0
  · rw [show total1 l = (0, tubesErr l) by unfold total1; rw [if_pos h0]]
    repeat' (first | refine goH ?_ | refine goV ?_ | refine goI ?_ | (refine Cw.k_cond ?_; first | (refine Cw.cond_dec rfl (fun hc => ?_) (fun hc => ?_) <;> try (exfalso; omega)) | refine Cw.cond_bool rfl (fun hc => ?_) (fun hc => ?_)) | (refine Ops.k_calla ?_; first | (refine Ops.k_callf 24 ?_; refine Ops.callV hck (Evs.cons rfl Evs.nil) rfl ?_)) | fail)
    exact Fin.ret (Ent.take goTk) (Outs.two rfl rfl rfl) ⟨rfl, rfl⟩
  replace h0 : tubesErr l = 0 := by omega
  have ht := total_fn l (tubesErr_ok h0)
  rw [show total1 l = (totalI l, 0) by unfold total1; rw [if_neg (by omega)]]
  rw [h0] at hck
  repeat' (first | refine goH ?_ | refine goV ?_ | refine goI ?_ | (refine Cw.k_cond ?_; first | (refine Cw.cond_dec rfl (fun hc => ?_) (fun hc => ?_) <;> try (exfalso; omega)) | refine Cw.cond_bool rfl (fun hc => ?_) (fun hc => ?_)) | (refine Ops.k_calla ?_; first | (refine Ops.k_callf 24 ?_; refine Ops.callV hck (Evs.cons rfl Evs.nil) rfl ?_) | (refine Ops.k_callf 51 ?_; refine Ops.callV ht (Evs.cons rfl Evs.nil) rfl ?_)) | fail)
  exact Fin.ret (Ent.take goTk) (Outs.two rfl rfl rfl) ⟨rfl, rfl⟩

theorem vends_fn : PFn Try.prog 16 [] (· = .bool true) := by
  have h := totalX_fn [⟨10, 3, 5⟩]
  have e : total1 [⟨10, 3, 5⟩] = (30, 0) := by rfl
  rw [e] at h
  refine PFn.mk (Spec.body Try.func16 rfl rfl (Try.ntmps16) rfl fun w0 own0 M => ?_)
  repeat' (first | refine goH ?_ | refine goV ?_ | refine goG ?_ | (refine Ops.k_guard ?_; first | (refine Ops.guard_dec rfl rfl (fun hc => ?_) (fun hc => ?_) <;> try (exfalso; omega)) | refine Ops.guard_split rfl rfl (fun hc => ?_) (fun hc => ?_)) | refine goI ?_ | (refine Cw.k_cond ?_; first | (refine Cw.cond_dec rfl (fun hc => ?_) (fun hc => ?_) <;> try (exfalso; omega)) | refine Cw.cond_bool rfl (fun hc => ?_) (fun hc => ?_)) | (refine Ops.k_calla ?_; first | (refine Ops.k_callf 37 ?_; refine Ops.callV h (Evs.cons rfl Evs.nil) rfl ?_)) | fail)
  all_goals exact Fin.ret (Ent.take goTk) (Outs.one rfl rfl) ⟨rfl, rfl⟩

end Lg
end
section
set_option linter.all false
namespace Lg
open Go Go.Proofs

theorem Ops.shut0 {P : Program} {Γ : Ctx} {env : Env} {cs : List Chunk} {Q : Post} {R : Array Oper} {l : List Oper} {ty b : Nat} {cells : List Tr} {rows : List (List Tr)} (h : cells = [Tr.sl 1 rows, Tr.int ((0 : Nat) : Int)]) (k : Ops P Γ R l env (Chunk.strm ty b rows 0 :: cs) Q) : Ops P Γ R l env (Chunk.box b ty cells :: cs) Q := by
  subst h
  exact Ops.ent (Ent.shut_strm (m := 0) (Nat.le_refl 0)) k
end Lg
end
