/- A part of the proof of a law of this seat: it adds no condition. By an AI agent. -/
import Derived.Test.YtnhnmjgjmlmahaaHi2
set_option linter.all false
set_option maxRecDepth 100000
set_option maxHeartbeats 2000000
namespace Lg
open Go Go.Proofs

theorem sumI_drop {h : List Int} (hb : ∀ x ∈ h, 0 ≤ x ∧ x ≤ 1000000000) (n : Nat) : 0 ≤ sumI (h.drop n) ∧ sumI (h.drop n) ≤ sumI h := by
  induction n generalizing h with
  | zero => have := sumI_bd hb; rw [List.drop_zero]; omega
  | succ n ih =>
    cases h with
    | nil => simp [sumI]
    | cons x l =>
      have := ih (h := l) (fun y hy => hb y (List.mem_cons_of_mem _ hy))
      have hx := hb x (by simp)
      rw [List.drop_succ_cons, sumI_cons]
      omega

theorem moreThan_fn (h : List Int) (least : Int) (ho : HOk h) : PFn Try.prog 85 [.ints h, .int least] (· = .int (sumI (h.drop (min (max least 0) h.length).toNat))) := by
  refine PFn.mk (Spec.body Try.func85 rfl rfl (Try.ntmps85) rfl fun w0 own0 M => ?_)
  have hL := intRows_len h
  have hlen := ho.len
  have hs := sum_fn (h.drop (min (max least 0) h.length).toNat) (fun x hx => ho.all x (List.mem_of_mem_drop hx)) (by rw [List.length_drop]; omega)
  repeat' (first | refine Ops.nil ?_ | refine Then.norm ?_ | refine Cw.seq ?_ | refine Cw.region ?_ | refine Cw.block ?_ | refine Cw.exit ?_ | refine Cw.skip ?_ | refine Cw.ret ?_ | refine Then.exit ?_ | refine Then.ret ?_ | refine InB.exit ?_ | refine InB.norm ?_ | refine InB.ret ?_ | refine InB.exit_ne rfl ?_ | (refine Ops.k_move ?_; first | refine Ops.move rfl rfl ?_ | refine Ops.move_any rfl ?_) | (refine Ops.k_assign ?_; first | refine Ops.assign rfl rfl ?_ | refine Ops.assign_any rfl ?_) | (refine Ops.k_c_len ?_; first | refine Ops.len_raw rfl rfl ?_ | refine Ops.len_sl rfl rfl ?_ | refine Ops.len_str rfl rfl rfl ?_ | refine Ops.len_q rfl rfl ?_) | (refine Ops.k_c_min ?_; first | refine Ops.min2 rfl rfl rfl ?_ | refine Ops.min3 rfl rfl rfl rfl ?_) | (refine Ops.k_c_max ?_; first | refine Ops.max2 rfl rfl rfl ?_) | (refine Cw.k_cond ?_; first | refine Cw.cond_true rfl ?_ | refine Cw.cond_false rfl ?_ | (refine Cw.cond_dec rfl (fun hc => ?_) (fun hc => ?_) <;> try (exfalso; omega)) | refine Cw.cond_bool rfl (fun hc => ?_) (fun hc => ?_)))
  refine Ops.slice_l rfl rfl (by omega) rfl ?_
  have e : (intRows h).drop (min (max least 0) ((intRows h).length : Int)).toNat = intRows (h.drop (min (max least 0) h.length).toNat) := by
    rw [hL]
    simp [intRows, List.map_drop]
  rw [e]
  repeat' (first | refine Ops.nil ?_ | refine Then.norm ?_ | refine Cw.seq ?_ | refine Cw.region ?_ | refine Cw.block ?_ | refine Cw.exit ?_ | refine Cw.skip ?_ | refine Cw.ret ?_ | refine Then.exit ?_ | refine Then.ret ?_ | refine InB.exit ?_ | refine InB.norm ?_ | refine InB.ret ?_ | refine InB.exit_ne rfl ?_ | (refine Ops.k_move ?_; first | refine Ops.move rfl rfl ?_ | refine Ops.move_any rfl ?_) | (refine Ops.k_assign ?_; first | refine Ops.assign rfl rfl ?_ | refine Ops.assign_any rfl ?_) | (refine Ops.k_c_len ?_; first | refine Ops.len_raw rfl rfl ?_ | refine Ops.len_sl rfl rfl ?_ | refine Ops.len_str rfl rfl rfl ?_ | refine Ops.len_q rfl rfl ?_) | (refine Ops.k_c_min ?_; first | refine Ops.min2 rfl rfl rfl ?_ | refine Ops.min3 rfl rfl rfl rfl ?_) | (refine Ops.k_c_max ?_; first | refine Ops.max2 rfl rfl rfl ?_) | (refine Ops.k_slice ?_; first | refine Ops.slice_lh rfl rfl rfl (by first | omega | (simp; done) | (simp; omega)) rfl ?_ | refine Ops.slice_l rfl rfl (by first | omega | (simp; done) | (simp; omega)) rfl ?_ | refine Ops.slice_h rfl rfl (by first | omega | (simp; done) | (simp; omega)) rfl ?_ | refine Ops.slice_own_h rfl rfl (by first | exact pick0 | exact pickS pick0 | exact pickS (pickS pick0) | exact pickS (pickS (pickS pick0)) | exact pickS (pickS (pickS (pickS pick0)))) (by first | rfl | omega | (simp; done) | (simp; omega)) (by first | omega | (simp; done) | (simp; omega)) rfl ?_ | refine Ops.slice_q_h rfl rfl (by first | exact pick0 | exact pickS pick0 | exact pickS (pickS pick0) | exact pickS (pickS (pickS pick0)) | exact pickS (pickS (pickS (pickS pick0)))) (by first | rfl | omega | (simp; done) | (simp; omega)) (by first | omega | (simp; done) | (simp; omega)) rfl ?_ | refine Ops.slice_q_l rfl rfl (by first | exact pick0 | exact pickS pick0 | exact pickS (pickS pick0) | exact pickS (pickS (pickS pick0)) | exact pickS (pickS (pickS (pickS pick0)))) (by first | rfl | omega | (simp; done) | (simp; omega)) (by first | omega | (simp; done) | (simp; omega)) rfl ?_) | (refine Cw.k_cond ?_; first | refine Cw.cond_true rfl ?_ | refine Cw.cond_false rfl ?_ | (refine Cw.cond_dec rfl (fun hc => ?_) (fun hc => ?_) <;> try (exfalso; omega)) | refine Cw.cond_bool rfl (fun hc => ?_) (fun hc => ?_)) | (refine Ops.k_calla ?_; first | (refine Ops.k_callf 84 ?_; refine Ops.callV hs (Evs.cons rfl Evs.nil) rfl ?_)))
  exact Fin.ret Ent.refl (Outs.one rfl rfl) ⟨rfl, rfl⟩

theorem soldH_step (h : List Int) (k : Nat) : soldH h ((k : Int) + 1) = soldH h k + sumI (h.drop (k + 1)) := by
  unfold soldH
  rw [soldFrom_step _ h 0 (by omega) (by omega), show ((k : Int) + 1 - 0).toNat = k + 1 by omega]
theorem soldH_min (h : List Int) {load : Int} (hl : 0 ≤ load) : soldH h (min load h.length) = soldH h load := by
  rcases Int.le_total load h.length with e | e
  · rw [Int.min_eq_left e]
  · rw [Int.min_eq_right e]
    obtain ⟨n, hn⟩ := Int.eq_ofNat_of_zero_le (show 0 ≤ load - h.length by omega)
    unfold soldH
    rw [show load = (h.length : Int) + n by omega, soldFrom_all]

theorem soldH_bd {h : List Int} (ho : HOk h) {load : Int} (hl : 0 ≤ load ∧ load ≤ 2001) : 0 ≤ soldH h load ∧ soldH h load ≤ 2001000000000 := by
  have hbd := soldFrom_bd hl (l := h) (i := 0) (by omega) ho.all
  have hm := (prod_bd (a := load) (b := sumI h) (A := 2001) (B := 1000000000) hl.1 (by have := ho.pos; omega) hl.2 ho.top).2
  unfold soldH
  omega

def expR (h : List Int) (load : Int) : Frac := frac (soldH h load) (sumI h)

theorem expectedOf_fn (h : List Int) (load : Int) (ho : HOk h) (hl : 0 ≤ load ∧ load ≤ 2001) : PFn Try.prog 38 [.ints h, .int load] (· = .agg (expR h load).row) := by
  refine PFn.mk (Spec.body Try.func38 rfl rfl (Try.ntmps38) rfl fun w0 own0 M => ?_)
  have hL := intRows_len h
  have hlen := ho.len
  have hpos := ho.pos
  have htop := ho.top
  have hs := sum_fn h ho.all (by omega)
  repeat' (first | refine Ops.nil ?_ | refine Then.norm ?_ | refine Cw.seq ?_ | refine Cw.region ?_ | refine Cw.block ?_ | refine Cw.exit ?_ | refine Cw.skip ?_ | refine Cw.ret ?_ | refine Then.exit ?_ | refine Then.ret ?_ | refine InB.exit ?_ | refine InB.norm ?_ | refine InB.ret ?_ | refine InB.exit_ne rfl ?_ | (refine Ops.k_move ?_; first | refine Ops.move rfl rfl ?_ | refine Ops.move_any rfl ?_) | (refine Ops.k_assign ?_; first | refine Ops.assign rfl rfl ?_ | refine Ops.assign_any rfl ?_) | (refine Ops.k_store ?_; first | refine Ops.store_box rfl rfl (by first | exact pick0 | exact pickS pick0 | exact pickS (pickS pick0) | exact pickS (pickS (pickS pick0)) | exact pickS (pickS (pickS (pickS pick0)))) rfl rfl ?_ | refine Ops.store_own1 rfl rfl (by first | exact pick0 | exact pickS pick0 | exact pickS (pickS pick0) | exact pickS (pickS (pickS pick0)) | exact pickS (pickS (pickS (pickS pick0)))) (by first | rfl | assumption | (simp [*]; done)) (by decide) ?_ | refine Ops.store_own_all rfl rfl (by first | exact pick0 | exact pickS pick0 | exact pickS (pickS pick0) | exact pickS (pickS (pickS pick0)) | exact pickS (pickS (pickS (pickS pick0)))) (by first | rfl | assumption | (simp [*]; done)) rfl ?_) | (refine Ops.k_c_len ?_; first | refine Ops.len_raw rfl rfl ?_ | refine Ops.len_sl rfl rfl ?_ | refine Ops.len_str rfl rfl rfl ?_ | refine Ops.len_q rfl rfl ?_) | (refine Ops.k_b_leq ?_; first | refine Ops.leq rfl rfl rfl ?_) | (refine Ops.k_b_add ?_; first | refine Ops.add rfl rfl (by omega) rfl ?_) | (refine Ops.k_c_min ?_; first | refine Ops.min2 rfl rfl rfl ?_ | refine Ops.min3 rfl rfl rfl rfl ?_) | (refine Ops.k_alloc ?_; first | refine Ops.alloc rfl (fun b => ?_)) | (refine Cw.k_cond ?_; first | refine Cw.cond_true rfl ?_ | refine Cw.cond_false rfl ?_ | (refine Cw.cond_dec rfl (fun hc => ?_) (fun hc => ?_) <;> try (exfalso; omega)) | refine Cw.cond_bool rfl (fun hc => ?_) (fun hc => ?_)))
  refine Cw.loop (ι := Nat × Int) (fun s => (s.1 : Int) ≤ min load h.length ∧ s.2 = soldH h s.1) (fun s => [(0, .ints h), (1, .int load), (4, .ptr b), (5, .int s.2), (6, .int ((s.1 : Int) + 1))]) (fun _ => [Chunk.box b 31 [Tr.int 0, Tr.int 0]]) (fun s => 2001 - s.1) ⟨(0, 0), ⟨by simp only; omega, ?_⟩, (Ent.mk (by repeat' (first | exact Sub.nil | refine Sub.cons rfl ?_)) (by repeat' (first | exact Take.nil | refine Take.cons (by first | exact pick0 | exact pickS pick0 | exact pickS (pickS pick0) | exact pickS (pickS (pickS pick0)) | exact pickS (pickS (pickS (pickS pick0)))) ?_)))⟩ ?_
  · have : ∀ (l : List Int) (i : Int), 0 ≤ i → soldFrom 0 i l = 0 := by
      intro l
      induction l with
      | nil => intro i _; rfl
      | cons x l ih => intro i hi; rw [soldFrom_cons, ih _ (by omega), show min i 0 = 0 by omega, Int.zero_mul]; rfl
    exact (this h 0 (by omega)).symm
  rintro ⟨k, S⟩ ⟨hk, h1⟩
  simp only at hk h1 ⊢
  have hb1 := soldH_bd ho (load := k) (by omega)
  by_cases hkl : (k : Int) + 1 ≤ min load h.length
  · have hmt := moreThan_fn h ((k : Int) + 1) ho
    rw [show (min (max ((k : Int) + 1) 0) (h.length : Int)).toNat = k + 1 by omega] at hmt
    have hd := sumI_drop ho.all (k + 1)
    repeat' (first | refine Ops.nil ?_ | refine Then.norm ?_ | refine Cw.seq ?_ | refine Cw.region ?_ | refine Cw.block ?_ | refine Cw.exit ?_ | refine Cw.skip ?_ | refine Cw.ret ?_ | refine Then.exit ?_ | refine Then.ret ?_ | refine InB.exit ?_ | refine InB.norm ?_ | refine InB.ret ?_ | refine InB.exit_ne rfl ?_ | (refine Ops.k_move ?_; first | refine Ops.move rfl rfl ?_ | refine Ops.move_any rfl ?_) | (refine Ops.k_assign ?_; first | refine Ops.assign rfl rfl ?_ | refine Ops.assign_any rfl ?_) | (refine Ops.k_store ?_; first | refine Ops.store_box rfl rfl (by first | exact pick0 | exact pickS pick0 | exact pickS (pickS pick0) | exact pickS (pickS (pickS pick0)) | exact pickS (pickS (pickS (pickS pick0)))) rfl rfl ?_ | refine Ops.store_own1 rfl rfl (by first | exact pick0 | exact pickS pick0 | exact pickS (pickS pick0) | exact pickS (pickS (pickS pick0)) | exact pickS (pickS (pickS (pickS pick0)))) (by first | rfl | assumption | (simp [*]; done)) (by decide) ?_ | refine Ops.store_own_all rfl rfl (by first | exact pick0 | exact pickS pick0 | exact pickS (pickS pick0) | exact pickS (pickS (pickS pick0)) | exact pickS (pickS (pickS (pickS pick0)))) (by first | rfl | assumption | (simp [*]; done)) rfl ?_) | (refine Ops.k_c_len ?_; first | refine Ops.len_raw rfl rfl ?_ | refine Ops.len_sl rfl rfl ?_ | refine Ops.len_str rfl rfl rfl ?_ | refine Ops.len_q rfl rfl ?_) | (refine Ops.k_b_leq ?_; first | refine Ops.leq rfl rfl rfl ?_) | (refine Ops.k_b_add ?_; first | refine Ops.add rfl rfl (by omega) rfl ?_) | (refine Ops.k_c_min ?_; first | refine Ops.min2 rfl rfl rfl ?_ | refine Ops.min3 rfl rfl rfl rfl ?_) | (refine Ops.k_alloc ?_; first | refine Ops.alloc rfl (fun b => ?_)) | (refine Cw.k_cond ?_; first | refine Cw.cond_true rfl ?_ | refine Cw.cond_false rfl ?_ | (refine Cw.cond_dec rfl (fun hc => ?_) (fun hc => ?_) <;> try (exfalso; omega)) | refine Cw.cond_bool rfl (fun hc => ?_) (fun hc => ?_)) | (refine Ops.k_calla ?_; first | (refine Ops.k_callf 85 ?_; refine Ops.callV hmt (Evs.cons rfl (Evs.cons rfl Evs.nil)) rfl ?_)))
    refine ⟨(k + 1, S + sumI (h.drop (k + 1))), ⟨by simp only; omega, ?_⟩, by simp only; omega, (Ent.mk (by repeat' (first | exact Sub.nil | refine Sub.cons rfl ?_)) (by repeat' (first | exact Take.nil | refine Take.cons (by first | exact pick0 | exact pickS pick0 | exact pickS (pickS pick0) | exact pickS (pickS (pickS pick0)) | exact pickS (pickS (pickS (pickS pick0)))) ?_)))⟩
    simp only
    rw [h1, show ((k + 1 : Nat) : Int) = (k : Int) + 1 by omega, soldH_step]
  · repeat' (first | refine Ops.nil ?_ | refine Then.norm ?_ | refine Cw.seq ?_ | refine Cw.region ?_ | refine Cw.block ?_ | refine Cw.exit ?_ | refine Cw.skip ?_ | refine Cw.ret ?_ | refine Then.exit ?_ | refine Then.ret ?_ | refine InB.exit ?_ | refine InB.norm ?_ | refine InB.ret ?_ | refine InB.exit_ne rfl ?_ | (refine Ops.k_move ?_; first | refine Ops.move rfl rfl ?_ | refine Ops.move_any rfl ?_) | (refine Ops.k_assign ?_; first | refine Ops.assign rfl rfl ?_ | refine Ops.assign_any rfl ?_) | (refine Ops.k_store ?_; first | refine Ops.store_box rfl rfl (by first | exact pick0 | exact pickS pick0 | exact pickS (pickS pick0) | exact pickS (pickS (pickS pick0)) | exact pickS (pickS (pickS (pickS pick0)))) rfl rfl ?_ | refine Ops.store_own1 rfl rfl (by first | exact pick0 | exact pickS pick0 | exact pickS (pickS pick0) | exact pickS (pickS (pickS pick0)) | exact pickS (pickS (pickS (pickS pick0)))) (by first | rfl | assumption | (simp [*]; done)) (by decide) ?_ | refine Ops.store_own_all rfl rfl (by first | exact pick0 | exact pickS pick0 | exact pickS (pickS pick0) | exact pickS (pickS (pickS pick0)) | exact pickS (pickS (pickS (pickS pick0)))) (by first | rfl | assumption | (simp [*]; done)) rfl ?_) | (refine Ops.k_c_len ?_; first | refine Ops.len_raw rfl rfl ?_ | refine Ops.len_sl rfl rfl ?_ | refine Ops.len_str rfl rfl rfl ?_ | refine Ops.len_q rfl rfl ?_) | (refine Ops.k_b_leq ?_; first | refine Ops.leq rfl rfl rfl ?_) | (refine Ops.k_b_add ?_; first | refine Ops.add rfl rfl (by omega) rfl ?_) | (refine Ops.k_c_min ?_; first | refine Ops.min2 rfl rfl rfl ?_ | refine Ops.min3 rfl rfl rfl rfl ?_) | (refine Ops.k_alloc ?_; first | refine Ops.alloc rfl (fun b => ?_)) | (refine Cw.k_cond ?_; first | refine Cw.cond_true rfl ?_ | refine Cw.cond_false rfl ?_ | (refine Cw.cond_dec rfl (fun hc => ?_) (fun hc => ?_) <;> try (exfalso; omega)) | refine Cw.cond_bool rfl (fun hc => ?_) (fun hc => ?_)) | (refine Ops.k_calla ?_; first | (refine Ops.k_callf 84 ?_; refine Ops.callV hs (Evs.cons rfl Evs.nil) rfl ?_) | (refine Ops.k_callf 68 ?_; refine Ops.callV (part_fn _ _ (by omega) (by omega)) (Evs.cons rfl (Evs.cons rfl Evs.nil)) rfl ?_)))
    refine Fin.ret (Ent.trans (Ent.setbox (s := 4) rfl (by first | exact pick0 | exact pickS pick0 | exact pickS (pickS pick0) | exact pickS (pickS (pickS pick0)) | exact pickS (pickS (pickS (pickS pick0))))) (Ent.take (by repeat' (first | exact Take.nil | refine Take.cons (by first | exact pick0 | exact pickS pick0 | exact pickS (pickS pick0) | exact pickS (pickS (pickS pick0)) | exact pickS (pickS (pickS (pickS pick0)))) ?_)))) (Outs.sole rfl (OutE.agg inferInstance rfl rfl)) ⟨rfl, ?_⟩
    have e : S = soldH h load := by rw [h1, show (k : Int) = min load h.length by omega, soldH_min h hl.1]
    rw [e]
    rfl
end Lg
