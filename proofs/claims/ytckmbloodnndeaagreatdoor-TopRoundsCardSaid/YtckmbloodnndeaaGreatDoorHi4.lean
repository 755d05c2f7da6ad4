/- A part of the proof of a law of this seat: it adds no condition. By an AI agent. -/
import Derived.Test.YtckmbloodnndeaaGreatDoorSm1
import Derived.Test.YtckmbloodnndeaaGreatDoorHi1
section
set_option linter.all false
set_option maxRecDepth 100000
set_option maxHeartbeats 2000000
namespace Lg
open Go Go.Proofs

/-- a right histogram -/
structure HOk (h : List Int) : Prop where
  len : h.length ≤ 2001
  all : ∀ x ∈ h, 0 ≤ x ∧ x ≤ 1000000000
  pos : 1 ≤ sumI h
  top : sumI h ≤ 1000000000
theorem histErr_ok {h : List Int} (e : histErr h = 0) : HOk h := by
  unfold histErr at e
  split at e
  · omega
  split at e
  · omega
  rename_i h1 h2
  rw [Bool.not_eq_true] at h2
  have hb := sumI_bd (hGood h2)
  split at e
  · omega
  split at e
  · omega
  exact ⟨by omega, hGood h2, by omega, by omega⟩

def soldFrom (load : Int) : Int → List Int → Int
  | _, [] => 0
  | i, x :: l => min i load * x + soldFrom load (i + 1) l
theorem soldFrom_cons (load i x : Int) (l : List Int) : soldFrom load i (x :: l) = min i load * x + soldFrom load (i + 1) l := rfl
def soldH (h : List Int) (load : Int) : Int := soldFrom load 0 h

theorem soldFrom_bd {load : Int} (hl : 0 ≤ load ∧ load ≤ 2001) : ∀ {l : List Int} {i : Int}, 0 ≤ i → (∀ x ∈ l, 0 ≤ x ∧ x ≤ 1000000000) → 0 ≤ soldFrom load i l ∧ soldFrom load i l ≤ load * sumI l
  | [], i, _, _ => by simp [soldFrom, sumI]
  | x :: l, i, hi, h => by
    have ih := soldFrom_bd hl (l := l) (i := i + 1) (by omega) (fun y hy => h y (List.mem_cons_of_mem _ hy))
    have hx := h x (by simp)
    rw [soldFrom_cons, sumI_cons, Int.mul_add]
    have m := prod_bd (a := min i load) (b := x) (A := load) (B := x) (by omega) hx.1 (by omega) (Int.le_refl _)
    omega

theorem sold_fn (h : List Int) (load : Int) (ho : HOk h) (hl : 0 ≤ load ∧ load ≤ 2001) : PFn Tryz.prog 82 [.ints h, .int load] (· = .int (soldH h load)) := by
  refine PFn.mk (Spec.body Tryz.func82 rfl rfl (Tryz.ntmps82) rfl fun w0 own0 M => ?_)
  have hL := intRows_len h
  have hlen := ho.len
  have htop := ho.top
  have hbd := soldFrom_bd hl (l := h) (i := 0) (by omega) ho.all
  have hm : load * sumI h ≤ 2001 * 1000000000 := (prod_bd (a := load) (b := sumI h) (A := 2001) (B := 1000000000) hl.1 (by have := ho.pos; omega) hl.2 ho.top).2
  repeat' (first | refine Ops.nil ?_ | refine Then.norm ?_ | refine Cw.seq ?_ | refine Cw.region ?_ | refine Cw.block ?_ | refine Cw.exit ?_ | refine Cw.skip ?_ | refine Cw.ret ?_ | refine Then.exit ?_ | refine Then.ret ?_ | refine InB.exit ?_ | refine InB.norm ?_ | refine InB.ret ?_ | refine InB.exit_ne rfl ?_ | (refine Ops.k_move ?_; first | refine Ops.move rfl rfl ?_ | refine Ops.move_any rfl ?_) | (refine Ops.k_assign ?_; first | refine Ops.assign rfl rfl ?_ | refine Ops.assign_any rfl ?_) | (refine Ops.k_load ?_; first | refine Ops.load_ref_one rfl rfl ?_ | refine Ops.load_ref_agg rfl rfl rfl ?_ | refine Ops.load_box_one rfl goPk rfl rfl ?_ | refine Ops.load_box_agg rfl goPk rfl rfl ?_ | refine Ops.load_own_one rfl goPk (by first | rfl | assumption | (simp [*]; done)) rfl rfl ?_ | refine Ops.load_own_agg rfl goPk (by first | rfl | assumption | (simp [*]; done)) rfl ?_ | refine Ops.load_box_part rfl goPk rfl rfl rfl ?_ | refine Ops.load_q_one rfl goPk (by first | rfl | assumption | (simp [*]; done)) rfl rfl ?_) | (refine Ops.k_c_len ?_; first | refine Ops.len_raw rfl rfl ?_ | refine Ops.len_sl rfl rfl ?_ | refine Ops.len_str rfl rfl rfl ?_ | refine Ops.len_q rfl rfl ?_) | (refine Ops.k_b_lss ?_; first | refine Ops.lss rfl rfl rfl ?_) | (refine Ops.k_b_add ?_; first | refine Ops.add rfl rfl (by first | omega | (simp; done) | (simp; omega)) rfl ?_) | (refine Ops.k_b_mul ?_; first | refine Ops.mul rfl rfl (by first | omega | assumption) rfl ?_) | (refine Ops.k_c_min ?_; first | refine Ops.min2 rfl rfl rfl ?_ | refine Ops.min3 rfl rfl rfl rfl ?_) | (refine Ops.k_indexAddr ?_; first | refine Ops.indexAddr_sl rfl rfl (by omega) (by first | rfl | assumption | (simp [*]; done)) rfl ?_ | refine Ops.indexAddr_own rfl rfl goPk (by first | rfl | omega | (simp; done) | (simp; omega)) (by first | omega | (simp; done) | (simp; omega)) (by first | omega | (simp; done) | (simp; omega)) rfl ?_ | refine Ops.indexAddr_q rfl rfl goPk (by first | rfl | omega | (simp; done) | (simp; omega)) (by first | omega | (simp; done) | (simp; omega)) (by first | omega | (simp; done) | (simp; omega)) rfl ?_) | (refine Cw.k_cond ?_; first | refine Cw.cond_true rfl ?_ | refine Cw.cond_false rfl ?_ | (refine Cw.cond_dec rfl (fun hc => ?_) (fun hc => ?_) <;> try (exfalso; omega)) | refine Cw.cond_bool rfl (fun hc => ?_) (fun hc => ?_)))
  refine Cw.loop (ι := Nat × Int) (fun s => s.1 ≤ h.length ∧ s.2 + soldFrom load s.1 (h.drop s.1) = soldH h load ∧ 0 ≤ s.2) (fun s => [(1, .int load), (8, .ints h), (9, .int (intRows h).length), (5, .int s.2), (10, .int s.1)]) (fun _ => []) (fun s => h.length - s.1) ⟨(0, 0), by simp [soldH], (Ent.mk goSub goTk)⟩ ?_
  rintro ⟨k, S⟩ ⟨hk, h1, h2⟩
  simp only at hk h1 h2 ⊢
  have hsh : soldH h load ≤ 2001000000000 := by unfold soldH; omega
  by_cases hkl : k < h.length
  · obtain ⟨x, hx⟩ := at_lt hkl
    have hbx := ho.all x (List.mem_of_getElem? hx)
    have hrow := intRows_at hx
    rw [drop_at hx, soldFrom_cons] at h1
    have hb2 := soldFrom_bd hl (l := h.drop (k + 1)) (i := (k : Int) + 1) (by omega) (fun y hy => ho.all y (List.mem_of_mem_drop hy))
    have m := prod_bd (a := min (k : Int) load) (b := x) (A := 2001) (B := 1000000000) (by omega) hbx.1 (by omega) hbx.2
    have r1 : -9223372036854775808 ≤ min (k : Int) load * x ∧ min (k : Int) load * x ≤ 9223372036854775807 := by omega
    repeat' (first | refine Ops.nil ?_ | refine Then.norm ?_ | refine Cw.seq ?_ | refine Cw.region ?_ | refine Cw.block ?_ | refine Cw.exit ?_ | refine Cw.skip ?_ | refine Cw.ret ?_ | refine Then.exit ?_ | refine Then.ret ?_ | refine InB.exit ?_ | refine InB.norm ?_ | refine InB.ret ?_ | refine InB.exit_ne rfl ?_ | (refine Ops.k_move ?_; first | refine Ops.move rfl rfl ?_ | refine Ops.move_any rfl ?_) | (refine Ops.k_assign ?_; first | refine Ops.assign rfl rfl ?_ | refine Ops.assign_any rfl ?_) | (refine Ops.k_load ?_; first | refine Ops.load_ref_one rfl rfl ?_ | refine Ops.load_ref_agg rfl rfl rfl ?_ | refine Ops.load_box_one rfl goPk rfl rfl ?_ | refine Ops.load_box_agg rfl goPk rfl rfl ?_ | refine Ops.load_own_one rfl goPk (by first | rfl | assumption | (simp [*]; done)) rfl rfl ?_ | refine Ops.load_own_agg rfl goPk (by first | rfl | assumption | (simp [*]; done)) rfl ?_ | refine Ops.load_box_part rfl goPk rfl rfl rfl ?_ | refine Ops.load_q_one rfl goPk (by first | rfl | assumption | (simp [*]; done)) rfl rfl ?_) | (refine Ops.k_c_len ?_; first | refine Ops.len_raw rfl rfl ?_ | refine Ops.len_sl rfl rfl ?_ | refine Ops.len_str rfl rfl rfl ?_ | refine Ops.len_q rfl rfl ?_) | (refine Ops.k_b_lss ?_; first | refine Ops.lss rfl rfl rfl ?_) | (refine Ops.k_b_add ?_; first | refine Ops.add rfl rfl (by first | omega | (simp; done) | (simp; omega)) rfl ?_) | (refine Ops.k_b_mul ?_; first | refine Ops.mul rfl rfl (by first | omega | assumption) rfl ?_) | (refine Ops.k_c_min ?_; first | refine Ops.min2 rfl rfl rfl ?_ | refine Ops.min3 rfl rfl rfl rfl ?_) | (refine Ops.k_indexAddr ?_; first | refine Ops.indexAddr_sl rfl rfl (by omega) (by first | rfl | assumption | (simp [*]; done)) rfl ?_ | refine Ops.indexAddr_own rfl rfl goPk (by first | rfl | omega | (simp; done) | (simp; omega)) (by first | omega | (simp; done) | (simp; omega)) (by first | omega | (simp; done) | (simp; omega)) rfl ?_ | refine Ops.indexAddr_q rfl rfl goPk (by first | rfl | omega | (simp; done) | (simp; omega)) (by first | omega | (simp; done) | (simp; omega)) (by first | omega | (simp; done) | (simp; omega)) rfl ?_) | (refine Cw.k_cond ?_; first | refine Cw.cond_true rfl ?_ | refine Cw.cond_false rfl ?_ | (refine Cw.cond_dec rfl (fun hc => ?_) (fun hc => ?_) <;> try (exfalso; omega)) | refine Cw.cond_bool rfl (fun hc => ?_) (fun hc => ?_)))
    exact ⟨(k + 1, S + min (k : Int) load * x), ⟨by simp only; omega, by simp only; rw [← h1, show ((k + 1 : Nat) : Int) = (k : Int) + 1 by omega]; omega, by simp only; omega⟩, by simp only; omega, (Ent.mk goSub goTk)⟩
  · rw [List.drop_eq_nil_of_le (by omega)] at h1
    simp only [soldFrom, Int.add_zero] at h1
    repeat' (first | refine Ops.nil ?_ | refine Then.norm ?_ | refine Cw.seq ?_ | refine Cw.region ?_ | refine Cw.block ?_ | refine Cw.exit ?_ | refine Cw.skip ?_ | refine Cw.ret ?_ | refine Then.exit ?_ | refine Then.ret ?_ | refine InB.exit ?_ | refine InB.norm ?_ | refine InB.ret ?_ | refine InB.exit_ne rfl ?_ | (refine Ops.k_move ?_; first | refine Ops.move rfl rfl ?_ | refine Ops.move_any rfl ?_) | (refine Ops.k_assign ?_; first | refine Ops.assign rfl rfl ?_ | refine Ops.assign_any rfl ?_) | (refine Ops.k_load ?_; first | refine Ops.load_ref_one rfl rfl ?_ | refine Ops.load_ref_agg rfl rfl rfl ?_ | refine Ops.load_box_one rfl goPk rfl rfl ?_ | refine Ops.load_box_agg rfl goPk rfl rfl ?_ | refine Ops.load_own_one rfl goPk (by first | rfl | assumption | (simp [*]; done)) rfl rfl ?_ | refine Ops.load_own_agg rfl goPk (by first | rfl | assumption | (simp [*]; done)) rfl ?_ | refine Ops.load_box_part rfl goPk rfl rfl rfl ?_ | refine Ops.load_q_one rfl goPk (by first | rfl | assumption | (simp [*]; done)) rfl rfl ?_) | (refine Ops.k_c_len ?_; first | refine Ops.len_raw rfl rfl ?_ | refine Ops.len_sl rfl rfl ?_ | refine Ops.len_str rfl rfl rfl ?_ | refine Ops.len_q rfl rfl ?_) | (refine Ops.k_b_lss ?_; first | refine Ops.lss rfl rfl rfl ?_) | (refine Ops.k_b_add ?_; first | refine Ops.add rfl rfl (by first | omega | (simp; done) | (simp; omega)) rfl ?_) | (refine Ops.k_b_mul ?_; first | refine Ops.mul rfl rfl (by first | omega | assumption) rfl ?_) | (refine Ops.k_c_min ?_; first | refine Ops.min2 rfl rfl rfl ?_ | refine Ops.min3 rfl rfl rfl rfl ?_) | (refine Ops.k_indexAddr ?_; first | refine Ops.indexAddr_sl rfl rfl (by omega) (by first | rfl | assumption | (simp [*]; done)) rfl ?_ | refine Ops.indexAddr_own rfl rfl goPk (by first | rfl | omega | (simp; done) | (simp; omega)) (by first | omega | (simp; done) | (simp; omega)) (by first | omega | (simp; done) | (simp; omega)) rfl ?_ | refine Ops.indexAddr_q rfl rfl goPk (by first | rfl | omega | (simp; done) | (simp; omega)) (by first | omega | (simp; done) | (simp; omega)) (by first | omega | (simp; done) | (simp; omega)) rfl ?_) | (refine Cw.k_cond ?_; first | refine Cw.cond_true rfl ?_ | refine Cw.cond_false rfl ?_ | (refine Cw.cond_dec rfl (fun hc => ?_) (fun hc => ?_) <;> try (exfalso; omega)) | refine Cw.cond_bool rfl (fun hc => ?_) (fun hc => ?_)))
    exact Fin.ret Ent.refl (Outs.one rfl rfl) ⟨rfl, congrArg Tr.int h1⟩

def moneyErr (load margin waste : Int) : Int := if load < 0 ∨ 2001 < load ∨ margin < 0 ∨ 10000 < margin ∨ waste < 0 ∨ 10000 < waste then 1 else 0
end Lg
end
section
set_option linter.all false
set_option maxRecDepth 100000
set_option maxHeartbeats 2000000
namespace Lg
open Go Go.Proofs

theorem soldH_bd {h : List Int} (ho : HOk h) {load : Int} (hl : 0 ≤ load ∧ load ≤ 2001) : 0 ≤ soldH h load ∧ soldH h load ≤ 2001000000000 := by
  have hbd := soldFrom_bd hl (l := h) (i := 0) (by omega) ho.all
  have hm := (prod_bd (a := load) (b := sumI h) (A := 2001) (B := 1000000000) hl.1 (by have := ho.pos; omega) hl.2 ho.top).2
  unfold soldH
  omega

end Lg
end
section
set_option linter.all false
set_option maxRecDepth 100000
set_option maxHeartbeats 2000000
namespace Lg
open Go Go.Proofs

def gainH (h : List Int) (load m w : Int) : Int := m * soldH h load - w * (load * sumI h - soldH h load)
theorem abs_mul {x c B : Int} (hx : 0 ≤ x) (h1 : -B ≤ c) (h2 : c ≤ B) : -(B * x) ≤ x * c ∧ x * c ≤ B * x := by
  have a1 := Int.mul_le_mul_of_nonneg_left h1 hx
  have a2 := Int.mul_le_mul_of_nonneg_left h2 hx
  rw [Int.mul_neg, Int.mul_comm x B] at a1
  rw [Int.mul_comm x B] at a2
  exact ⟨a1, a2⟩

theorem gain_bd {h : List Int} {load m w : Int} (ho : HOk h) (hl : 0 ≤ load ∧ load ≤ 2001) (hm : 0 ≤ m ∧ m ≤ 10000) (hw : 0 ≤ w ∧ w ≤ 10000) :
    (0 ≤ soldH h load ∧ soldH h load ≤ 2001000000000) ∧ (0 ≤ load * sumI h ∧ load * sumI h ≤ 2001000000000) ∧ soldH h load ≤ load * sumI h ∧ (0 ≤ m * soldH h load ∧ m * soldH h load ≤ 20010000000000000) ∧ (0 ≤ w * (load * sumI h - soldH h load) ∧ w * (load * sumI h - soldH h load) ≤ 20010000000000000) := by
  have b1 := soldH_bd ho hl
  have b2 := prod_bd (a := load) (b := sumI h) (A := 2001) (B := 1000000000) hl.1 (by have := ho.pos; omega) hl.2 ho.top
  have b3 := (soldFrom_bd hl (l := h) (i := 0) (by omega) ho.all).2
  have b4 := prod_bd (a := m) (b := soldH h load) (A := 10000) (B := 2001000000000) hm.1 b1.1 hm.2 b1.2
  have b5 : soldH h load ≤ load * sumI h := b3
  have b6 := prod_bd (a := w) (b := load * sumI h - soldH h load) (A := 10000) (B := 2001000000000) hw.1 (by omega) hw.2 (by omega)
  omega

theorem gain_fn (h : List Int) (load m w : Int) (ho : HOk h) (hl : 0 ≤ load ∧ load ≤ 2001) (hm : 0 ≤ m ∧ m ≤ 10000) (hw : 0 ≤ w ∧ w ≤ 10000) : PFn Tryz.prog 52 [.ints h, .int load, .int m, .int w] (· = .int (gainH h load m w)) := by
  obtain ⟨b1, b2, b3, b4, b5⟩ := gain_bd ho hl hm hw
  have hlen := ho.len
  have hs := sold_fn h load ho hl
  have ht := weight_fn h ho.all (by omega)
  have r1 : -9223372036854775808 ≤ m * soldH h load ∧ m * soldH h load ≤ 9223372036854775807 := by omega
  have r2 : -9223372036854775808 ≤ load * sumI h ∧ load * sumI h ≤ 9223372036854775807 := by omega
  have r3 : -9223372036854775808 ≤ w * (load * sumI h - soldH h load) ∧ w * (load * sumI h - soldH h load) ≤ 9223372036854775807 := by omega
  refine PFn.mk (Spec.body Tryz.func52 rfl rfl (Tryz.ntmps52) rfl fun w0 own0 M => ?_)
  repeat' (first | refine Ops.nil ?_ | refine Then.norm ?_ | refine Cw.seq ?_ | refine Cw.region ?_ | refine Cw.block ?_ | refine Cw.exit ?_ | refine Cw.skip ?_ | refine Cw.ret ?_ | refine Then.exit ?_ | refine Then.ret ?_ | refine InB.exit ?_ | refine InB.norm ?_ | refine InB.ret ?_ | refine InB.exit_ne rfl ?_ | (refine Ops.k_move ?_; first | refine Ops.move rfl rfl ?_ | refine Ops.move_any rfl ?_) | (refine Ops.k_assign ?_; first | refine Ops.assign rfl rfl ?_ | refine Ops.assign_any rfl ?_) | (refine Ops.k_b_sub ?_; first | refine Ops.sub rfl rfl (by first | omega | (simp; done) | (simp; omega)) rfl ?_) | (refine Ops.k_b_mul ?_; first | refine Ops.mul rfl rfl (by first | omega | assumption) rfl ?_) | (refine Cw.k_cond ?_; first | refine Cw.cond_true rfl ?_ | refine Cw.cond_false rfl ?_ | (refine Cw.cond_dec rfl (fun hc => ?_) (fun hc => ?_) <;> try (exfalso; omega)) | refine Cw.cond_bool rfl (fun hc => ?_) (fun hc => ?_)) | (refine Ops.k_calla ?_; first | (refine Ops.k_callf 82 ?_; refine Ops.callV hs (Evs.cons rfl (Evs.cons rfl Evs.nil)) rfl ?_) | (refine Ops.k_callf 54 ?_; refine Ops.callV ht (Evs.cons rfl Evs.nil) rfl ?_)))
  exact Fin.ret Ent.refl (Outs.one rfl rfl) ⟨rfl, rfl⟩

def pricedB (m w : Int) : Bool := decide (0 ≤ m ∧ m ≤ 10000 ∧ 0 ≤ w ∧ w ≤ 10000)
theorem priced_fn (m w : Int) : PFn Tryz.prog 51 [.int m, .int w] (· = .bool (pricedB m w)) := by
  refine PFn.mk (Spec.body Tryz.func51 rfl rfl (Tryz.ntmps51) rfl fun w0 own0 M => ?_)
  by_cases h1 : m < 0 ∨ 10000 < m
  · repeat' (first | refine Ops.nil ?_ | refine Then.norm ?_ | refine Cw.seq ?_ | refine Cw.region ?_ | refine Cw.block ?_ | refine Cw.exit ?_ | refine Cw.skip ?_ | refine Cw.ret ?_ | refine Then.exit ?_ | refine Then.ret ?_ | refine InB.exit ?_ | refine InB.norm ?_ | refine InB.ret ?_ | refine InB.exit_ne rfl ?_ | (refine Ops.k_move ?_; first | refine Ops.move rfl rfl ?_ | refine Ops.move_any rfl ?_) | (refine Ops.k_assign ?_; first | refine Ops.assign rfl rfl ?_ | refine Ops.assign_any rfl ?_) | (refine Ops.k_not ?_; first | refine Ops.not_dec rfl rfl ?_ | refine Ops.not rfl rfl ?_) | (refine Ops.k_pick ?_; first | refine Ops.pick_true rfl rfl rfl ?_ | refine Ops.pick_false rfl rfl rfl ?_) | (refine Ops.k_guard ?_; first | refine Ops.guard_yes rfl rfl ?_ | refine Ops.guard_no rfl rfl rfl rfl ?_ | refine Ops.guard_no' rfl rfl rfl ?_ | refine Ops.guard_undef rfl rfl rfl ?_ | refine Ops.guard_undef' rfl rfl ?_ | (refine Ops.guard_dec rfl rfl (fun hc => ?_) (fun hc => ?_) <;> try (exfalso; omega)) | refine Ops.guard_split rfl rfl (fun hc => ?_) (fun hc => ?_)) | (refine Cw.k_cond ?_; first | refine Cw.cond_true rfl ?_ | refine Cw.cond_false rfl ?_ | (refine Cw.cond_dec rfl (fun hc => ?_) (fun hc => ?_) <;> try (exfalso; omega)) | refine Cw.cond_bool rfl (fun hc => ?_) (fun hc => ?_)) | (refine Ops.k_calla ?_; first | (refine Ops.k_callf 50 ?_; refine Ops.callV (out_t _ _ _ (by omega)) (Evs.cons rfl (Evs.cons rfl (Evs.cons rfl Evs.nil))) rfl ?_)))
    refine Fin.ret Ent.refl (Outs.one rfl rfl) ⟨rfl, congrArg Tr.bool ?_⟩
    exact (decide_eq_false (by omega)).symm
  by_cases h2 : w < 0 ∨ 10000 < w
  · repeat' (first | refine Ops.nil ?_ | refine Then.norm ?_ | refine Cw.seq ?_ | refine Cw.region ?_ | refine Cw.block ?_ | refine Cw.exit ?_ | refine Cw.skip ?_ | refine Cw.ret ?_ | refine Then.exit ?_ | refine Then.ret ?_ | refine InB.exit ?_ | refine InB.norm ?_ | refine InB.ret ?_ | refine InB.exit_ne rfl ?_ | (refine Ops.k_move ?_; first | refine Ops.move rfl rfl ?_ | refine Ops.move_any rfl ?_) | (refine Ops.k_assign ?_; first | refine Ops.assign rfl rfl ?_ | refine Ops.assign_any rfl ?_) | (refine Ops.k_not ?_; first | refine Ops.not_dec rfl rfl ?_ | refine Ops.not rfl rfl ?_) | (refine Ops.k_pick ?_; first | refine Ops.pick_true rfl rfl rfl ?_ | refine Ops.pick_false rfl rfl rfl ?_) | (refine Ops.k_guard ?_; first | refine Ops.guard_yes rfl rfl ?_ | refine Ops.guard_no rfl rfl rfl rfl ?_ | refine Ops.guard_no' rfl rfl rfl ?_ | refine Ops.guard_undef rfl rfl rfl ?_ | refine Ops.guard_undef' rfl rfl ?_ | (refine Ops.guard_dec rfl rfl (fun hc => ?_) (fun hc => ?_) <;> try (exfalso; omega)) | refine Ops.guard_split rfl rfl (fun hc => ?_) (fun hc => ?_)) | (refine Cw.k_cond ?_; first | refine Cw.cond_true rfl ?_ | refine Cw.cond_false rfl ?_ | (refine Cw.cond_dec rfl (fun hc => ?_) (fun hc => ?_) <;> try (exfalso; omega)) | refine Cw.cond_bool rfl (fun hc => ?_) (fun hc => ?_)) | (refine Ops.k_calla ?_; first | (refine Ops.k_callf 50 ?_; refine Ops.callV (out_f _ _ _ (by omega)) (Evs.cons rfl (Evs.cons rfl (Evs.cons rfl Evs.nil))) rfl ?_) | (refine Ops.k_callf 50 ?_; refine Ops.callV (out_t _ _ _ (by omega)) (Evs.cons rfl (Evs.cons rfl (Evs.cons rfl Evs.nil))) rfl ?_)))
    refine Fin.ret Ent.refl (Outs.one rfl rfl) ⟨rfl, congrArg Tr.bool ?_⟩
    exact (decide_eq_false (by omega)).symm
  · repeat' (first | refine Ops.nil ?_ | refine Then.norm ?_ | refine Cw.seq ?_ | refine Cw.region ?_ | refine Cw.block ?_ | refine Cw.exit ?_ | refine Cw.skip ?_ | refine Cw.ret ?_ | refine Then.exit ?_ | refine Then.ret ?_ | refine InB.exit ?_ | refine InB.norm ?_ | refine InB.ret ?_ | refine InB.exit_ne rfl ?_ | (refine Ops.k_move ?_; first | refine Ops.move rfl rfl ?_ | refine Ops.move_any rfl ?_) | (refine Ops.k_assign ?_; first | refine Ops.assign rfl rfl ?_ | refine Ops.assign_any rfl ?_) | (refine Ops.k_not ?_; first | refine Ops.not_dec rfl rfl ?_ | refine Ops.not rfl rfl ?_) | (refine Ops.k_pick ?_; first | refine Ops.pick_true rfl rfl rfl ?_ | refine Ops.pick_false rfl rfl rfl ?_) | (refine Ops.k_guard ?_; first | refine Ops.guard_yes rfl rfl ?_ | refine Ops.guard_no rfl rfl rfl rfl ?_ | refine Ops.guard_no' rfl rfl rfl ?_ | refine Ops.guard_undef rfl rfl rfl ?_ | refine Ops.guard_undef' rfl rfl ?_ | (refine Ops.guard_dec rfl rfl (fun hc => ?_) (fun hc => ?_) <;> try (exfalso; omega)) | refine Ops.guard_split rfl rfl (fun hc => ?_) (fun hc => ?_)) | (refine Cw.k_cond ?_; first | refine Cw.cond_true rfl ?_ | refine Cw.cond_false rfl ?_ | (refine Cw.cond_dec rfl (fun hc => ?_) (fun hc => ?_) <;> try (exfalso; omega)) | refine Cw.cond_bool rfl (fun hc => ?_) (fun hc => ?_)) | (refine Ops.k_calla ?_; first | (refine Ops.k_callf 50 ?_; refine Ops.callV (out_f _ _ _ (by omega)) (Evs.cons rfl (Evs.cons rfl (Evs.cons rfl Evs.nil))) rfl ?_)))
    refine Fin.ret Ent.refl (Outs.one rfl rfl) ⟨rfl, congrArg Tr.bool ?_⟩
    exact (decide_eq_true (by omega)).symm
end Lg
end
