/- A part of the proof of a law of this seat: it adds no condition. By an AI agent. -/
import Derived.Test.YtlaemkjeagpbnaaDoorFind
import Derived.Test.YtlaemkjeagpbnaaDoorOff3
section
set_option linter.all false
set_option maxRecDepth 100000
set_option maxHeartbeats 4000000
namespace Lg
open Go Go.Proofs

def rackE (r c : Int) : Int := if r < 1 ∨ 10 < r ∨ c < 1 ∨ 10 < c then 1 else if 60 < r * c then 2 else 0
theorem rc_bd {r c : Int} (h : ¬ (r < 1 ∨ 10 < r ∨ c < 1 ∨ 10 < c)) : 1 ≤ r * c ∧ r * c ≤ 100 := by
  have h1 : 1 ≤ r ∧ r ≤ 10 ∧ 1 ≤ c ∧ c ≤ 10 := by omega
  have h2 : 0 ≤ (r - 1) * (c - 1) := Int.mul_nonneg (by omega) (by omega)
  have h3 : 0 ≤ (10 - r) * c := Int.mul_nonneg (by omega) (by omega)
  have e2 : (r - 1) * (c - 1) = r * c - r - c + 1 := by
    rw [Int.sub_mul, Int.mul_sub, Int.mul_one, Int.one_mul]; omega
  have e3 : (10 - r) * c = 10 * c - r * c := Int.sub_mul _ _ _
  omega
theorem rackE_bd {r c : Int} (h : rackE r c = 0) : (1 ≤ r ∧ r ≤ 10) ∧ (1 ≤ c ∧ c ≤ 10) ∧ 1 ≤ r * c ∧ r * c ≤ 60 := by
  unfold rackE at h
  split at h
  · omega
  · rename_i h1
    have := rc_bd h1
    split at h
    · omega
    · exact ⟨by omega, by omega, by omega, by omega⟩
theorem checkRack_fn (r c : Int) : PFn Tryd.prog 76 [.agg [.int r, .int c]] (· = .int (rackE r c)) := by
  refine PFn.mk (Spec.body Tryd.func76 rfl rfl (Tryd.ntmps76) rfl fun w0 own0 M => ?_)
  by_cases h1 : r < 1 ∨ 10 < r ∨ c < 1 ∨ 10 < c
  · have e : rackE r c = 1 := by unfold rackE; rw [if_pos h1]
    have k1 := out_fn r 1 10
    by_cases h2 : r < 1 ∨ 10 < r
    · rw [outB_eq.2 h2] at k1
      repeat' (first | refine goH ?_ | refine goV ?_ | refine goB (fun b => ?_) | refine goG ?_ | (refine Ops.k_guard ?_; first | (refine Ops.guard_dec rfl rfl (fun hc => ?_) (fun hc => ?_) <;> try (exfalso; omega)) | refine Ops.guard_split rfl rfl (fun hc => ?_) (fun hc => ?_)) | refine goI ?_ | (refine Cw.k_cond ?_; first | (refine Cw.cond_dec rfl (fun hc => ?_) (fun hc => ?_) <;> try (exfalso; omega)) | refine Cw.cond_bool rfl (fun hc => ?_) (fun hc => ?_)) | (refine Ops.k_calla ?_; first | (refine Ops.k_callf 38 ?_; refine Ops.callV k1 (Evs.cons rfl (Evs.cons rfl (Evs.cons rfl Evs.nil))) rfl ?_)) | fail)
      exact Fin.ret (Ent.take goTk) (Outs.one rfl rfl) ⟨rfl, congrArg Tr.int e.symm⟩
    · rw [outB_f.2 (by omega)] at k1
      repeat' (first | refine goH ?_ | refine goV ?_ | refine goB (fun b => ?_) | refine goG ?_ | (refine Ops.k_guard ?_; first | (refine Ops.guard_dec rfl rfl (fun hc => ?_) (fun hc => ?_) <;> try (exfalso; omega)) | refine Ops.guard_split rfl rfl (fun hc => ?_) (fun hc => ?_)) | refine goI ?_ | (refine Cw.k_cond ?_; first | (refine Cw.cond_dec rfl (fun hc => ?_) (fun hc => ?_) <;> try (exfalso; omega)) | refine Cw.cond_bool rfl (fun hc => ?_) (fun hc => ?_)) | (refine Ops.k_calla ?_; first | (refine Ops.k_callf 38 ?_; refine Ops.callV k1 (Evs.cons rfl (Evs.cons rfl (Evs.cons rfl Evs.nil))) rfl ?_) | (refine Ops.k_callf 38 ?_; refine Ops.callV (out_t c 1 10 (by omega)) (Evs.cons rfl (Evs.cons rfl (Evs.cons rfl Evs.nil))) rfl ?_)) | fail)
      exact Fin.ret (Ent.take goTk) (Outs.one rfl rfl) ⟨rfl, congrArg Tr.int e.symm⟩
  · have hb := rc_bd h1
    have k1 := out_f r 1 10 (by omega)
    have k2 := out_f c 1 10 (by omega)
    by_cases h2 : 60 < r * c
    · have e : rackE r c = 2 := by unfold rackE; rw [if_neg h1, if_pos h2]
      repeat' (first | refine goH ?_ | refine goV ?_ | refine goB (fun b => ?_) | refine goG ?_ | (refine Ops.k_guard ?_; first | (refine Ops.guard_dec rfl rfl (fun hc => ?_) (fun hc => ?_) <;> try (exfalso; omega)) | refine Ops.guard_split rfl rfl (fun hc => ?_) (fun hc => ?_)) | refine goI ?_ | (refine Cw.k_cond ?_; first | (refine Cw.cond_dec rfl (fun hc => ?_) (fun hc => ?_) <;> try (exfalso; omega)) | refine Cw.cond_bool rfl (fun hc => ?_) (fun hc => ?_)) | (refine Ops.k_calla ?_; first | (refine Ops.k_callf 38 ?_; refine Ops.callV k1 (Evs.cons rfl (Evs.cons rfl (Evs.cons rfl Evs.nil))) rfl ?_) | (refine Ops.k_callf 38 ?_; refine Ops.callV k2 (Evs.cons rfl (Evs.cons rfl (Evs.cons rfl Evs.nil))) rfl ?_)) | fail)
      exact Fin.ret (Ent.take goTk) (Outs.one rfl rfl) ⟨rfl, congrArg Tr.int e.symm⟩
    · have e : rackE r c = 0 := by unfold rackE; rw [if_neg h1, if_neg h2]
      repeat' (first | refine goH ?_ | refine goV ?_ | refine goB (fun b => ?_) | refine goG ?_ | (refine Ops.k_guard ?_; first | (refine Ops.guard_dec rfl rfl (fun hc => ?_) (fun hc => ?_) <;> try (exfalso; omega)) | refine Ops.guard_split rfl rfl (fun hc => ?_) (fun hc => ?_)) | refine goI ?_ | (refine Cw.k_cond ?_; first | (refine Cw.cond_dec rfl (fun hc => ?_) (fun hc => ?_) <;> try (exfalso; omega)) | refine Cw.cond_bool rfl (fun hc => ?_) (fun hc => ?_)) | (refine Ops.k_calla ?_; first | (refine Ops.k_callf 38 ?_; refine Ops.callV k1 (Evs.cons rfl (Evs.cons rfl (Evs.cons rfl Evs.nil))) rfl ?_) | (refine Ops.k_callf 38 ?_; refine Ops.callV k2 (Evs.cons rfl (Evs.cons rfl (Evs.cons rfl Evs.nil))) rfl ?_)) | fail)
      exact Fin.ret (Ent.take goTk) (Outs.one rfl rfl) ⟨rfl, congrArg Tr.int e.symm⟩
theorem rackFault_fn (r c : Int) : PFn Tryd.prog 59 [.agg [.int r, .int c]] (· = .int (rackE r c)) := by
  refine PFn.mk (Spec.body Tryd.func59 rfl rfl (Tryd.ntmps59) rfl fun w0 own0 M => ?_)
  by_cases h1 : r < 1 ∨ 10 < r ∨ c < 1 ∨ 10 < c
  · have e : rackE r c = 1 := by unfold rackE; rw [if_pos h1]
    by_cases h2 : r < 1
    · repeat' (first | refine goH ?_ | refine goV ?_ | refine goB (fun b => ?_) | refine goG ?_ | (refine Ops.k_guard ?_; first | (refine Ops.guard_dec rfl rfl (fun hc => ?_) (fun hc => ?_) <;> try (exfalso; omega)) | refine Ops.guard_split rfl rfl (fun hc => ?_) (fun hc => ?_)) | refine goI ?_ | (refine Cw.k_cond ?_; first | (refine Cw.cond_dec rfl (fun hc => ?_) (fun hc => ?_) <;> try (exfalso; omega)) | refine Cw.cond_bool rfl (fun hc => ?_) (fun hc => ?_)) | fail)
      exact Fin.ret (Ent.take goTk) (Outs.one rfl rfl) ⟨rfl, congrArg Tr.int e.symm⟩
    by_cases h3 : 10 < r
    · repeat' (first | refine goH ?_ | refine goV ?_ | refine goB (fun b => ?_) | refine goG ?_ | (refine Ops.k_guard ?_; first | (refine Ops.guard_dec rfl rfl (fun hc => ?_) (fun hc => ?_) <;> try (exfalso; omega)) | refine Ops.guard_split rfl rfl (fun hc => ?_) (fun hc => ?_)) | refine goI ?_ | (refine Cw.k_cond ?_; first | (refine Cw.cond_dec rfl (fun hc => ?_) (fun hc => ?_) <;> try (exfalso; omega)) | refine Cw.cond_bool rfl (fun hc => ?_) (fun hc => ?_)) | fail)
      exact Fin.ret (Ent.take goTk) (Outs.one rfl rfl) ⟨rfl, congrArg Tr.int e.symm⟩
    by_cases h4 : c < 1
    · repeat' (first | refine goH ?_ | refine goV ?_ | refine goB (fun b => ?_) | refine goG ?_ | (refine Ops.k_guard ?_; first | (refine Ops.guard_dec rfl rfl (fun hc => ?_) (fun hc => ?_) <;> try (exfalso; omega)) | refine Ops.guard_split rfl rfl (fun hc => ?_) (fun hc => ?_)) | refine goI ?_ | (refine Cw.k_cond ?_; first | (refine Cw.cond_dec rfl (fun hc => ?_) (fun hc => ?_) <;> try (exfalso; omega)) | refine Cw.cond_bool rfl (fun hc => ?_) (fun hc => ?_)) | fail)
      exact Fin.ret (Ent.take goTk) (Outs.one rfl rfl) ⟨rfl, congrArg Tr.int e.symm⟩
    · have h5 : 10 < c := by omega
      repeat' (first | refine goH ?_ | refine goV ?_ | refine goB (fun b => ?_) | refine goG ?_ | (refine Ops.k_guard ?_; first | (refine Ops.guard_dec rfl rfl (fun hc => ?_) (fun hc => ?_) <;> try (exfalso; omega)) | refine Ops.guard_split rfl rfl (fun hc => ?_) (fun hc => ?_)) | refine goI ?_ | (refine Cw.k_cond ?_; first | (refine Cw.cond_dec rfl (fun hc => ?_) (fun hc => ?_) <;> try (exfalso; omega)) | refine Cw.cond_bool rfl (fun hc => ?_) (fun hc => ?_)) | fail)
      exact Fin.ret (Ent.take goTk) (Outs.one rfl rfl) ⟨rfl, congrArg Tr.int e.symm⟩
  · have hb := rc_bd h1
    by_cases h2 : 60 < r * c
    · have e : rackE r c = 2 := by unfold rackE; rw [if_neg h1, if_pos h2]
      repeat' (first | refine goH ?_ | refine goV ?_ | refine goB (fun b => ?_) | refine goG ?_ | (refine Ops.k_guard ?_; first | (refine Ops.guard_dec rfl rfl (fun hc => ?_) (fun hc => ?_) <;> try (exfalso; omega)) | refine Ops.guard_split rfl rfl (fun hc => ?_) (fun hc => ?_)) | refine goI ?_ | (refine Cw.k_cond ?_; first | (refine Cw.cond_dec rfl (fun hc => ?_) (fun hc => ?_) <;> try (exfalso; omega)) | refine Cw.cond_bool rfl (fun hc => ?_) (fun hc => ?_)) | fail)
      exact Fin.ret (Ent.take goTk) (Outs.one rfl rfl) ⟨rfl, congrArg Tr.int e.symm⟩
    · have e : rackE r c = 0 := by unfold rackE; rw [if_neg h1, if_neg h2]
      repeat' (first | refine goH ?_ | refine goV ?_ | refine goB (fun b => ?_) | refine goG ?_ | (refine Ops.k_guard ?_; first | (refine Ops.guard_dec rfl rfl (fun hc => ?_) (fun hc => ?_) <;> try (exfalso; omega)) | refine Ops.guard_split rfl rfl (fun hc => ?_) (fun hc => ?_)) | refine goI ?_ | (refine Cw.k_cond ?_; first | (refine Cw.cond_dec rfl (fun hc => ?_) (fun hc => ?_) <;> try (exfalso; omega)) | refine Cw.cond_bool rfl (fun hc => ?_) (fun hc => ?_)) | fail)
      exact Fin.ret (Ent.take goTk) (Outs.one rfl rfl) ⟨rfl, congrArg Tr.int e.symm⟩

def layoutE (r c : Int) (l : List Offer) (xs : List ByteArray) : Int := if rackE r c ≠ 0 then rackE r c else if offersE l ≠ 0 then offersE l else if (xs.length : Int) ≠ r * c then 3 else if xs.any (oddB l) then 8 else 0
theorem checkLayout_fn (r c : Int) (l : List Offer) (hl : OBd l) (xs : List ByteArray) (hx : xs.length ≤ 1000) : PFn Tryd.prog 50 [.agg [.int r, .int c], .offers l, .strs xs] (· = .int (layoutE r c l xs)) := by
  have k1 := checkRack_fn r c
  have k2 := checkOffers_fn l hl
  have k3 := cmpOr_fn [rackE r c, offersE l] (by simp)
  have k4 := unknown_fn l (by have := hl.1; omega) xs (by omega)
  have hL := strRows_len xs
  have he : layoutE r c l xs = if rackE r c ≠ 0 then rackE r c else if offersE l ≠ 0 then offersE l else if (xs.length : Int) ≠ r * c then 3 else if xs.any (oddB l) then 8 else 0 := rfl
  refine PFn.mk (Spec.body Tryd.func50 rfl rfl (Tryd.ntmps50) rfl fun w0 own0 M => ?_)
  by_cases h1 : rackE r c ≠ 0
  · rw [if_pos h1] at he
    rw [show orI [rackE r c, offersE l] = rackE r c by rw [orI_cons, if_pos h1]] at k3
    rw [he]
    generalize rackE r c = re at *
    repeat' (first | refine goH ?_ | refine goV ?_ | refine goB (fun b => ?_) | refine goI ?_ | (refine Cw.k_cond ?_; first | (refine Cw.cond_dec rfl (fun hc => ?_) (fun hc => ?_) <;> try (exfalso; omega)) | refine Cw.cond_bool rfl (fun hc => ?_) (fun hc => ?_)) | (refine Ops.k_calla ?_; first | (refine Ops.k_callf 76 ?_; refine Ops.callV k1 (Evs.cons rfl Evs.nil) rfl ?_) | (refine Ops.k_callf 69 ?_; refine Ops.callV k2 (Evs.cons rfl Evs.nil) rfl ?_) | (refine Ops.k_callf 68 ?_; refine Ops.callV k3 (Evs.cons rfl Evs.nil) rfl ?_)) | fail)
    exact Fin.ret (Ent.take goTk) (Outs.one rfl rfl) ⟨rfl, rfl⟩
  rw [if_neg h1] at he
  have h10 : rackE r c = 0 := by omega
  have hbd := rackE_bd h10
  by_cases h2 : offersE l ≠ 0
  · rw [if_pos h2] at he
    rw [show orI [rackE r c, offersE l] = offersE l by rw [orI_cons, if_neg h1, orI_cons, if_pos h2]] at k3
    rw [he]
    generalize rackE r c = re at *
    generalize offersE l = oe at *
    repeat' (first | refine goH ?_ | refine goV ?_ | refine goB (fun b => ?_) | refine goI ?_ | (refine Cw.k_cond ?_; first | (refine Cw.cond_dec rfl (fun hc => ?_) (fun hc => ?_) <;> try (exfalso; omega)) | refine Cw.cond_bool rfl (fun hc => ?_) (fun hc => ?_)) | (refine Ops.k_calla ?_; first | (refine Ops.k_callf 76 ?_; refine Ops.callV k1 (Evs.cons rfl Evs.nil) rfl ?_) | (refine Ops.k_callf 69 ?_; refine Ops.callV k2 (Evs.cons rfl Evs.nil) rfl ?_) | (refine Ops.k_callf 68 ?_; refine Ops.callV k3 (Evs.cons rfl Evs.nil) rfl ?_)) | fail)
    exact Fin.ret (Ent.take goTk) (Outs.one rfl rfl) ⟨rfl, rfl⟩
  rw [if_neg h2] at he
  rw [show orI [rackE r c, offersE l] = 0 by rw [orI_cons, if_neg h1, orI_cons, if_neg h2]; rfl] at k3
  rw [he]
  generalize rackE r c = re at *
  generalize offersE l = oe at *
  by_cases h3 : (xs.length : Int) ≠ r * c
  · rw [if_pos h3]
    repeat' (first | refine goH ?_ | refine goV ?_ | refine goB (fun b => ?_) | refine goI ?_ | (refine Cw.k_cond ?_; first | (refine Cw.cond_dec rfl (fun hc => ?_) (fun hc => ?_) <;> try (exfalso; omega)) | refine Cw.cond_bool rfl (fun hc => ?_) (fun hc => ?_)) | (refine Ops.k_calla ?_; first | (refine Ops.k_callf 76 ?_; refine Ops.callV k1 (Evs.cons rfl Evs.nil) rfl ?_) | (refine Ops.k_callf 69 ?_; refine Ops.callV k2 (Evs.cons rfl Evs.nil) rfl ?_) | (refine Ops.k_callf 68 ?_; refine Ops.callV k3 (Evs.cons rfl Evs.nil) rfl ?_) | (refine Ops.k_callf 73 ?_; refine Ops.callV k4 (Evs.cons rfl (Evs.cons rfl Evs.nil)) rfl ?_)) | fail)
    exact Fin.ret (Ent.take goTk) (Outs.one rfl rfl) ⟨rfl, rfl⟩
  rw [if_neg h3]
  cases h4 : xs.any (oddB l)
  · rw [h4] at k4
    repeat' (first | refine goH ?_ | refine goV ?_ | refine goB (fun b => ?_) | refine goI ?_ | (refine Cw.k_cond ?_; first | (refine Cw.cond_dec rfl (fun hc => ?_) (fun hc => ?_) <;> try (exfalso; omega)) | refine Cw.cond_bool rfl (fun hc => ?_) (fun hc => ?_)) | (refine Ops.k_calla ?_; first | (refine Ops.k_callf 76 ?_; refine Ops.callV k1 (Evs.cons rfl Evs.nil) rfl ?_) | (refine Ops.k_callf 69 ?_; refine Ops.callV k2 (Evs.cons rfl Evs.nil) rfl ?_) | (refine Ops.k_callf 68 ?_; refine Ops.callV k3 (Evs.cons rfl Evs.nil) rfl ?_) | (refine Ops.k_callf 73 ?_; refine Ops.callV k4 (Evs.cons rfl (Evs.cons rfl Evs.nil)) rfl ?_)) | fail)
    exact Fin.ret (Ent.take goTk) (Outs.one rfl rfl) ⟨rfl, rfl⟩
  · rw [h4] at k4
    repeat' (first | refine goH ?_ | refine goV ?_ | refine goB (fun b => ?_) | refine goI ?_ | (refine Cw.k_cond ?_; first | (refine Cw.cond_dec rfl (fun hc => ?_) (fun hc => ?_) <;> try (exfalso; omega)) | refine Cw.cond_bool rfl (fun hc => ?_) (fun hc => ?_)) | (refine Ops.k_calla ?_; first | (refine Ops.k_callf 76 ?_; refine Ops.callV k1 (Evs.cons rfl Evs.nil) rfl ?_) | (refine Ops.k_callf 69 ?_; refine Ops.callV k2 (Evs.cons rfl Evs.nil) rfl ?_) | (refine Ops.k_callf 68 ?_; refine Ops.callV k3 (Evs.cons rfl Evs.nil) rfl ?_) | (refine Ops.k_callf 73 ?_; refine Ops.callV k4 (Evs.cons rfl (Evs.cons rfl Evs.nil)) rfl ?_)) | fail)
    exact Fin.ret (Ent.take goTk) (Outs.one rfl rfl) ⟨rfl, rfl⟩
theorem layoutFault_fn (r c : Int) (l : List Offer) (hl : OBd l) (xs : List ByteArray) (hx : xs.length ≤ 1000) : PFn Tryd.prog 27 [.agg [.int r, .int c], .offers l, .strs xs] (· = .int (layoutE r c l xs)) := by
  have k1 := rackFault_fn r c
  have k2 := offersFault_fn l hl
  have k4 := strange_fn l (by have := hl.1; omega) xs (by omega)
  have hL := strRows_len xs
  have he : layoutE r c l xs = if rackE r c ≠ 0 then rackE r c else if offersE l ≠ 0 then offersE l else if (xs.length : Int) ≠ r * c then 3 else if xs.any (oddB l) then 8 else 0 := rfl
  refine PFn.mk (Spec.body Tryd.func27 rfl rfl (Tryd.ntmps27) rfl fun w0 own0 M => ?_)
  by_cases h1 : rackE r c ≠ 0
  · rw [if_pos h1] at he
    rw [he]
    generalize rackE r c = re at *
    repeat' (first | refine goH ?_ | refine goV ?_ | refine goB (fun b => ?_) | refine goI ?_ | (refine Cw.k_cond ?_; first | (refine Cw.cond_dec rfl (fun hc => ?_) (fun hc => ?_) <;> try (exfalso; omega)) | refine Cw.cond_bool rfl (fun hc => ?_) (fun hc => ?_)) | (refine Ops.k_calla ?_; first | (refine Ops.k_callf 59 ?_; refine Ops.callV k1 (Evs.cons rfl Evs.nil) rfl ?_)) | fail)
    exact Fin.ret (Ent.take goTk) (Outs.one rfl rfl) ⟨rfl, rfl⟩
  rw [if_neg h1] at he
  have h10 : rackE r c = 0 := by omega
  have hbd := rackE_bd h10
  by_cases h2 : offersE l ≠ 0
  · rw [if_pos h2] at he
    rw [he]
    generalize rackE r c = re at *
    generalize offersE l = oe at *
    repeat' (first | refine goH ?_ | refine goV ?_ | refine goB (fun b => ?_) | refine goI ?_ | (refine Cw.k_cond ?_; first | (refine Cw.cond_dec rfl (fun hc => ?_) (fun hc => ?_) <;> try (exfalso; omega)) | refine Cw.cond_bool rfl (fun hc => ?_) (fun hc => ?_)) | (refine Ops.k_calla ?_; first | (refine Ops.k_callf 59 ?_; refine Ops.callV k1 (Evs.cons rfl Evs.nil) rfl ?_) | (refine Ops.k_callf 24 ?_; refine Ops.callV k2 (Evs.cons rfl Evs.nil) rfl ?_)) | fail)
    exact Fin.ret (Ent.take goTk) (Outs.one rfl rfl) ⟨rfl, rfl⟩
  rw [if_neg h2] at he
  rw [he]
  generalize rackE r c = re at *
  generalize offersE l = oe at *
  by_cases h3 : (xs.length : Int) ≠ r * c
  · rw [if_pos h3]
    repeat' (first | refine goH ?_ | refine goV ?_ | refine goB (fun b => ?_) | refine goI ?_ | (refine Cw.k_cond ?_; first | (refine Cw.cond_dec rfl (fun hc => ?_) (fun hc => ?_) <;> try (exfalso; omega)) | refine Cw.cond_bool rfl (fun hc => ?_) (fun hc => ?_)) | (refine Ops.k_calla ?_; first | (refine Ops.k_callf 59 ?_; refine Ops.callV k1 (Evs.cons rfl Evs.nil) rfl ?_) | (refine Ops.k_callf 24 ?_; refine Ops.callV k2 (Evs.cons rfl Evs.nil) rfl ?_) | (refine Ops.k_callf 60 ?_; refine Ops.callV k4 (Evs.cons rfl (Evs.cons rfl Evs.nil)) rfl ?_)) | fail)
    exact Fin.ret (Ent.take goTk) (Outs.one rfl rfl) ⟨rfl, rfl⟩
  rw [if_neg h3]
  cases h4 : xs.any (oddB l)
  · rw [h4] at k4
    repeat' (first | refine goH ?_ | refine goV ?_ | refine goB (fun b => ?_) | refine goI ?_ | (refine Cw.k_cond ?_; first | (refine Cw.cond_dec rfl (fun hc => ?_) (fun hc => ?_) <;> try (exfalso; omega)) | refine Cw.cond_bool rfl (fun hc => ?_) (fun hc => ?_)) | (refine Ops.k_calla ?_; first | (refine Ops.k_callf 59 ?_; refine Ops.callV k1 (Evs.cons rfl Evs.nil) rfl ?_) | (refine Ops.k_callf 24 ?_; refine Ops.callV k2 (Evs.cons rfl Evs.nil) rfl ?_) | (refine Ops.k_callf 60 ?_; refine Ops.callV k4 (Evs.cons rfl (Evs.cons rfl Evs.nil)) rfl ?_)) | fail)
    exact Fin.ret (Ent.take goTk) (Outs.one rfl rfl) ⟨rfl, rfl⟩
  · rw [h4] at k4
    repeat' (first | refine goH ?_ | refine goV ?_ | refine goB (fun b => ?_) | refine goI ?_ | (refine Cw.k_cond ?_; first | (refine Cw.cond_dec rfl (fun hc => ?_) (fun hc => ?_) <;> try (exfalso; omega)) | refine Cw.cond_bool rfl (fun hc => ?_) (fun hc => ?_)) | (refine Ops.k_calla ?_; first | (refine Ops.k_callf 59 ?_; refine Ops.callV k1 (Evs.cons rfl Evs.nil) rfl ?_) | (refine Ops.k_callf 24 ?_; refine Ops.callV k2 (Evs.cons rfl Evs.nil) rfl ?_) | (refine Ops.k_callf 60 ?_; refine Ops.callV k4 (Evs.cons rfl (Evs.cons rfl Evs.nil)) rfl ?_)) | fail)
    exact Fin.ret (Ent.take goTk) (Outs.one rfl rfl) ⟨rfl, rfl⟩
end Lg
end
section
set_option linter.all false
namespace Lg
open Go Go.Proofs
theorem sorted_ext : ∀ {a b : List Nat}, a.Pairwise (· < ·) → b.Pairwise (· < ·) → (∀ x, x ∈ a ↔ x ∈ b) → a = b
  | [], [], _, _, _ => rfl
  | [], y :: b, _, _, h => by have := (h y).2 (by simp); simp at this
  | x :: a, [], _, _, h => by have := (h x).1 (by simp); simp at this
  | x :: a, y :: b, ha, hb, h => by
    rw [List.pairwise_cons] at ha hb
    have hxy : x = y := by
      have h1 := (h x).1 (by simp)
      have h2 := (h y).2 (by simp)
      rcases List.mem_cons.1 h1 with e | h1
      · exact e
      · rcases List.mem_cons.1 h2 with e | h2
        · exact e.symm
        · have := hb.1 x h1
          have := ha.1 y h2
          omega
    subst hxy
    congr 1
    refine sorted_ext ha.2 hb.2 fun z => ?_
    have hz := h z
    constructor
    · intro hza
      have := ha.1 z hza
      rcases List.mem_cons.1 (hz.1 (List.mem_cons_of_mem _ hza)) with e | h
      · omega
      · exact h
    · intro hzb
      have := hb.1 z hzb
      rcases List.mem_cons.1 (hz.2 (List.mem_cons_of_mem _ hzb)) with e | h
      · omega
      · exact h
def besideB (c a b : Nat) : Bool := decide ((a / c = b / c ∧ b = a + 1) ∨ b = a + c)
def touchN (c n a : Nat) : List Nat := (if a % c + 1 < c then [a + 1] else []) ++ (if a + c < n then [a + c] else [])
theorem beside_touch {c r a : Nat} (hc : 0 < c) (ha : a < r * c) : (List.range' (a + 1) (r * c - (a + 1))).filter (besideB c a) = touchN c (r * c) a := by
  apply sorted_ext
  · exact List.Pairwise.filter _ List.pairwise_lt_range'
  · unfold touchN
    split <;> split <;> simp
    have := Nat.mod_lt a hc
    omega
  · intro x
    have key : a / c = (a + 1) / c ↔ a % c + 1 < c := by
      have h1 := Nat.div_add_mod a c
      have h2 := Nat.mod_lt a hc
      constructor
      · intro h
        have h3 := Nat.div_add_mod (a + 1) c
        have h4 := Nat.mod_lt (a + 1) hc
        rw [← h] at h3
        omega
      · intro h
        rw [eq_comm, Nat.div_eq_iff hc]
        have e : a / c * c = c * (a / c) := Nat.mul_comm _ _
        constructor <;> omega
    have hin : a % c + 1 < c → a + 1 < r * c := by
      intro h
      have h1 := Nat.div_add_mod a c
      have h5 : a / c < r := (Nat.div_lt_iff_lt_mul hc).2 ha
      have h6 : (a / c + 1) * c ≤ r * c := Nat.mul_le_mul_right c h5
      rw [Nat.add_mul, Nat.one_mul, Nat.mul_comm] at h6
      omega
    simp only [List.mem_filter, List.mem_range', besideB, decide_eq_true_eq, touchN, List.mem_append]
    constructor
    · rintro ⟨⟨i, hi, rfl⟩, h | h⟩
      · left
        have e : a + 1 + 1 * i = a + 1 := h.2
        rw [e] at h ⊢
        rw [if_pos (key.1 h.1)]
        simp
      · right
        rw [if_pos (by omega)]
        simp; omega
    · rintro (h | h)
      · by_cases h1 : a % c + 1 < c
        · rw [if_pos h1] at h
          simp at h
          subst h
          exact ⟨⟨0, by have := hin h1; omega, by omega⟩, .inl ⟨key.2 h1, rfl⟩⟩
        · rw [if_neg h1] at h
          simp at h
      · by_cases h1 : a + c < r * c
        · rw [if_pos h1] at h
          simp at h
          subst h
          exact ⟨⟨c - 1, by omega, by omega⟩, .inr rfl⟩
        · rw [if_neg h1] at h
          simp at h
end Lg
end
