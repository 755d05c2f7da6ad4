/- A part of the proof of a law of this seat: it adds no condition. By an AI agent. -/
import Derived.Test.YtpdhfnmjpbiolaaGreatDoorBk9
import Derived.Test.YtpdhfnmjpbiolaaGreatDoorLaw
set_option linter.all false
set_option maxRecDepth 100000
set_option maxHeartbeats 8000000
namespace Lg
open Go Go.Proofs

theorem either_fn (a b : Int) : PFn Tryz.prog 12 [.int a, .int b] (· = .int (orI [a, b])) := by
  have k := cmpOr_fn [a, b] (by simp)
  refine PFn.mk (Spec.body Tryz.func12 rfl rfl (Tryz.ntmps12) rfl fun w0 own0 M => ?_)
  repeat' (first | refine goH ?_ | refine goV ?_ | refine goI ?_ | (refine Cw.k_cond ?_; first | (refine Cw.cond_dec rfl (fun hc => ?_) (fun hc => ?_) <;> try (exfalso; omega)) | refine Cw.cond_bool rfl (fun hc => ?_) (fun hc => ?_)) | (refine Ops.k_calla ?_; first | (refine Ops.k_callf 30 ?_; refine Ops.callV k (Evs.cons rfl Evs.nil) rfl ?_)) | fail)
  exact Fin.ret (Ent.take goTk) (Outs.one rfl rfl) ⟨rfl, rfl⟩
theorem prcP_len (w : List Wr) (d : List Dl) (b : List Nm) : (prcP w d b).2.length ≤ d.length := by
  unfold prcP
  have H : ∀ (l : List Dl) (st : Int × List ByteArray), (l.foldl (dlS w b) st).2.length ≤ st.2.length + l.length := by
    intro l
    induction l with
    | nil => intro st; simp
    | cons x l ih =>
      intro st
      rw [List.foldl_cons, List.length_cons]
      have h1 := ih (dlS w b st x)
      have h2 : (dlS w b st x).2.length ≤ st.2.length + 1 := by
        unfold dlS
        simp only
        split <;> simp
      omega
  have := H d (totG w b, [])
  simpa using this
theorem basketsPriced_law (xs : List Int) : Spec Tryz.prog 3 [Tr.ints xs] [] (fun r _ => r = Tr.bool true) := by
  refine Spec.body Tryz.func3 rfl rfl (Tryz.ntmps3) rfl fun w0 own0 M => ?_
  repeat' (first | refine goH ?_ | ((fail_if_success refine Ops.k_c_call ?_); refine goV ?_) | ((fail_if_success refine Ops.k_c_call ?_); refine goB (fun b => ?_)) | refine goG ?_ | (refine Ops.k_guard ?_; first | (refine Ops.guard_dec rfl rfl (fun hc => ?_) (fun hc => ?_) <;> try (exfalso; omega)) | refine Ops.guard_split rfl rfl (fun hc => ?_) (fun hc => ?_)) | refine goI ?_ | (refine Cw.k_cond ?_; first | (refine Cw.cond_dec rfl (fun hc => ?_) (fun hc => ?_) <;> try (exfalso; omega)) | refine Cw.cond_bool rfl (fun hc => ?_) (fun hc => ?_)) | refine Ops.shut0 (ty := 25) rfl ?_ | (refine Ops.k_calla ?_; first | (refine Ops.k_callf 4 ?_; (refine Ops.callG wares_gen (Evs.cons rfl Evs.nil) goPk (by omega) rfl ?_; rintro r ⟨w, rfl, hwl⟩)) | (refine Ops.k_callf 5 ?_; (refine Ops.callG basket_gen (Evs.cons rfl Evs.nil) goPk (by omega) rfl ?_; rintro r ⟨bk, rfl, hbl⟩)) | (refine Ops.k_callf 6 ?_; (refine Ops.callG deals_gen (Evs.cons rfl Evs.nil) goPk (by omega) rfl ?_; rintro r ⟨d, rfl, hdl⟩))) | fail)
  have k1 := dealsFault_fn w d (by omega) (by omega)
  have k2 := basketFault_fn w bk (by omega) (by omega)
  have k3 := checkDeals_fn w d (by omega) (by omega)
  have k4 := checkBasket_fn w bk (by omega) (by omega)
  have k5 := either_fn (dealE w d) (bskE w bk)
  have k6 := depots_fn
  by_cases h0 : orI [dealE w d, bskE w bk] = 0
  · have hd0 : dealE w d = 0 := by
      by_cases h : dealE w d = 0
      · exact h
      · rw [orI_cons, if_pos h] at h0; exact absurd h0 h
    have hb0 : bskE w bk = 0 := by
      rw [hd0, orI_cons, if_neg (by simp)] at h0
      by_cases h : bskE w bk = 0
      · exact h
      · rw [orI_cons, if_pos h] at h0; exact h0
    have kP := price_fn w d bk hd0 hb0
    have kR := priceOf_fn w d bk hd0 hb0
    have kE := equalStrs_same (prcP w d bk).2 (by have := prcP_len w d bk; omega)
    rw [h0] at k5
    rw [hd0] at k1 k3 k5
    rw [hb0] at k2 k4 k5
    generalize prcP w d bk = Z at *
    repeat' (first | refine goH ?_ | (refine Ops.k_b_neq ?_; first | (refine Ops.val' rfl (OpV.neq_f rfl rfl rfl) ?_)) | (refine Ops.k_b_eql ?_; first | (refine Ops.val' rfl (OpV.eql_t rfl rfl rfl) ?_)) | refine goV ?_ | refine goB (fun b => ?_) | refine goG ?_ | (refine Ops.k_guard ?_; first | (refine Ops.guard_dec rfl rfl (fun hc => ?_) (fun hc => ?_) <;> try (exfalso; omega)) | refine Ops.guard_split rfl rfl (fun hc => ?_) (fun hc => ?_)) | refine goI ?_ | (refine Cw.k_cond ?_; first | (refine Cw.cond_dec rfl (fun hc => ?_) (fun hc => ?_) <;> try (exfalso; omega)) | refine Cw.cond_bool rfl (fun hc => ?_) (fun hc => ?_)) | (refine Ops.k_calla ?_; first | (refine Ops.k_callf 7 ?_; refine Ops.callV k1 (Evs.cons rfl (Evs.cons rfl Evs.nil)) rfl ?_) | (refine Ops.k_callf 8 ?_; refine Ops.callV k2 (Evs.cons rfl (Evs.cons rfl Evs.nil)) rfl ?_) | (refine Ops.k_callf 9 ?_; refine Ops.callV k3 (Evs.cons rfl (Evs.cons rfl Evs.nil)) rfl ?_) | (refine Ops.k_callf 10 ?_; refine Ops.callV k4 (Evs.cons rfl (Evs.cons rfl Evs.nil)) rfl ?_) | (refine Ops.k_callf 12 ?_; refine Ops.callV k5 (Evs.cons rfl (Evs.cons rfl Evs.nil)) rfl ?_) | (refine Ops.k_callf 13 ?_; refine Ops.callV k6 Evs.nil rfl ?_) | (refine Ops.k_callf 11 ?_; refine Ops.callV kP (Evs.cons rfl (Evs.cons rfl (Evs.cons rfl Evs.nil))) rfl ?_) | (refine Ops.k_callf 14 ?_; refine Ops.callV kR (Evs.cons rfl (Evs.cons rfl (Evs.cons rfl Evs.nil))) rfl ?_) | (refine Ops.k_callf 15 ?_; refine Ops.callV kE (Evs.cons rfl (Evs.cons rfl Evs.nil)) rfl ?_)) | fail)
    all_goals exact Fin.ret Ent.refl (Outs.one rfl rfl) rfl
  · have kP := price_bad w d bk (by omega) (by omega) (by omega) _ rfl h0
    generalize orI [dealE w d, bskE w bk] = o at *
    generalize dealE w d = e1 at *
    generalize bskE w bk = e2 at *
    repeat' (first | refine goH ?_ | (refine Ops.k_b_neq ?_; first | (first | refine Ops.val' rfl (OpV.neq_f rfl rfl rfl) ?_ | refine Ops.val' rfl (OpV.neq_t rfl rfl (by omega)) ?_)) | (refine Ops.k_b_eql ?_; first | (refine Ops.val' rfl (OpV.eql_t rfl rfl rfl) ?_)) | refine goV ?_ | refine goB (fun b => ?_) | refine goG ?_ | (refine Ops.k_guard ?_; first | (refine Ops.guard_dec rfl rfl (fun hc => ?_) (fun hc => ?_) <;> try (exfalso; omega)) | refine Ops.guard_split rfl rfl (fun hc => ?_) (fun hc => ?_)) | refine goI ?_ | (refine Cw.k_cond ?_; first | (refine Cw.cond_dec rfl (fun hc => ?_) (fun hc => ?_) <;> try (exfalso; omega)) | refine Cw.cond_bool rfl (fun hc => ?_) (fun hc => ?_)) | (refine Ops.k_calla ?_; first | (refine Ops.k_callf 7 ?_; refine Ops.callV k1 (Evs.cons rfl (Evs.cons rfl Evs.nil)) rfl ?_) | (refine Ops.k_callf 8 ?_; refine Ops.callV k2 (Evs.cons rfl (Evs.cons rfl Evs.nil)) rfl ?_) | (refine Ops.k_callf 9 ?_; refine Ops.callV k3 (Evs.cons rfl (Evs.cons rfl Evs.nil)) rfl ?_) | (refine Ops.k_callf 10 ?_; refine Ops.callV k4 (Evs.cons rfl (Evs.cons rfl Evs.nil)) rfl ?_) | (refine Ops.k_callf 12 ?_; refine Ops.callV k5 (Evs.cons rfl (Evs.cons rfl Evs.nil)) rfl ?_) | (refine Ops.k_callf 13 ?_; refine Ops.callV k6 Evs.nil rfl ?_) | (refine Ops.k_callf 11 ?_; refine Ops.callV kP (Evs.cons rfl (Evs.cons rfl (Evs.cons rfl Evs.nil))) rfl ?_)) | fail)
    all_goals exact Fin.ret Ent.refl (Outs.one rfl rfl) rfl
end Lg
