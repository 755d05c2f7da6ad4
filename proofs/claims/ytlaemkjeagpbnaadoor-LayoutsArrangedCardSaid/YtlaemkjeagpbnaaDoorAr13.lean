/- A part of the proof of a law of this seat: it adds no condition. By an AI agent. -/
import Derived.Test.YtlaemkjeagpbnaaDoorFrame
import Derived.Test.YtlaemkjeagpbnaaDoorEqS
section
set_option linter.all false
namespace Lg
open Go Go.Proofs

theorem Ops.shut0 {P : Program} {Γ : Ctx} {env : Env} {cs : List Chunk} {Q : Post} {R : Array Oper} {l : List Oper} {ty b : Nat} {cells : List Tr} {rows : List (List Tr)} (h : cells = [Tr.sl 1 rows, Tr.int ((0 : Nat) : Int)]) (k : Ops P Γ R l env (Chunk.strm ty b rows 0 :: cs) Q) : Ops P Γ R l env (Chunk.box b ty cells :: cs) Q := by
  subst h
  exact Ops.ent (Ent.shut_strm (m := 0) (Nat.le_refl 0)) k
end Lg
end
section
set_option linter.all false
set_option maxRecDepth 100000
set_option maxHeartbeats 8000000
namespace Lg
open Go Go.Proofs

theorem itF_inv {σ : Type} {f : Nat → σ → σ} (p : σ → Prop) (h : ∀ k s, p s → p (f k s)) : ∀ (n k : Nat) (s : σ), p s → p (itF f k n s)
  | 0, _, _, hs => hs
  | n + 1, k, s, hs => itF_inv p h n (k + 1) _ (h k s hs)
theorem arrL_len (l : List Offer) (xs : List ByteArray) (c : List Int) : (arrL l xs c).length = xs.length := by
  unfold arrL
  refine itF_inv (fun st : FS => st.1.length = xs.length) (fun k s hs => ?_) _ _ _ ?_
  · unfold arO
    split
    · refine itF_inv (fun st : FS => st.1.length = xs.length) (fun k s hs => ?_) _ _ _ hs
      unfold arT
      split
      · exact hs
      · simp only [List.length_set]; exact hs
    · exact hs
  · unfold arr1
    refine itF_inv (fun st : AS => st.out.length = xs.length) (fun k s hs => ?_) _ _ _ List.length_replicate
    unfold arS
    split
    · exact hs
    · split
      · exact hs
      · split
        · simp only [List.length_set]; exact hs
        · exact hs
theorem plE_one (r c : Int) (l : List Offer) (xs : List ByteArray) (n : List Int) (hx : xs.length ≤ 1000) : ∃ (B : List ByteArray) (w e : Int), plE r c l xs n = .tup [.strs B, .int w, .int e] ∧ B.length ≤ 1000 := by
  unfold plE
  split
  · exact ⟨[], _, _, rfl, by simp⟩
  · split
    · exact ⟨[], _, _, rfl, by simp⟩
    · split
      · exact ⟨[], _, _, rfl, by simp⟩
      · unfold plT
        split
        · exact ⟨[], _, _, rfl, by simp⟩
        · rename_i hm
          refine ⟨_, _, _, rfl, ?_⟩
          have := tryP_len (K := keysL l) (old := xs) (ok := okC r c l) xs.length [] (((xs.length : Int) - sumL n) :: n) 0 ([], -1) (by simp) (by omega)
          unfold plS at hm ⊢
          have h2 := this (by omega)
          simp at h2
          omega
attribute [local irreducible] intRows strRows sumL plE arrE arrL layoutE offersE
theorem layoutsArranged_law (xs : List Int) : Spec Tryd.prog 4 [Tr.ints xs] [] (fun r _ => r = Tr.bool true) := by
  refine Spec.body Tryd.func4 rfl rfl (Tryd.ntmps4) rfl fun w0 own0 M => ?_
  repeat' (first | refine goH ?_ | refine goV ?_ | refine goB (fun b => ?_) | refine goG ?_ | (refine Ops.k_guard ?_; first | (refine Ops.guard_dec rfl rfl (fun hc => ?_) (fun hc => ?_) <;> try (exfalso; omega)) | refine Ops.guard_split rfl rfl (fun hc => ?_) (fun hc => ?_)) | refine goI ?_ | (refine Cw.k_cond ?_; first | (refine Cw.cond_dec rfl (fun hc => ?_) (fun hc => ?_) <;> try (exfalso; omega)) | refine Cw.cond_bool rfl (fun hc => ?_) (fun hc => ?_)) | refine Ops.shut0 (ty := 25) rfl ?_ | (refine Ops.k_calla ?_; first | (refine Ops.k_callf 18 ?_; (refine Ops.callG rack_gen (Evs.cons rfl Evs.nil) goPk (by omega) rfl ?_; rintro x ⟨r, c, rfl, hr, hc⟩)) | (refine Ops.k_callf 19 ?_; (refine Ops.callG (offers_gen 4 (by omega)) (Evs.cons rfl (Evs.cons rfl Evs.nil)) goPk (by omega) rfl ?_; rintro x ⟨l, rfl, hl, hlg⟩))) | fail)
  rename_i bs
  have hrc : 0 ≤ r * c ∧ r * c ≤ 110 := by
    refine ⟨Int.mul_nonneg hr.1 hc.1, ?_⟩
    have := Int.mul_le_mul hr.2 hc.2 hc.1 (by omega : (0 : Int) ≤ 11)
    omega
  have hm64 : -9223372036854775808 ≤ r * c ∧ r * c ≤ 9223372036854775807 := by omega
  have hOB : OBd l := ⟨by omega, fun o ho => by have := hlg o ho; unfold OGd at this; omega⟩
  repeat' (first | refine goH ?_ | ((fail_if_success refine Ops.k_c_call ?_); refine goV ?_) | ((fail_if_success refine Ops.k_c_call ?_); refine goB (fun b => ?_)) | refine goG ?_ | (refine Ops.k_guard ?_; first | (refine Ops.guard_dec rfl rfl (fun hc => ?_) (fun hc => ?_) <;> try (exfalso; omega)) | refine Ops.guard_split rfl rfl (fun hc => ?_) (fun hc => ?_)) | refine goI ?_ | (refine Cw.k_cond ?_; first | (refine Cw.cond_dec rfl (fun hc => ?_) (fun hc => ?_) <;> try (exfalso; omega)) | refine Cw.cond_bool rfl (fun hc => ?_) (fun hc => ?_)) | (refine Ops.k_calla ?_; first | (refine Ops.k_callf 20 ?_; (refine Ops.callG (layout_gen (r * c) (by omega) l (by omega)) (Evs.cons rfl (Evs.cons rfl (Evs.cons rfl Evs.nil))) goPk (by omega) rfl ?_; rintro x ⟨x, rfl, hx⟩)) | (refine Ops.k_callf 21 ?_; (refine Ops.callG (counts_gen l (by omega) (fun o ho => (hOB.2 o ho).1)) (Evs.cons rfl (Evs.cons rfl Evs.nil)) goPk (by omega) rfl ?_; rintro y ⟨n, rfl, hn⟩))) | fail)
  have k1 := arrange_fn l hOB x (by omega) n (by omega)
  have k2 := place_fn r c l hOB x (by omega) n (by omega)
  have k3 := offersFault_fn l hOB
  have k4 := layoutFault_fn r c l hOB x (by omega)
  have k5 := fun h => arrFault_fn l hOB x (by omega) n (by omega) h
  have k6 := fun h => placeOf_fn r c l hOB x n (by omega) h
  have q1 := equalStrs_same (arrL l x n) (by rw [arrL_len]; omega)
  obtain ⟨B, w2, e2, hP, hBl⟩ := plE_one r c l x n (by omega)
  rw [hP] at k2 k6
  have q2 := equalStrs_same B (by omega)
  have hA0 : offersE l ≠ 0 → arrE l x n = offersE l := by
    intro h
    have e1 : cnt1E l x = offersE l := by unfold cnt1E; rw [if_pos h]
    have e2 : arrE l x n = if cnt1E l x ≠ 0 then cnt1E l x else if cntsE l n ≠ 0 then cntsE l n else if (x.length : Int) < sumL n then 12 else 0 := by with_unfolding_all rfl
    rw [e2, e1, if_pos h]
  have hA1 : arrE l x n = 0 → cnt1E l x = 0 ∧ cntsE l n = 0 ∧ ¬ (x.length : Int) < sumL n := by
    intro h
    have e2 : arrE l x n = if cnt1E l x ≠ 0 then cnt1E l x else if cntsE l n ≠ 0 then cntsE l n else if (x.length : Int) < sumL n then 12 else 0 := by with_unfolding_all rfl
    rw [e2] at h
    split at h
    · rename_i h1; exact absurd h h1
    · split at h
      · rename_i h1; exact absurd h h1
      · split at h
        · exact absurd h (by decide)
        · rename_i h1 h2 h3
          exact ⟨by omega, by omega, h3⟩
  have k7 := fun h => arrangeOf_fn l hOB x n (by omega) (hA1 h).1 (hA1 h).2.1 (hA1 h).2.2
  clear hP hA1 hlg hm64 hrc
  have hLO : layoutE r c l x = 0 → offersE l = 0 := fun h => (lay_ok h).2.1
  by_cases hL : layoutE r c l x ≠ 0
  · clear k6 q2
    rw [if_pos hL] at k2
    generalize layoutE r c l x = le at *
    by_cases hO : offersE l ≠ 0
    · rw [hA0 hO, if_pos hO] at k1
      clear k5 k7 q1 hA0
      generalize offersE l = oe at *
      repeat' (first | refine goH ?_ | (refine Ops.k_b_eql ?_; first | (refine Ops.val' rfl (OpV.eql_t rfl rfl (by omega)) ?_) | (refine Ops.val' rfl (OpV.eql_f rfl rfl (by omega)) ?_)) | (refine Ops.k_b_neq ?_; first | (refine Ops.val' rfl (OpV.neq_f rfl rfl (by omega)) ?_) | (refine Ops.val' rfl (OpV.neq_t rfl rfl (by omega)) ?_)) | refine goV ?_ | refine goB (fun b => ?_) | refine goG ?_ | (refine Ops.k_guard ?_; first | (refine Ops.guard_dec rfl rfl (fun hc => ?_) (fun hc => ?_) <;> try (exfalso; omega)) | refine Ops.guard_split rfl rfl (fun hc => ?_) (fun hc => ?_)) | refine goI ?_ | (refine Cw.k_cond ?_; first | (refine Cw.cond_dec rfl (fun hc => ?_) (fun hc => ?_) <;> try (exfalso; omega)) | refine Cw.cond_bool rfl (fun hc => ?_) (fun hc => ?_)) | (refine Ops.k_calla ?_; first | (refine Ops.k_callf 22 ?_; refine Ops.callV k1 (Evs.cons rfl (Evs.cons rfl (Evs.cons rfl Evs.nil))) rfl ?_) | (refine Ops.k_callf 23 ?_; refine Ops.callV k2 (Evs.cons rfl (Evs.cons rfl (Evs.cons rfl (Evs.cons rfl Evs.nil)))) rfl ?_) | (refine Ops.k_callf 24 ?_; refine Ops.callV k3 (Evs.cons rfl Evs.nil) rfl ?_) | (refine Ops.k_callf 27 ?_; refine Ops.callV k4 (Evs.cons rfl (Evs.cons rfl (Evs.cons rfl Evs.nil))) rfl ?_) | (refine Ops.k_callf 12 ?_; refine Ops.callV shelves_fn Evs.nil rfl ?_)) | fail)
      all_goals exact Fin.ret Ent.refl (Outs.one rfl rfl) rfl
    · have hO0 : offersE l = 0 := by omega
      have k5 := k5 hO0
      rw [hO0] at k3
      clear hA0
      by_cases hA : arrE l x n ≠ 0
      · rw [if_pos hA] at k1
        clear k7 q1
        generalize arrE l x n = ae at *
        repeat' (first | refine goH ?_ | (refine Ops.k_b_eql ?_; first | (refine Ops.val' rfl (OpV.eql_t rfl rfl (by omega)) ?_) | (refine Ops.val' rfl (OpV.eql_f rfl rfl (by omega)) ?_)) | (refine Ops.k_b_neq ?_; first | (refine Ops.val' rfl (OpV.neq_f rfl rfl (by omega)) ?_) | (refine Ops.val' rfl (OpV.neq_t rfl rfl (by omega)) ?_)) | refine goV ?_ | refine goB (fun b => ?_) | refine goG ?_ | (refine Ops.k_guard ?_; first | (refine Ops.guard_dec rfl rfl (fun hc => ?_) (fun hc => ?_) <;> try (exfalso; omega)) | refine Ops.guard_split rfl rfl (fun hc => ?_) (fun hc => ?_)) | refine goI ?_ | (refine Cw.k_cond ?_; first | (refine Cw.cond_dec rfl (fun hc => ?_) (fun hc => ?_) <;> try (exfalso; omega)) | refine Cw.cond_bool rfl (fun hc => ?_) (fun hc => ?_)) | (refine Ops.k_calla ?_; first | (refine Ops.k_callf 22 ?_; refine Ops.callV k1 (Evs.cons rfl (Evs.cons rfl (Evs.cons rfl Evs.nil))) rfl ?_) | (refine Ops.k_callf 23 ?_; refine Ops.callV k2 (Evs.cons rfl (Evs.cons rfl (Evs.cons rfl (Evs.cons rfl Evs.nil)))) rfl ?_) | (refine Ops.k_callf 24 ?_; refine Ops.callV k3 (Evs.cons rfl Evs.nil) rfl ?_) | (refine Ops.k_callf 27 ?_; refine Ops.callV k4 (Evs.cons rfl (Evs.cons rfl (Evs.cons rfl Evs.nil))) rfl ?_) | (refine Ops.k_callf 25 ?_; refine Ops.callV k5 (Evs.cons rfl (Evs.cons rfl (Evs.cons rfl Evs.nil))) rfl ?_) | (refine Ops.k_callf 12 ?_; refine Ops.callV shelves_fn Evs.nil rfl ?_)) | fail)
        all_goals exact Fin.ret Ent.refl (Outs.one rfl rfl) rfl
      · have hA0 : arrE l x n = 0 := by omega
        have k7 := k7 hA0
        rw [if_neg hA] at k1
        rw [hA0] at k1 k5
        repeat' (first | refine goH ?_ | (refine Ops.k_b_eql ?_; first | (refine Ops.val' rfl (OpV.eql_t rfl rfl (by omega)) ?_) | (refine Ops.val' rfl (OpV.eql_f rfl rfl (by omega)) ?_)) | (refine Ops.k_b_neq ?_; first | (refine Ops.val' rfl (OpV.neq_f rfl rfl (by omega)) ?_) | (refine Ops.val' rfl (OpV.neq_t rfl rfl (by omega)) ?_)) | refine goV ?_ | refine goB (fun b => ?_) | refine goG ?_ | (refine Ops.k_guard ?_; first | (refine Ops.guard_dec rfl rfl (fun hc => ?_) (fun hc => ?_) <;> try (exfalso; omega)) | refine Ops.guard_split rfl rfl (fun hc => ?_) (fun hc => ?_)) | refine goI ?_ | (refine Cw.k_cond ?_; first | (refine Cw.cond_dec rfl (fun hc => ?_) (fun hc => ?_) <;> try (exfalso; omega)) | refine Cw.cond_bool rfl (fun hc => ?_) (fun hc => ?_)) | (refine Ops.k_calla ?_; first | (refine Ops.k_callf 22 ?_; refine Ops.callV k1 (Evs.cons rfl (Evs.cons rfl (Evs.cons rfl Evs.nil))) rfl ?_) | (refine Ops.k_callf 23 ?_; refine Ops.callV k2 (Evs.cons rfl (Evs.cons rfl (Evs.cons rfl (Evs.cons rfl Evs.nil)))) rfl ?_) | (refine Ops.k_callf 24 ?_; refine Ops.callV k3 (Evs.cons rfl Evs.nil) rfl ?_) | (refine Ops.k_callf 27 ?_; refine Ops.callV k4 (Evs.cons rfl (Evs.cons rfl (Evs.cons rfl Evs.nil))) rfl ?_) | (refine Ops.k_callf 25 ?_; refine Ops.callV k5 (Evs.cons rfl (Evs.cons rfl (Evs.cons rfl Evs.nil))) rfl ?_) | (refine Ops.k_callf 26 ?_; refine Ops.callV k7 (Evs.cons rfl (Evs.cons rfl (Evs.cons rfl Evs.nil))) rfl ?_) | (refine Ops.k_callf 15 ?_; refine Ops.callV q1 (Evs.cons rfl (Evs.cons rfl Evs.nil)) rfl ?_) | (refine Ops.k_callf 12 ?_; refine Ops.callV shelves_fn Evs.nil rfl ?_)) | fail)
        all_goals exact Fin.ret Ent.refl (Outs.one rfl rfl) rfl
  · have hL0 : layoutE r c l x = 0 := by omega
    have hO0 := hLO hL0
    have k5 := k5 hO0
    have k6 := k6 hL0
    rw [if_neg hL] at k2
    rw [hO0] at k3
    rw [hL0] at k4
    clear hA0 hLO
    by_cases hA : arrE l x n ≠ 0
    · rw [if_pos hA] at k1
      clear k7 q1
      generalize arrE l x n = ae at *
      repeat' (first | refine goH ?_ | (refine Ops.k_b_eql ?_; first | (refine Ops.val' rfl (OpV.eql_t rfl rfl (by omega)) ?_) | (refine Ops.val' rfl (OpV.eql_f rfl rfl (by omega)) ?_)) | (refine Ops.k_b_neq ?_; first | (refine Ops.val' rfl (OpV.neq_f rfl rfl (by omega)) ?_) | (refine Ops.val' rfl (OpV.neq_t rfl rfl (by omega)) ?_)) | refine goV ?_ | refine goB (fun b => ?_) | refine goG ?_ | (refine Ops.k_guard ?_; first | (refine Ops.guard_dec rfl rfl (fun hc => ?_) (fun hc => ?_) <;> try (exfalso; omega)) | refine Ops.guard_split rfl rfl (fun hc => ?_) (fun hc => ?_)) | refine goI ?_ | (refine Cw.k_cond ?_; first | (refine Cw.cond_dec rfl (fun hc => ?_) (fun hc => ?_) <;> try (exfalso; omega)) | refine Cw.cond_bool rfl (fun hc => ?_) (fun hc => ?_)) | exact OpW.callV q2 (Evs.cons rfl (Evs.cons rfl Evs.nil)) | (refine Ops.k_calla ?_; first | (refine Ops.k_callf 22 ?_; refine Ops.callV k1 (Evs.cons rfl (Evs.cons rfl (Evs.cons rfl Evs.nil))) rfl ?_) | (refine Ops.k_callf 23 ?_; refine Ops.callV k2 (Evs.cons rfl (Evs.cons rfl (Evs.cons rfl (Evs.cons rfl Evs.nil)))) rfl ?_) | (refine Ops.k_callf 24 ?_; refine Ops.callV k3 (Evs.cons rfl Evs.nil) rfl ?_) | (refine Ops.k_callf 27 ?_; refine Ops.callV k4 (Evs.cons rfl (Evs.cons rfl (Evs.cons rfl Evs.nil))) rfl ?_) | (refine Ops.k_callf 25 ?_; refine Ops.callV k5 (Evs.cons rfl (Evs.cons rfl (Evs.cons rfl Evs.nil))) rfl ?_) | (refine Ops.k_callf 28 ?_; refine Ops.callV k6 (Evs.cons rfl (Evs.cons rfl (Evs.cons rfl (Evs.cons rfl Evs.nil)))) rfl ?_) | (refine Ops.k_callf 15 ?_; refine Ops.callV q2 (Evs.cons rfl (Evs.cons rfl Evs.nil)) rfl ?_) | (refine Ops.k_callf 12 ?_; refine Ops.callV shelves_fn Evs.nil rfl ?_)) | fail)
      all_goals exact Fin.ret Ent.refl (Outs.one rfl rfl) rfl
    · have hA0 : arrE l x n = 0 := by omega
      have k7 := k7 hA0
      rw [if_neg hA] at k1
      rw [hA0] at k1 k5
      repeat' (first | refine goH ?_ | (refine Ops.k_b_eql ?_; first | (refine Ops.val' rfl (OpV.eql_t rfl rfl (by omega)) ?_) | (refine Ops.val' rfl (OpV.eql_f rfl rfl (by omega)) ?_)) | (refine Ops.k_b_neq ?_; first | (refine Ops.val' rfl (OpV.neq_f rfl rfl (by omega)) ?_) | (refine Ops.val' rfl (OpV.neq_t rfl rfl (by omega)) ?_)) | refine goV ?_ | refine goB (fun b => ?_) | refine goG ?_ | (refine Ops.k_guard ?_; first | (refine Ops.guard_dec rfl rfl (fun hc => ?_) (fun hc => ?_) <;> try (exfalso; omega)) | refine Ops.guard_split rfl rfl (fun hc => ?_) (fun hc => ?_)) | refine goI ?_ | (refine Cw.k_cond ?_; first | (refine Cw.cond_dec rfl (fun hc => ?_) (fun hc => ?_) <;> try (exfalso; omega)) | refine Cw.cond_bool rfl (fun hc => ?_) (fun hc => ?_)) | exact OpW.callV q1 (Evs.cons rfl (Evs.cons rfl Evs.nil)) | exact OpW.callV q2 (Evs.cons rfl (Evs.cons rfl Evs.nil)) | (refine Ops.k_calla ?_; first | (refine Ops.k_callf 22 ?_; refine Ops.callV k1 (Evs.cons rfl (Evs.cons rfl (Evs.cons rfl Evs.nil))) rfl ?_) | (refine Ops.k_callf 23 ?_; refine Ops.callV k2 (Evs.cons rfl (Evs.cons rfl (Evs.cons rfl (Evs.cons rfl Evs.nil)))) rfl ?_) | (refine Ops.k_callf 24 ?_; refine Ops.callV k3 (Evs.cons rfl Evs.nil) rfl ?_) | (refine Ops.k_callf 27 ?_; refine Ops.callV k4 (Evs.cons rfl (Evs.cons rfl (Evs.cons rfl Evs.nil))) rfl ?_) | (refine Ops.k_callf 25 ?_; refine Ops.callV k5 (Evs.cons rfl (Evs.cons rfl (Evs.cons rfl Evs.nil))) rfl ?_) | (refine Ops.k_callf 28 ?_; refine Ops.callV k6 (Evs.cons rfl (Evs.cons rfl (Evs.cons rfl (Evs.cons rfl Evs.nil)))) rfl ?_) | (refine Ops.k_callf 26 ?_; refine Ops.callV k7 (Evs.cons rfl (Evs.cons rfl (Evs.cons rfl Evs.nil))) rfl ?_) | (refine Ops.k_callf 15 ?_; refine Ops.callV q1 (Evs.cons rfl (Evs.cons rfl Evs.nil)) rfl ?_) | (refine Ops.k_callf 15 ?_; refine Ops.callV q2 (Evs.cons rfl (Evs.cons rfl Evs.nil)) rfl ?_) | (refine Ops.k_callf 12 ?_; refine Ops.callV shelves_fn Evs.nil rfl ?_)) | fail)
      all_goals exact Fin.ret Ent.refl (Outs.one rfl rfl) rfl
end Lg
end
