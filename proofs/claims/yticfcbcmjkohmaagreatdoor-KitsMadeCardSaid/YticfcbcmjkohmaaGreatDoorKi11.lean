/- A part of the proof of a law of this seat: it adds no condition. By an AI agent. -/
import Derived.Test.YticfcbcmjkohmaaGreatDoorFrame
import Derived.Test.YticfcbcmjkohmaaGreatDoorKi8
import Derived.Test.YticfcbcmjkohmaaGreatDoorKi10
section
set_option linter.all false
namespace Lg
open Go Go.Proofs

theorem Ops.shut0 {P : Program} {Γ : Ctx} {env : Env} {cs : List Chunk} {Q : Post} {R : Array Oper} {l : List Oper} {ty b : Nat} {cells : List Tr} {rows : List (List Tr)} (h : cells = [Tr.sl 1 rows, Tr.int ((0 : Nat) : Int)]) (k : Ops P Γ R l env (Chunk.strm ty b rows 0 :: cs) Q) : Ops P Γ R l env (Chunk.box b ty cells :: cs) Q := by
  subst h
  exact Ops.ent (Ent.shut_strm (m := 0) (Nat.le_refl 0)) k
end Lg
end
section
set_option linter.all false
set_option maxRecDepth 100000
set_option maxHeartbeats 8000000
namespace Lg
open Go Go.Proofs

theorem kitsMade_law (xs : List Int) : Spec Tryz.prog 3 [Tr.ints xs] [] (fun r _ => r = Tr.bool true) := by
  refine Spec.body Tryz.func3 rfl rfl (Tryz.ntmps3) rfl fun w0 own0 M => ?_
  repeat' (first | refine goH ?_ | refine goV ?_ | refine goB (fun b => ?_) | refine goG ?_ | (refine Ops.k_guard ?_; first | (refine Ops.guard_dec rfl rfl (fun hc => ?_) (fun hc => ?_) <;> try (exfalso; omega)) | refine Ops.guard_split rfl rfl (fun hc => ?_) (fun hc => ?_)) | refine goI ?_ | (refine Cw.k_cond ?_; first | (refine Cw.cond_dec rfl (fun hc => ?_) (fun hc => ?_) <;> try (exfalso; omega)) | refine Cw.cond_bool rfl (fun hc => ?_) (fun hc => ?_)) | refine Ops.shut0 (ty := 25) rfl ?_ | (refine Ops.k_calla ?_; first | (refine Ops.k_callf 4 ?_; (refine Ops.callG lots_gen (Evs.cons rfl Evs.nil) goPk (by omega) rfl ?_; rintro r ⟨x, rfl, hx⟩)) | (refine Ops.k_callf 5 ?_; (refine Ops.callG needs_gen (Evs.cons rfl Evs.nil) goPk (by omega) rfl ?_; rintro r ⟨l, rfl, hl⟩)) | (refine Ops.k_callf 6 ?_; (refine Ops.callG day_gen (Evs.cons rfl Evs.nil) goPk (by omega) rfl ?_; rintro r ⟨day, rfl, hd⟩)) | (refine Ops.k_callf 7 ?_; (refine Ops.callG (pick_gen (by repeat' (first | exact IsInts.nil | apply IsInts.cons)) (by simp)) (Evs.cons rfl (Evs.cons rfl Evs.nil)) goPk (by omega) rfl ?_; rintro r ⟨dl, rfl, hm⟩; have hle : 0 ≤ dl ∧ dl ≤ 3 := (by simp at hm; omega); clear hm))) | fail)
  have k1 := checkNeeds_fn l (by omega)
  have k2 := needsFault_fn l (by omega)
  have k3 := refLots_fn x (by omega)
  have k4 := kitFault_fn l (by omega) day dl
  have k5 := cmpOr_fn [lotsErr x, kitE l day dl] (by simp)
  have k6 := short_fn x (by omega) l (by omega) day dl
  have eO : orI [lotsErr x, kitE l day dl] = wantE x l day dl := by
    unfold wantE kitE
    rw [orI_cons]
    split
    · rfl
    · rw [orI_cons]
      split
      · rfl
      · simp only [orI]
        split <;> omega
  rw [eO] at k5
  unfold shortT at k6
  by_cases h : wantE x l day dl = 0
  rotate_left
  · have k7 := kitE_fn x (by omega) l (by omega) day dl h
    rw [if_pos h] at k6
    generalize wantE x l day dl = e at *
    generalize kitE l day dl = e1 at *
    generalize lotsErr x = e2 at *
    generalize needsErr l = e3 at *
    clear eO
    repeat' (first | refine goH ?_ | (refine Ops.k_b_eql ?_; first | (refine Ops.val' rfl (OpV.eql_t rfl rfl (by omega)) ?_) | (refine Ops.val' rfl (OpV.eql_f rfl rfl (by omega)) ?_)) | (refine Ops.k_b_neq ?_; first | (refine Ops.val' rfl (OpV.neq_f rfl rfl (by omega)) ?_) | (refine Ops.val' rfl (OpV.neq_t rfl rfl (by omega)) ?_)) | refine goV ?_ | refine goB (fun b => ?_) | refine goG ?_ | (refine Ops.k_guard ?_; first | (refine Ops.guard_dec rfl rfl (fun hc => ?_) (fun hc => ?_) <;> try (exfalso; omega)) | refine Ops.guard_split rfl rfl (fun hc => ?_) (fun hc => ?_)) | refine goI ?_ | (refine Cw.k_cond ?_; first | (refine Cw.cond_dec rfl (fun hc => ?_) (fun hc => ?_) <;> try (exfalso; omega)) | refine Cw.cond_bool rfl (fun hc => ?_) (fun hc => ?_)) | (refine Ops.k_calla ?_; first | (refine Ops.k_callf 8 ?_; refine Ops.callV k1 (Evs.cons rfl Evs.nil) rfl ?_) | (refine Ops.k_callf 9 ?_; refine Ops.callV k2 (Evs.cons rfl Evs.nil) rfl ?_) | (refine Ops.k_callf 13 ?_; refine Ops.callV k3 (Evs.cons rfl Evs.nil) rfl ?_) | (refine Ops.k_callf 14 ?_; refine Ops.callV k4 (Evs.cons rfl (Evs.cons rfl (Evs.cons rfl Evs.nil))) rfl ?_) | (refine Ops.k_callf 12 ?_; refine Ops.callV k5 (Evs.cons rfl Evs.nil) rfl ?_) | (refine Ops.k_callf 11 ?_; refine Ops.callV k6 (Evs.cons rfl (Evs.cons rfl (Evs.cons rfl (Evs.cons rfl Evs.nil)))) rfl ?_) | (refine Ops.k_callf 10 ?_; refine Ops.callV k7 (Evs.cons rfl (Evs.cons rfl (Evs.cons rfl (Evs.cons rfl Evs.nil)))) rfl ?_) | (refine Ops.k_callf 15 ?_; refine Ops.callV stocks_fn Evs.nil rfl ?_)) | fail)
    all_goals exact Fin.ret Ent.refl (Outs.one rfl rfl) rfl
  obtain ⟨w1, w2, w3, w4⟩ := wantE_ok h
  have hn : NOk l := ⟨by omega, needsErr_ok w2⟩
  have ho := lotsErr_LOk w1
  have hd2 := dayB_f w3
  have k7 := kit_fn x (by omega) l (by omega) day dl h
  have k8 := kitOf_fn x ho (by omega) l hn day dl hd2 (by omega)
  have k9 := shortOf_fn x ho l hn (by omega) day dl hd2 (by omega)
  obtain ⟨i1, i2, i3, _⟩ := kit_inv ho hn (day + dl) l.length (Nat.le_refl _)
  have hps := kits_ps ho hn (day + dl) l.length (Nat.le_refl _)
  have q1 := sameKits_fn (kitsOf x (day + dl) l) (by unfold kitsOf; omega) (fun r hr => by have := hps r hr; omega)
  have q2 := equal_lot (restOf x (day + dl) l) (by unfold restOf; omega)
  have hsl : (shortL x l (day + dl)).length ≤ 1000000000 := by
    unfold shortL
    rw [isort_len]
    have h1 := short_len x (day + dl) (ndM l)
    have h2 := ndM_len l
    omega
  have q3 := equal_nm (shortL x l (day + dl)) hsl
  rw [if_neg (by omega), h] at k6
  rw [h] at k5
  generalize kitsOf x (day + dl) l = K at *
  generalize restOf x (day + dl) l = X at *
  generalize shortL x l (day + dl) = S at *
  generalize kitE l day dl = e1 at *
  generalize lotsErr x = e2 at *
  generalize needsErr l = e3 at *
  clear eO h i1 i2 i3 hps w1 w2 hsl ho hn
  repeat' (first | refine goH ?_ | (refine Ops.k_b_eql ?_; first | (refine Ops.val' rfl (OpV.eql_t rfl rfl (by omega)) ?_) | (refine Ops.val' rfl (OpV.eql_f rfl rfl (by omega)) ?_)) | (refine Ops.k_b_neq ?_; first | (refine Ops.val' rfl (OpV.neq_f rfl rfl (by omega)) ?_) | (refine Ops.val' rfl (OpV.neq_t rfl rfl (by omega)) ?_)) | refine goV ?_ | refine goB (fun b => ?_) | refine goG ?_ | (refine Ops.k_guard ?_; first | (refine Ops.guard_dec rfl rfl (fun hc => ?_) (fun hc => ?_) <;> try (exfalso; omega)) | refine Ops.guard_split rfl rfl (fun hc => ?_) (fun hc => ?_)) | refine goI ?_ | (refine Cw.k_cond ?_; first | (refine Cw.cond_dec rfl (fun hc => ?_) (fun hc => ?_) <;> try (exfalso; omega)) | refine Cw.cond_bool rfl (fun hc => ?_) (fun hc => ?_)) | (refine Ops.k_calla ?_; first | (refine Ops.k_callf 8 ?_; refine Ops.callV k1 (Evs.cons rfl Evs.nil) rfl ?_) | (refine Ops.k_callf 9 ?_; refine Ops.callV k2 (Evs.cons rfl Evs.nil) rfl ?_) | (refine Ops.k_callf 13 ?_; refine Ops.callV k3 (Evs.cons rfl Evs.nil) rfl ?_) | (refine Ops.k_callf 14 ?_; refine Ops.callV k4 (Evs.cons rfl (Evs.cons rfl (Evs.cons rfl Evs.nil))) rfl ?_) | (refine Ops.k_callf 12 ?_; refine Ops.callV k5 (Evs.cons rfl Evs.nil) rfl ?_) | (refine Ops.k_callf 11 ?_; refine Ops.callV k6 (Evs.cons rfl (Evs.cons rfl (Evs.cons rfl (Evs.cons rfl Evs.nil)))) rfl ?_) | (refine Ops.k_callf 10 ?_; refine Ops.callV k7 (Evs.cons rfl (Evs.cons rfl (Evs.cons rfl (Evs.cons rfl Evs.nil)))) rfl ?_) | (refine Ops.k_callf 16 ?_; refine Ops.callV k8 (Evs.cons rfl (Evs.cons rfl (Evs.cons rfl (Evs.cons rfl Evs.nil)))) rfl ?_) | (refine Ops.k_callf 20 ?_; refine Ops.callV k9 (Evs.cons rfl (Evs.cons rfl (Evs.cons rfl (Evs.cons rfl Evs.nil)))) rfl ?_) | (refine Ops.k_callf 17 ?_; refine Ops.callV q1 (Evs.cons rfl (Evs.cons rfl Evs.nil)) rfl ?_) | (refine Ops.k_callf 18 ?_; refine Ops.callV q2 (Evs.cons rfl (Evs.cons rfl Evs.nil)) rfl ?_) | (refine Ops.k_callf 19 ?_; refine Ops.callV q3 (Evs.cons rfl (Evs.cons rfl Evs.nil)) rfl ?_) | (refine Ops.k_callf 15 ?_; refine Ops.callV stocks_fn Evs.nil rfl ?_)) | fail)
  all_goals exact Fin.ret Ent.refl (Outs.one rfl rfl) rfl
end Lg
end
