/- A part of the proof of a law of this seat: it adds no condition. By an AI agent. -/
import Derived.Test.YtnhnmjgjmlmahaaTk3
set_option linter.all false
set_option maxRecDepth 100000
set_option maxHeartbeats 8000000
namespace Lg
open Go Go.Proofs

def insO (L : List (List Int)) (w s : List Int) : Tr := if insE L w s = 0 then .tup [.ints (insF L w s).1, .ints (insF L w s).2.2, .int 0] else .tup [.ints [], .ints [], .int (insE L w s)]
theorem insO_bad {L : List (List Int)} {w s : List Int} {e : Int} (h : insE L w s = e) (h0 : e ≠ 0) : insO L w s = .tup [.ints [], .ints [], .int e] := by
  unfold insO
  rw [h, if_neg h0]
theorem insO_ok {L : List (List Int)} {w s : List Int} (h : insE L w s = 0) : insO L w s = .tup [.ints (insF L w s).1, .ints (insF L w s).2.2, .int 0] := by
  unfold insO
  rw [if_pos h]
theorem any_in (w : List Int) (hw : w.length ≤ 1000) : Spec Try.prog 73 [.ints w, Tr.raw (.func (.func 91) #[] #[])] [] (fun r cs => r = .bool (w.any b6) ∧ cs = []) := containsFunc_int (p := b6) (g := 91) (caps := []) (cin := []) (l := w) (by omega) (fun x _ => (in1_fn x).lend)
theorem nil3 (e : Int) : Tr.tup [.sl 1 [], .sl 1 [], .int e] = .tup [.ints [], .ints [], .int e] := rfl
attribute [local irreducible] intRows intsR stepJ tabF rowF insF z1 z2 z3
theorem instead_fn (L : List (List Int)) (hB : LBd L) (w s : List Int) (hw : w.length ≤ 1000) (hs : s.length ≤ 1000) : PFn Try.prog 46 [.table L, .ints w, .ints s] (· = insO L w s) := by
  have hL := intsR_len L
  have hW := intRows_len w
  have hS := intRows_len s
  have hll := hB.1
  have k1 := checkTable_fn L hB
  have k2 := any_in w hw
  have k3 := any_in s hs
  have he : insE L w s = if tableE L ≠ 0 then tableE L else if w.length ≠ L.length ∨ s.length ≠ L.length then 3 else if (w.any b6 || s.any b6) then 1 else 0 := rfl
  refine PFn.mk (Spec.body Try.func46 rfl rfl (Try.ntmps46) rfl fun w0 own0 M => ?_)
  by_cases h1 : tableE L ≠ 0
  · rw [if_pos h1] at he
    rw [insO_bad he h1]
    clear he
    generalize tableE L = te at *
    repeat' (first | refine goH ?_ | refine goV ?_ | refine goB (fun b => ?_) | refine goC (fun ad cap => ?_) | refine goG ?_ | (refine Ops.k_guard ?_; first | (refine Ops.guard_dec rfl rfl (fun hc => ?_) (fun hc => ?_) <;> try (exfalso; omega)) | refine Ops.guard_split rfl rfl (fun hc => ?_) (fun hc => ?_)) | refine goI ?_ | (refine Cw.k_cond ?_; first | (refine Cw.cond_dec rfl (fun hc => ?_) (fun hc => ?_) <;> try (exfalso; omega)) | refine Cw.cond_bool rfl (fun hc => ?_) (fun hc => ?_)) | (refine Ops.k_calla ?_; first | (refine Ops.k_callf 44 ?_; refine Ops.callV k1 (Evs.cons rfl Evs.nil) rfl ?_)) | (apply OpW.k_call; first | (apply OpW.k_callf 44; exact OpW.callV k1 (Evs.cons rfl Evs.nil))) | refine goR ?_ | refine goP ?_ | apply PSeq.cons | apply PSeq.yes rfl rfl rfl | exact goW | fail)
    refine Fin.ret (Ent.trans (Ent.nilsl 1 (s := 6) rfl) (Ent.trans (Ent.nilsl 1 (s := 7) rfl) (Ent.take (by repeat' (first | exact Take.nil | refine Take.cons (by first | exact pick0 | exact pickS pick0 | exact pickS (pickS pick0) | exact pickS (pickS (pickS pick0)) | exact pickS (pickS (pickS (pickS pick0)))) ?_))))) (Outs.many rfl (OutL.cons (by first | exact OutE.tmp rfl | exact OutE.agg inferInstance rfl rfl | exact OutE.one inferInstance rfl) (OutL.cons (by first | exact OutE.tmp rfl | exact OutE.agg inferInstance rfl rfl | exact OutE.one inferInstance rfl) (OutL.cons (by first | exact OutE.tmp rfl | exact OutE.agg inferInstance rfl rfl | exact OutE.one inferInstance rfl) OutL.nil))) rfl) ⟨rfl, nil3 _⟩
  rw [if_neg h1] at he
  have t0 : tableE L = 0 := by omega
  rw [t0] at k1
  clear h1
  by_cases h2 : w.length = L.length ∧ s.length = L.length
  rotate_left
  · rw [if_pos (by omega)] at he
    rw [insO_bad he (by decide)]
    clear he t0
    by_cases h3 : w.length = L.length
    · have h4 : s.length ≠ L.length := fun h => h2 ⟨h3, h⟩
      repeat' (first | refine goH ?_ | refine goV ?_ | refine goB (fun b => ?_) | refine goC (fun ad cap => ?_) | refine goG ?_ | (refine Ops.k_guard ?_; first | (refine Ops.guard_dec rfl rfl (fun hc => ?_) (fun hc => ?_) <;> try (exfalso; omega)) | refine Ops.guard_split rfl rfl (fun hc => ?_) (fun hc => ?_)) | refine goI ?_ | (refine Cw.k_cond ?_; first | (refine Cw.cond_dec rfl (fun hc => ?_) (fun hc => ?_) <;> try (exfalso; omega)) | refine Cw.cond_bool rfl (fun hc => ?_) (fun hc => ?_)) | (refine Ops.k_calla ?_; first | (refine Ops.k_callf 44 ?_; refine Ops.callV k1 (Evs.cons rfl Evs.nil) rfl ?_)) | (apply OpW.k_call; first | (apply OpW.k_callf 44; exact OpW.callV k1 (Evs.cons rfl Evs.nil))) | refine goR ?_ | refine goP ?_ | apply PSeq.cons | apply PSeq.yes rfl rfl rfl | exact goW | fail)
      refine Fin.ret (Ent.trans (Ent.nilsl 1 (s := 6) rfl) (Ent.trans (Ent.nilsl 1 (s := 7) rfl) (Ent.take (by repeat' (first | exact Take.nil | refine Take.cons (by first | exact pick0 | exact pickS pick0 | exact pickS (pickS pick0) | exact pickS (pickS (pickS pick0)) | exact pickS (pickS (pickS (pickS pick0)))) ?_))))) (Outs.many rfl (OutL.cons (by first | exact OutE.tmp rfl | exact OutE.agg inferInstance rfl rfl | exact OutE.one inferInstance rfl) (OutL.cons (by first | exact OutE.tmp rfl | exact OutE.agg inferInstance rfl rfl | exact OutE.one inferInstance rfl) (OutL.cons (by first | exact OutE.tmp rfl | exact OutE.agg inferInstance rfl rfl | exact OutE.one inferInstance rfl) OutL.nil))) rfl) ⟨rfl, nil3 _⟩
    · repeat' (first | refine goH ?_ | refine goV ?_ | refine goB (fun b => ?_) | refine goC (fun ad cap => ?_) | refine goG ?_ | (refine Ops.k_guard ?_; first | (refine Ops.guard_dec rfl rfl (fun hc => ?_) (fun hc => ?_) <;> try (exfalso; omega)) | refine Ops.guard_split rfl rfl (fun hc => ?_) (fun hc => ?_)) | refine goI ?_ | (refine Cw.k_cond ?_; first | (refine Cw.cond_dec rfl (fun hc => ?_) (fun hc => ?_) <;> try (exfalso; omega)) | refine Cw.cond_bool rfl (fun hc => ?_) (fun hc => ?_)) | (refine Ops.k_calla ?_; first | (refine Ops.k_callf 44 ?_; refine Ops.callV k1 (Evs.cons rfl Evs.nil) rfl ?_)) | (apply OpW.k_call; first | (apply OpW.k_callf 44; exact OpW.callV k1 (Evs.cons rfl Evs.nil))) | refine goR ?_ | refine goP ?_ | apply PSeq.cons | apply PSeq.yes rfl rfl rfl | exact goW | fail)
      refine Fin.ret (Ent.trans (Ent.nilsl 1 (s := 6) rfl) (Ent.trans (Ent.nilsl 1 (s := 7) rfl) (Ent.take (by repeat' (first | exact Take.nil | refine Take.cons (by first | exact pick0 | exact pickS pick0 | exact pickS (pickS pick0) | exact pickS (pickS (pickS pick0)) | exact pickS (pickS (pickS (pickS pick0)))) ?_))))) (Outs.many rfl (OutL.cons (by first | exact OutE.tmp rfl | exact OutE.agg inferInstance rfl rfl | exact OutE.one inferInstance rfl) (OutL.cons (by first | exact OutE.tmp rfl | exact OutE.agg inferInstance rfl rfl | exact OutE.one inferInstance rfl) (OutL.cons (by first | exact OutE.tmp rfl | exact OutE.agg inferInstance rfl rfl | exact OutE.one inferInstance rfl) OutL.nil))) rfl) ⟨rfl, nil3 _⟩
  rw [if_neg (by omega)] at he
  obtain ⟨h2, h3⟩ := h2
  cases hcw : w.any b6
  rotate_left
  · rw [hcw] at k2 he
    rw [Bool.true_or, if_pos rfl] at he
    rw [insO_bad he (by decide)]
    clear he t0 k3
    repeat' (first | refine goH ?_ | refine goV ?_ | refine goB (fun b => ?_) | refine goC (fun ad cap => ?_) | refine goG ?_ | (refine Ops.k_guard ?_; first | (refine Ops.guard_dec rfl rfl (fun hc => ?_) (fun hc => ?_) <;> try (exfalso; omega)) | refine Ops.guard_split rfl rfl (fun hc => ?_) (fun hc => ?_)) | refine goI ?_ | (refine Cw.k_cond ?_; first | (refine Cw.cond_dec rfl (fun hc => ?_) (fun hc => ?_) <;> try (exfalso; omega)) | refine Cw.cond_bool rfl (fun hc => ?_) (fun hc => ?_)) | (refine Ops.k_calla ?_; first | (refine Ops.k_callf 44 ?_; refine Ops.callV k1 (Evs.cons rfl Evs.nil) rfl ?_) | (refine Ops.k_callf 73 ?_; refine Ops.callS k2 (Evs.cons rfl (Evs.cons rfl Evs.nil)) (by first | exact pick0 | exact pickS pick0 | exact pickS (pickS pick0) | exact pickS (pickS (pickS pick0)) | exact pickS (pickS (pickS (pickS pick0)))) rfl ?_)) | (apply OpW.k_call; first | (apply OpW.k_callf 44; exact OpW.callV k1 (Evs.cons rfl Evs.nil)) | (apply OpW.k_callf 73; exact OpW.callS k2 (Evs.cons rfl (Evs.cons rfl Evs.nil)) (by first | exact pick0 | exact pickS pick0 | exact pickS (pickS pick0) | exact pickS (pickS (pickS pick0)) | exact pickS (pickS (pickS (pickS pick0)))))) | refine goR ?_ | refine goP ?_ | apply PSeq.cons | apply PSeq.yes rfl rfl rfl | exact goW | fail)
    refine Fin.ret (Ent.trans (Ent.nilsl 1 (s := 6) rfl) (Ent.trans (Ent.nilsl 1 (s := 7) rfl) (Ent.take (by repeat' (first | exact Take.nil | refine Take.cons (by first | exact pick0 | exact pickS pick0 | exact pickS (pickS pick0) | exact pickS (pickS (pickS pick0)) | exact pickS (pickS (pickS (pickS pick0)))) ?_))))) (Outs.many rfl (OutL.cons (by first | exact OutE.tmp rfl | exact OutE.agg inferInstance rfl rfl | exact OutE.one inferInstance rfl) (OutL.cons (by first | exact OutE.tmp rfl | exact OutE.agg inferInstance rfl rfl | exact OutE.one inferInstance rfl) (OutL.cons (by first | exact OutE.tmp rfl | exact OutE.agg inferInstance rfl rfl | exact OutE.one inferInstance rfl) OutL.nil))) rfl) ⟨rfl, nil3 _⟩
  cases hds : s.any b6
  rotate_left
  · rw [hcw] at k2
    rw [hds] at k3
    rw [hcw, hds] at he
    rw [insO_bad he (by decide)]
    clear he t0
    repeat' (first | refine goH ?_ | refine goV ?_ | refine goB (fun b => ?_) | refine goC (fun ad cap => ?_) | refine goG ?_ | (refine Ops.k_guard ?_; first | (refine Ops.guard_dec rfl rfl (fun hc => ?_) (fun hc => ?_) <;> try (exfalso; omega)) | refine Ops.guard_split rfl rfl (fun hc => ?_) (fun hc => ?_)) | refine goI ?_ | (refine Cw.k_cond ?_; first | (refine Cw.cond_dec rfl (fun hc => ?_) (fun hc => ?_) <;> try (exfalso; omega)) | refine Cw.cond_bool rfl (fun hc => ?_) (fun hc => ?_)) | (refine Ops.k_calla ?_; first | (refine Ops.k_callf 44 ?_; refine Ops.callV k1 (Evs.cons rfl Evs.nil) rfl ?_) | (refine Ops.k_callf 73 ?_; refine Ops.callS k2 (Evs.cons rfl (Evs.cons rfl Evs.nil)) (by first | exact pick0 | exact pickS pick0 | exact pickS (pickS pick0) | exact pickS (pickS (pickS pick0)) | exact pickS (pickS (pickS (pickS pick0)))) rfl ?_) | (refine Ops.k_callf 73 ?_; refine Ops.callS k3 (Evs.cons rfl (Evs.cons rfl Evs.nil)) (by first | exact pick0 | exact pickS pick0 | exact pickS (pickS pick0) | exact pickS (pickS (pickS pick0)) | exact pickS (pickS (pickS (pickS pick0)))) rfl ?_)) | (apply OpW.k_call; first | (apply OpW.k_callf 44; exact OpW.callV k1 (Evs.cons rfl Evs.nil)) | (apply OpW.k_callf 73; exact OpW.callS k2 (Evs.cons rfl (Evs.cons rfl Evs.nil)) (by first | exact pick0 | exact pickS pick0 | exact pickS (pickS pick0) | exact pickS (pickS (pickS pick0)) | exact pickS (pickS (pickS (pickS pick0))))) | (apply OpW.k_callf 73; exact OpW.callS k3 (Evs.cons rfl (Evs.cons rfl Evs.nil)) (by first | exact pick0 | exact pickS pick0 | exact pickS (pickS pick0) | exact pickS (pickS (pickS pick0)) | exact pickS (pickS (pickS (pickS pick0)))))) | refine goR ?_ | refine goP ?_ | apply PSeq.cons | apply PSeq.yes rfl rfl rfl | exact goW | fail)
    refine Fin.ret (Ent.trans (Ent.nilsl 1 (s := 6) rfl) (Ent.trans (Ent.nilsl 1 (s := 7) rfl) (Ent.take (by repeat' (first | exact Take.nil | refine Take.cons (by first | exact pick0 | exact pickS pick0 | exact pickS (pickS pick0) | exact pickS (pickS (pickS pick0)) | exact pickS (pickS (pickS (pickS pick0)))) ?_))))) (Outs.many rfl (OutL.cons (by first | exact OutE.tmp rfl | exact OutE.agg inferInstance rfl rfl | exact OutE.one inferInstance rfl) (OutL.cons (by first | exact OutE.tmp rfl | exact OutE.agg inferInstance rfl rfl | exact OutE.one inferInstance rfl) (OutL.cons (by first | exact OutE.tmp rfl | exact OutE.agg inferInstance rfl rfl | exact OutE.one inferInstance rfl) OutL.nil))) rfl) ⟨rfl, nil3 _⟩
  rw [hcw, hds] at he
  replace he : insE L w s = 0 := he
  rw [insO_ok he]
  clear he
  rw [hcw] at k2
  rw [hds] at k3
  repeat' (first | refine goH ?_ | refine goV ?_ | refine goB (fun b => ?_) | refine goC (fun ad cap => ?_) | refine goG ?_ | (refine Ops.k_guard ?_; first | (refine Ops.guard_dec rfl rfl (fun hc => ?_) (fun hc => ?_) <;> try (exfalso; omega)) | refine Ops.guard_split rfl rfl (fun hc => ?_) (fun hc => ?_)) | refine goI ?_ | (refine Cw.k_cond ?_; first | (refine Cw.cond_dec rfl (fun hc => ?_) (fun hc => ?_) <;> try (exfalso; omega)) | refine Cw.cond_bool rfl (fun hc => ?_) (fun hc => ?_)) | (refine Ops.k_calla ?_; first | (refine Ops.k_callf 44 ?_; refine Ops.callV k1 (Evs.cons rfl Evs.nil) rfl ?_) | (refine Ops.k_callf 73 ?_; refine Ops.callS k2 (Evs.cons rfl (Evs.cons rfl Evs.nil)) (by first | exact pick0 | exact pickS pick0 | exact pickS (pickS pick0) | exact pickS (pickS (pickS pick0)) | exact pickS (pickS (pickS (pickS pick0)))) rfl ?_) | (refine Ops.k_callf 73 ?_; refine Ops.callS k3 (Evs.cons rfl (Evs.cons rfl Evs.nil)) (by first | exact pick0 | exact pickS pick0 | exact pickS (pickS pick0) | exact pickS (pickS (pickS pick0)) | exact pickS (pickS (pickS (pickS pick0)))) rfl ?_)) | (apply OpW.k_call; first | (apply OpW.k_callf 44; exact OpW.callV k1 (Evs.cons rfl Evs.nil)) | (apply OpW.k_callf 73; exact OpW.callS k2 (Evs.cons rfl (Evs.cons rfl Evs.nil)) (by first | exact pick0 | exact pickS pick0 | exact pickS (pickS pick0) | exact pickS (pickS (pickS pick0)) | exact pickS (pickS (pickS (pickS pick0))))) | (apply OpW.k_callf 73; exact OpW.callS k3 (Evs.cons rfl (Evs.cons rfl Evs.nil)) (by first | exact pick0 | exact pickS pick0 | exact pickS (pickS pick0) | exact pickS (pickS (pickS pick0)) | exact pickS (pickS (pickS (pickS pick0)))))) | fail)
  rename Nat => bt
  refine Cw.region_X (fun ξ S => Chunk.box bt 68 [.sl 1 (intsR L)] :: (mkZ (S 1) (ξ 1) (intsR L).length 3 ++ mkZ (S 3) (ξ 3) (intsR L).length 3)) rfl (by decide +kernel) rfl (fun _ => rfl) ?_
  apply XSeq.w (by intro _ _ _; rfl)
  · intro ξ S h1 h2 h3 h4; exact goW
  apply XSeq.mkOwn (intsR L).length (fun _ => rfl) (fun _ => rfl) (by omega) (by omega)
  · intro ξ S h1 h3 ad cap
    show (Chunk.box bt 68 [.sl 1 (intsR L)] :: (mkZ true (.slice ad _ cap) (intsR L).length 3 ++ mkZ (S 3) (ξ 3) (intsR L).length 3)).Perm (_ :: Chunk.box bt 68 [.sl 1 (intsR L)] :: (mkZ (S 1) (ξ 1) (intsR L).length 3 ++ mkZ (S 3) (ξ 3) (intsR L).length 3))
    rw [h1]
    exact List.Perm.swap _ _ _
  apply XSeq.w (by intro _ _ _; rfl)
  · intro ξ S h1 h2 h3 h4; exact goW
  apply XSeq.mkOwn (intsR L).length (fun _ => rfl) (fun _ => rfl) (by omega) (by omega)
  · intro ξ S h1 h3 ad cap
    show (Chunk.box bt 68 [.sl 1 (intsR L)] :: (mkZ (S 1) (ξ 1) (intsR L).length 3 ++ mkZ true (.slice ad _ cap) (intsR L).length 3)).Perm (_ :: Chunk.box bt 68 [.sl 1 (intsR L)] :: (mkZ (S 1) (ξ 1) (intsR L).length 3 ++ mkZ (S 3) (ξ 3) (intsR L).length 3))
    rw [h1]
    exact (List.Perm.cons _ List.perm_middle).trans (List.Perm.swap _ _ _)
  apply XSeq.copy (m := 1) (s := 46) (by decide) (by intro _ _ _; rfl) (.inr rfl) (fun _ => rfl) (by decide)
  apply XSeq.copy (m := 3) (s := 48) (by decide) (by intro _ _ _; rfl) (.inr rfl) (fun _ => rfl) (by decide)
  refine XSeq.nil fun ξ hf => ?_
  have h4 : ξ 4 = ξ 1 := hf 4
  have h5 : ξ 5 = ξ 3 := hf 5
  obtain ⟨a6, c6, hb1⟩ : ∃ ad cap, ξ 1 = .slice ad (intsR L).length cap := hf 1
  obtain ⟨a7, c7, hb2⟩ : ∃ ad cap, ξ 3 = .slice ad (intsR L).length cap := hf 3
  rw [hb1] at h4
  rw [hb2] at h5
  obtain ⟨ξ, rfl⟩ := exists_upd h4
  replace h5 : ξ 5 = .slice a7 (intsR L).length c7 := h5
  replace hb1 : ξ 1 = .slice a6 (intsR L).length c6 := hb1
  replace hb2 : ξ 3 = .slice a7 (intsR L).length c7 := hb2
  obtain ⟨ξ, rfl⟩ := exists_upd h5
  replace hb1 : ξ 1 = .slice a6 (intsR L).length c6 := hb1
  replace hb2 : ξ 3 = .slice a7 (intsR L).length c7 := hb2
  obtain ⟨ξ, rfl⟩ := exists_upd hb1
  replace hb2 : ξ 3 = .slice a7 (intsR L).length c7 := hb2
  obtain ⟨ξ, rfl⟩ := exists_upd hb2
  clear hb1 hb2 h4 h5
  have hLw : (intsR L).length = w.length := hL.trans h2.symm
  rw [hLw]
  refine ⟨[(1, .ints w), (2, .ints s), (3, .ptr bt), (8, .int 0), (6, Tr.raw (.slice a6 w.length c6)), (7, Tr.raw (.slice a7 w.length c7))], [Chunk.box bt 68 [.sl 1 (intsR L)], Chunk.own a6 c6 1 3 (List.replicate w.length [Tr.raw (.int .i64 0)]), Chunk.own a7 c7 1 3 (List.replicate w.length [Tr.raw (.int .i64 0)])], Ent.sub (by repeat' (first | exact Sub.nil | refine Sub.cons rfl ?_)), ?_⟩
  rw [zeroRows]
  clear hLw k1 k2 k3
  have hwb := b6_ok hcw
  have hsb := b6_ok hds
  obtain ⟨hn, hsh⟩ := shares_ok t0
  clear hcw hds t0
  repeat' (first | refine goH ?_ | refine goV ?_ | refine goB (fun b => ?_) | refine goC (fun ad cap => ?_) | refine goG ?_ | (refine Ops.k_guard ?_; first | (refine Ops.guard_dec rfl rfl (fun hc => ?_) (fun hc => ?_) <;> try (exfalso; omega)) | refine Ops.guard_split rfl rfl (fun hc => ?_) (fun hc => ?_)) | refine goI ?_ | (refine Cw.k_cond ?_; first | (refine Cw.cond_dec rfl (fun hc => ?_) (fun hc => ?_) <;> try (exfalso; omega)) | refine Cw.cond_bool rfl (fun hc => ?_) (fun hc => ?_)) | (refine Ops.k_calla ?_; first | (refine Ops.k_callf 92 ?_; (refine Ops.callO (clone_int (intRows s) one1 (by omega)) (Evs.cons rfl Evs.nil) rfl (fun ad cap rows hr => ?_); subst hr; rw [hS]))) | refine goR ?_ | refine goP ?_ | apply PSeq.cons | apply PSeq.yes rfl rfl rfl | exact goW | fail)
  refine Cw.loopI [(1, _), (2, _), (3, _), (6, _), (7, _), (8, _), (12, _), (52, _)] _ (fun q e cc => ∃ (i : Nat) (r6 r7 r8 : List (List Tr)), q = w.length - i ∧ (i ≤ w.length ∧ r6 = intRows ((z1 w s).take i ++ (List.replicate w.length 0).drop i) ∧ r7 = intRows ((z3 w s).take i ++ (List.replicate w.length 0).drop i) ∧ r8 = intRows ((z2 w s).take i ++ s.drop i) ∧ r6.length = w.length ∧ r7.length = w.length ∧ r8.length = w.length) ∧ e = [(53, .int i)] ∧ cc = [Chunk.own a6 c6 1 3 r6, Chunk.own a7 c7 1 3 r7, Chunk.own ad cap 1 3 r8])
    ⟨_, _, _, (Ent.mkP (by repeat' (first | exact Sub.nil | refine Sub.cons rfl ?_)) (by repeat' (first | exact List.Perm.refl _ | refine Perm.cons' (by first | exact pick0 | exact pickS pick0 | exact pickS (pickS pick0) | exact pickS (pickS (pickS pick0)) | exact pickS (pickS (pickS (pickS pick0)))) ?_))), 0, _, _, _, rfl, ⟨by omega, take0_drop _ _, take0_drop _ _, take0_drop _ _, by rw [intRows_len, List.length_replicate], by rw [intRows_len, List.length_replicate], by omega⟩, rfl, rfl⟩ ?_
  rintro _ _ _ ⟨i, r6, r7, r8, rfl, ⟨hi, h6, h7, h8, q6, q7, q8⟩, rfl, rfl⟩
  by_cases hil : i < w.length
  · obtain ⟨a, ha⟩ := at_lt hil
    obtain ⟨b, hb⟩ := at_lt (l := s) (k := i) (by omega)
    have hab := hwb a (List.mem_of_getElem? ha)
    have hbb := hsb b (List.mem_of_getElem? hb)
    have hra := intRows_at ha
    have hrb := intRows_at hb
    have hz : (List.replicate w.length (0 : Int))[i]? = some 0 := by rw [List.getElem?_replicate, if_pos hil]
    have hl1 := z1_len (w := w) (s := s) (by omega)
    have hl2 := z2_len (w := w) (s := s) (by omega)
    have hl3 := z3_len (w := w) (s := s) (by omega)
    have m1 : r6[((i : Nat) : Int).toNat]? = some [.int 0] := by rw [h6]; exact intRows_at (mix_at (by rw [hl1, List.length_replicate]) hz)
    have m3 : r7[((i : Nat) : Int).toNat]? = some [.int 0] := by rw [h7]; exact intRows_at (mix_at (by rw [hl3, List.length_replicate]) hz)
    have m2 : r8[((i : Nat) : Int).toNat]? = some [.int b] := by rw [h8]; exact intRows_at (mix_at (by omega) hb)
    have e1 : r6.set ((i : Nat) : Int).toNat ([Tr.int 0].set 0 (Tr.int (min a b))) = intRows ((z1 w s).take (i + 1) ++ (List.replicate w.length 0).drop (i + 1)) := by rw [h6, setI, mix_set (by rw [hl1, List.length_replicate]) (z1_at ha hb)]
    have e3 : r7.set ((i : Nat) : Int).toNat ([Tr.int 0].set 0 (Tr.int (a - min a b))) = intRows ((z3 w s).take (i + 1) ++ (List.replicate w.length 0).drop (i + 1)) := by rw [h7, setI, mix_set (by rw [hl3, List.length_replicate]) (z3_at ha hb)]
    have e2 : r8.set ((i : Nat) : Int).toNat ([Tr.int b].set 0 (Tr.int (b - min a b))) = intRows ((z2 w s).take (i + 1) ++ s.drop (i + 1)) := by rw [h8, setI, mix_set (by omega) (z2_at ha hb)]
    clear hl1 hl2 hl3 hz
    obtain ⟨mn, hmn⟩ : ∃ mn, mn = min a b := ⟨_, rfl⟩
    rw [← hmn] at e1 e2 e3
    have hmb : 0 ≤ mn ∧ mn ≤ a ∧ mn ≤ b := by omega
    clear h6 h7 h8
    have n1 : (r6.set ((i : Nat) : Int).toNat ([Tr.int 0].set 0 (Tr.int mn)))[((i : Nat) : Int).toNat]? = some [.int mn] := by rw [List.getElem?_set_self (by rw [Int.toNat_natCast]; omega)]; rfl
    obtain ⟨s6, hs6⟩ := (⟨_, rfl⟩ : ∃ R, R = r6.set ((i : Nat) : Int).toNat ([Tr.int 0].set 0 (Tr.int mn)))
    rw [← hs6] at n1 e1
    have p6 : s6.length = w.length := by rw [hs6, List.length_set]; exact q6
    have hq : Unit → (s6.length = w.length ∧ r7.length = w.length ∧ r8.length = w.length) := fun _ => ⟨p6, q7, q8⟩
    clear hL hll
    repeat' (first | refine goH ?_ | (refine Ops.k_store ?_; first | (refine Ops.store_own1 rfl rfl (by first | exact pick0 | exact pickS pick0 | exact pickS (pickS pick0) | exact pickS (pickS (pickS pick0)) | exact pickS (pickS (pickS (pickS pick0)))) (by first | rfl | assumption | (simp [*]; done)) (by decide) ?_; rw [← hmn, ← hs6])) | refine goV ?_ | refine goB (fun b => ?_) | refine goC (fun ad cap => ?_) | refine goG ?_ | (refine Ops.k_guard ?_; first | (refine Ops.guard_dec rfl rfl (fun hc => ?_) (fun hc => ?_) <;> try (exfalso; omega)) | refine Ops.guard_split rfl rfl (fun hc => ?_) (fun hc => ?_)) | refine goI ?_ | (refine Cw.k_cond ?_; first | (refine Cw.cond_dec rfl (fun hc => ?_) (fun hc => ?_) <;> try (exfalso; omega)) | refine Cw.cond_bool rfl (fun hc => ?_) (fun hc => ?_)) | refine goR ?_ | refine goP ?_ | apply PSeq.cons | apply PSeq.yes rfl rfl rfl | exact goW | fail)
    exact ⟨_, _, _, (Ent.mk (by repeat' (first | exact Sub.nil | refine Sub.cons rfl ?_)) (by repeat' (first | exact Take.nil | refine Take.cons (by first | exact pick0 | exact pickS pick0 | exact pickS (pickS pick0) | exact pickS (pickS (pickS pick0)) | exact pickS (pickS (pickS (pickS pick0)))) ?_))), ⟨i + 1, _, _, _, rfl, ⟨by omega, e1, e3, e2, (hq ()).1, by rw [List.length_set]; exact (hq ()).2.1, by rw [List.length_set]; exact (hq ()).2.2⟩, rfl, rfl⟩, by omega⟩
  have hii : i = w.length := by omega
  subst hii
  have hz1 := z1_len (w := w) (s := s) (by omega)
  have hz2 := z2_len (w := w) (s := s) (by omega)
  have hz3 := z3_len (w := w) (s := s) (by omega)
  rw [List.drop_eq_nil_of_le (by rw [List.length_replicate]; exact Nat.le_refl _), List.append_nil, List.take_of_length_le (by rw [hz1]; exact Nat.le_refl _)] at h6
  rw [List.drop_eq_nil_of_le (by rw [List.length_replicate]; exact Nat.le_refl _), List.append_nil, List.take_of_length_le (by rw [hz3]; exact Nat.le_refl _)] at h7
  rw [List.drop_eq_nil_of_le (by rw [h3, h2]; exact Nat.le_refl _), List.append_nil, List.take_of_length_le (by rw [hz2]; exact Nat.le_refl _)] at h8
  clear hz1 hz2 hz3
  have hBD0 : BD w.length (1 + 31 * (0 : Nat)) (0 : Nat) 0 (z1 w s, z2 w s, z3 w s) := (BD.start (w := w) (s := s) (by omega) hwb hsb).mono (by omega)
  have hT0 : tabF (z1 w s, z2 w s, z3 w s) 0 (L.drop 0) = insF L w s := insF_eq L w s
  repeat' (first | refine goH ?_ | refine goV ?_ | refine goB (fun b => ?_) | refine goC (fun ad cap => ?_) | refine goG ?_ | (refine Ops.k_guard ?_; first | (refine Ops.guard_dec rfl rfl (fun hc => ?_) (fun hc => ?_) <;> try (exfalso; omega)) | refine Ops.guard_split rfl rfl (fun hc => ?_) (fun hc => ?_)) | refine goI ?_ | (refine Cw.k_cond ?_; first | (refine Cw.cond_dec rfl (fun hc => ?_) (fun hc => ?_) <;> try (exfalso; omega)) | refine Cw.cond_bool rfl (fun hc => ?_) (fun hc => ?_)) | refine goR ?_ | refine goP ?_ | apply PSeq.cons | apply PSeq.yes rfl rfl rfl | exact goW | fail)
  refine Cw.loopI [(3, _), (6, _), (7, _), (8, _), (12, _), (92, _)] _ (fun q e cc => ∃ (i : Nat) (st : St3) (r6 r7 r8 : List (List Tr)), q = w.length - i ∧ (i ≤ w.length ∧ r6 = intRows st.1 ∧ r7 = intRows st.2.2 ∧ r8 = intRows st.2.1 ∧ r6.length = w.length ∧ r7.length = w.length ∧ r8.length = w.length ∧ tabF st i (L.drop i) = insF L w s ∧ BD w.length (1 + 31 * i) i 0 st) ∧ e = [(93, .int i)] ∧ cc = [Chunk.own a6 c6 1 3 r6, Chunk.own a7 c7 1 3 r7, Chunk.own ad cap 1 3 r8])
    ⟨_, _, _, (Ent.mkP (by repeat' (first | exact Sub.nil | refine Sub.cons rfl ?_)) (by repeat' (first | exact List.Perm.refl _ | refine Perm.cons' (by first | exact pick0 | exact pickS pick0 | exact pickS (pickS pick0) | exact pickS (pickS (pickS pick0)) | exact pickS (pickS (pickS (pickS pick0)))) ?_))), 0, (z1 w s, z2 w s, z3 w s), r6, r7, r8, rfl, ⟨by omega, h6, h7, h8, q6, q7, q8, hT0, hBD0⟩, rfl, rfl⟩ ?_
  clear h6 h7 h8 hBD0 hT0 hwb hsb hW hS hc
  rintro _ _ _ ⟨i, st, s6, s7, s8, rfl, ⟨hi, h6, h7, h8, p6, p7, p8, hT, hD⟩, rfl, rfl⟩
  obtain ⟨A, B, C⟩ := st
  replace h6 : s6 = intRows A := h6
  replace h7 : s7 = intRows C := h7
  replace h8 : s8 = intRows B := h8
  have dl1 : A.length = w.length := hD.l1
  have dl2 : B.length = w.length := hD.l2
  have dl3 : C.length = w.length := hD.l3
  by_cases hil : i < w.length
  · obtain ⟨l, hl⟩ := at_lt (l := L) (k := i) (by omega)
    obtain ⟨hll, hlb⟩ := hsh i l hl
    have hrl := intsR_at hl
    have hlr := intRows_len l
    obtain ⟨f, hf⟩ := at_lt (l := C) (k := i) (by omega)
    have hfo := hD.o i f hf
    have hf0 : 0 ≤ f ∧ f ≤ 1000000 := ⟨by have := hfo.2.2.1 rfl; omega, hfo.1⟩
    have hrf : s7[((i : Nat) : Int).toNat]? = some [.int f] := by rw [h7]; exact intRows_at hf
    have hT2 := tab_in (st := (A, B, C)) hl hf hT
    clear hT hf hfo
    repeat' (first | refine goH ?_ | refine goV ?_ | refine goB (fun b => ?_) | refine goC (fun ad cap => ?_) | refine goG ?_ | (refine Ops.k_guard ?_; first | (refine Ops.guard_dec rfl rfl (fun hc => ?_) (fun hc => ?_) <;> try (exfalso; omega)) | refine Ops.guard_split rfl rfl (fun hc => ?_) (fun hc => ?_)) | refine goI ?_ | (refine Cw.k_cond ?_; first | (refine Cw.cond_dec rfl (fun hc => ?_) (fun hc => ?_) <;> try (exfalso; omega)) | refine Cw.cond_bool rfl (fun hc => ?_) (fun hc => ?_)) | refine goR ?_ | refine goP ?_ | apply PSeq.cons | apply PSeq.yes rfl rfl rfl | exact goW | fail)
    refine Cw.loopI [(3, _), (6, _), (7, _), (8, _), (12, _), (14, _), (15, _), (92, _), (93, _), (104, _), (105, _)] _ (fun q e cc => ∃ (j : Nat) (st : St3) (r6 r7 r8 : List (List Tr)), q = l.length - j ∧ (j ≤ l.length ∧ r6 = intRows st.1 ∧ r7 = intRows st.2.2 ∧ r8 = intRows st.2.1 ∧ r6.length = w.length ∧ r7.length = w.length ∧ r8.length = w.length ∧ tabF (rowF f i st j (l.drop j)) (i + 1) (L.drop (i + 1)) = insF L w s ∧ BD w.length (1 + 31 * i + j) i j st) ∧ e = [(106, .int j)] ∧ cc = [Chunk.own a6 c6 1 3 r6, Chunk.own a7 c7 1 3 r7, Chunk.own ad cap 1 3 r8])
      ⟨_, _, _, (Ent.mkP (by repeat' (first | exact Sub.nil | refine Sub.cons rfl ?_)) (by repeat' (first | exact List.Perm.refl _ | refine Perm.cons' (by first | exact pick0 | exact pickS pick0 | exact pickS (pickS pick0) | exact pickS (pickS (pickS pick0)) | exact pickS (pickS (pickS (pickS pick0)))) ?_))), 0, (A, B, C), s6, s7, s8, rfl, ⟨by omega, h6, h7, h8, p6, p7, p8, hT2, hD.start0⟩, rfl, rfl⟩ ?_
    clear h6 h7 h8 p6 p7 p8 hT2 hD dl1 dl2 dl3 hL hrf
    rintro _ _ _ ⟨j, st, s6, s7, s8, rfl, ⟨hj, h6, h7, h8, p6, p7, p8, hT, hD⟩, rfl, rfl⟩
    obtain ⟨A, B, C⟩ := st
    replace h6 : s6 = intRows A := h6
    replace h7 : s7 = intRows C := h7
    replace h8 : s8 = intRows B := h8
    have dl1 : A.length = w.length := hD.l1
    have dl2 : B.length = w.length := hD.l2
    have dl3 : C.length = w.length := hD.l3
    by_cases hjl : j < l.length
    · obtain ⟨sh, hsx⟩ := at_lt hjl
      have hrx := intRows_at hsx
      have hs0 := hlb sh (List.mem_of_getElem? hsx)
      obtain ⟨a, ha⟩ := at_lt (l := A) (k := j) (by omega)
      obtain ⟨b, hb⟩ := at_lt (l := B) (k := j) (by omega)
      obtain ⟨c, hc⟩ := at_lt (l := C) (k := i) (by omega)
      have hab := hD.s a (List.mem_of_getElem? ha)
      have hbb := hD.f b (List.mem_of_getElem? hb)
      obtain ⟨hc1, hc2, _, _⟩ := hD.o i c hc
      obtain ⟨hp1, hp2, hp3, hp4⟩ := share_bd hf0 hs0
      have hD2 := BD.step hD (by omega) (by omega) (sh := sh) ha hb hc hp3 hp4
      have hT2 := row_in hsx hT
      have hra : s6[((j : Nat) : Int).toNat]? = some [.int a] := by rw [h6]; exact intRows_at ha
      have hrb : s8[((j : Nat) : Int).toNat]? = some [.int b] := by rw [h8]; exact intRows_at hb
      have hrc : s7[((i : Nat) : Int).toNat]? = some [.int c] := by rw [h7]; exact intRows_at hc
      have e1 : s6.set ((j : Nat) : Int).toNat ([Tr.int a].set 0 (Tr.int (a + min (f * sh / 100) b))) = intRows (stepJ f i (A, B, C) j sh).1 := by rw [h6, setI, stepJ_eq (st := (A, B, C)) ha hb hc]
      have e2 : s8.set ((j : Nat) : Int).toNat ([Tr.int b].set 0 (Tr.int (b - min (f * sh / 100) b))) = intRows (stepJ f i (A, B, C) j sh).2.1 := by rw [h8, setI, stepJ_eq (st := (A, B, C)) ha hb hc]
      have e3 : s7.set ((i : Nat) : Int).toNat ([Tr.int c].set 0 (Tr.int (c - min (f * sh / 100) b))) = intRows (stepJ f i (A, B, C) j sh).2.2 := by rw [h7, setI, stepJ_eq (st := (A, B, C)) ha hb hc]
      have hcast : ((1 + 31 * i + (j + 1 : Nat) : Int)) = 1 + 31 * i + j + 1 := by omega
      rw [← hcast] at hD2
      clear hcast
      obtain ⟨mn, hmn⟩ : ∃ mn, mn = min (f * sh / 100) b := ⟨_, rfl⟩
      rw [← hmn] at e1 e2 e3
      have hmb : 0 ≤ mn ∧ mn ≤ 1000000 := by omega
      have hmu : Unit → min (f * sh / 100) b = mn := fun _ => hmn.symm
      clear h6 h7 h8 hT hD ha hb hc hmn
      repeat' (first | refine goH ?_ | (refine Ops.k_c_min ?_; first | (refine Ops.min2 rfl rfl rfl ?_; rw [hmu ()])) | refine goV ?_ | refine goB (fun b => ?_) | refine goC (fun ad cap => ?_) | refine goG ?_ | (refine Ops.k_guard ?_; first | (refine Ops.guard_dec rfl rfl (fun hc => ?_) (fun hc => ?_) <;> try (exfalso; omega)) | refine Ops.guard_split rfl rfl (fun hc => ?_) (fun hc => ?_)) | refine goI ?_ | (refine Cw.k_cond ?_; first | (refine Cw.cond_dec rfl (fun hc => ?_) (fun hc => ?_) <;> try (exfalso; omega)) | refine Cw.cond_bool rfl (fun hc => ?_) (fun hc => ?_)) | refine goR ?_ | refine goP ?_ | apply PSeq.cons | apply PSeq.yes rfl rfl rfl | exact goW | fail)
      exact ⟨_, _, _, (Ent.mk (by repeat' (first | exact Sub.nil | refine Sub.cons rfl ?_)) (by repeat' (first | exact Take.nil | refine Take.cons (by first | exact pick0 | exact pickS pick0 | exact pickS (pickS pick0) | exact pickS (pickS (pickS pick0)) | exact pickS (pickS (pickS (pickS pick0)))) ?_))), ⟨j + 1, stepJ f i (A, B, C) j sh, _, _, _, rfl, ⟨by omega, e1, e3, e2, by rw [List.length_set]; exact p6, by rw [List.length_set]; exact p7, by rw [List.length_set]; exact p8, hT2, hD2⟩, rfl, rfl⟩, by omega⟩
    · have hjj : j = l.length := by omega
      subst hjj
      have hT2 := row_out hT
      have hD2 : BD w.length (1 + 31 * (i + 1 : Nat)) (i + 1 : Nat) 0 (A, B, C) := (hD.mono (by omega)).next
      clear hT hD
      repeat' (first | refine goH ?_ | refine goV ?_ | refine goB (fun b => ?_) | refine goC (fun ad cap => ?_) | refine goG ?_ | (refine Ops.k_guard ?_; first | (refine Ops.guard_dec rfl rfl (fun hc => ?_) (fun hc => ?_) <;> try (exfalso; omega)) | refine Ops.guard_split rfl rfl (fun hc => ?_) (fun hc => ?_)) | refine goI ?_ | (refine Cw.k_cond ?_; first | (refine Cw.cond_dec rfl (fun hc => ?_) (fun hc => ?_) <;> try (exfalso; omega)) | refine Cw.cond_bool rfl (fun hc => ?_) (fun hc => ?_)) | refine goR ?_ | refine goP ?_ | apply PSeq.cons | apply PSeq.yes rfl rfl rfl | exact goW | fail)
      exact ⟨_, _, _, (Ent.mk (by repeat' (first | exact Sub.nil | refine Sub.cons rfl ?_)) (by repeat' (first | exact Take.nil | refine Take.cons (by first | exact pick0 | exact pickS pick0 | exact pickS (pickS pick0) | exact pickS (pickS (pickS pick0)) | exact pickS (pickS (pickS (pickS pick0)))) ?_))), ⟨i + 1, (A, B, C), _, _, _, rfl, ⟨by omega, h6, h7, h8, p6, p7, p8, hT2, hD2⟩, rfl, rfl⟩, by omega⟩
  have hii : i = w.length := by omega
  subst hii
  rw [List.drop_eq_nil_of_le (by omega)] at hT
  rw [tabF_nil] at hT
  have hst : (A, B, C) = insF L w s := hT
  rw [← hst]
  clear hT hst hD
  repeat' (first | refine goH ?_ | refine goV ?_ | refine goB (fun b => ?_) | refine goC (fun ad cap => ?_) | refine goG ?_ | (refine Ops.k_guard ?_; first | (refine Ops.guard_dec rfl rfl (fun hc => ?_) (fun hc => ?_) <;> try (exfalso; omega)) | refine Ops.guard_split rfl rfl (fun hc => ?_) (fun hc => ?_)) | refine goI ?_ | (refine Cw.k_cond ?_; first | (refine Cw.cond_dec rfl (fun hc => ?_) (fun hc => ?_) <;> try (exfalso; omega)) | refine Cw.cond_bool rfl (fun hc => ?_) (fun hc => ?_)) | refine goR ?_ | refine goP ?_ | apply PSeq.cons | apply PSeq.yes rfl rfl rfl | exact goW | fail)
  have u6 : Tr.raw (.slice a6 w.length c6) = Tr.raw (.slice a6 s6.length c6) := by rw [p6]
  have u7 : Tr.raw (.slice a7 w.length c7) = Tr.raw (.slice a7 s7.length c7) := by rw [p7]
  rw [u6, u7]
  clear u6 u7 q6 q7 p6 p7
  subst h6 h7 h8
  refine Fin.ret (Ent.trans (Ent.settle (s := 6) rfl (by first | exact pick0 | exact pickS pick0 | exact pickS (pickS pick0) | exact pickS (pickS (pickS pick0)) | exact pickS (pickS (pickS (pickS pick0)))) rfl) (Ent.trans (Ent.settle (s := 7) rfl (by first | exact pick0 | exact pickS pick0 | exact pickS (pickS pick0) | exact pickS (pickS (pickS pick0)) | exact pickS (pickS (pickS (pickS pick0)))) rfl) (Ent.take (by repeat' (first | exact Take.nil | refine Take.cons (by first | exact pick0 | exact pickS pick0 | exact pickS (pickS pick0) | exact pickS (pickS (pickS pick0)) | exact pickS (pickS (pickS (pickS pick0)))) ?_))))) (Outs.many rfl (OutL.cons (by first | exact OutE.tmp rfl | exact OutE.agg inferInstance rfl rfl | exact OutE.one inferInstance rfl) (OutL.cons (by first | exact OutE.tmp rfl | exact OutE.agg inferInstance rfl rfl | exact OutE.one inferInstance rfl) (OutL.cons (by first | exact OutE.tmp rfl | exact OutE.agg inferInstance rfl rfl | exact OutE.one inferInstance rfl) OutL.nil))) rfl) ⟨rfl, rfl⟩
end Lg
