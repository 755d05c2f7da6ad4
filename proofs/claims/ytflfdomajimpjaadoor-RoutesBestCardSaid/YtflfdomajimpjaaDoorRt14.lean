/- A part of the proof of a law of this seat: it adds no condition. By an AI agent. -/
import Derived.Test.YtflfdomajimpjaaDoorLgFree
import Derived.Test.YtflfdomajimpjaaDoorRt9
section
set_option linter.all false
set_option maxRecDepth 100000
set_option maxHeartbeats 8000000
namespace Lg
open Go Go.Proofs

def drvE (l : List Stop) (h : Spot) (s : Int) (o : List Int) : Int := if ordersE l.length o ≠ 0 then ordersE l.length o else match drv l h o h s [] 0 0 with
  | none => 16
  | some _ => 0
theorem drvU_tup (l : List Stop) (h : Spot) (s : Int) (o : List Int) : ∃ (bs : List Int) (e w q : Int), drvU l h s o = .tup [.tour bs e w q, .int (drvE l h s o)] := by
  unfold drvU drvE
  by_cases h1 : ordersE l.length o ≠ 0
  · rw [if_pos h1, if_pos h1]; exact ⟨_, _, _, _, rfl⟩
  · rw [if_neg h1, if_neg h1]
    cases drv l h o h s [] 0 0 with
    | none => exact ⟨_, _, _, _, rfl⟩
    | some r => obtain ⟨bs, e, w, q⟩ := r; exact ⟨_, _, _, _, rfl⟩
def insE2 (l : List Stop) (h : Spot) (s : Int) (o : List Int) (x : Int) : Tr :=
  if drvE l h s o ≠ 0 then .tup [.sl 1 [], .int (drvE l h s o)] else if x < 0 ∨ (l.length : Int) ≤ x then .tup [.sl 1 [], .int 1] else if x ∈ o then .tup [.sl 1 [], .int 6]
  else if (insG l h s o x 0 (o.length + 1) ([], 0, false)).2.2 = true then .tup [.ints (insG l h s o x 0 (o.length + 1) ([], 0, false)).1, .int 0] else .tup [.sl 1 [], .int 8]
attribute [local irreducible] intRows insAt drv drvU drvE ordersE
theorem insertedR_fn (h : Spot) (l : List Stop) (s x : Int) (o : List Int) (ht : tripE h l s = 0) (hxb : -1000000 ≤ x ∧ x ≤ 1000000) (hol : o.length ≤ 100) : PFn Tryd.prog 20 [.agg h.row, .stops l, .int s, .ints o, .int x] (· = insE2 l h s o x) := by
  have hoR := intRows_len o
  have hL : (l.map Stop.row).length = l.length := List.length_map _
  have k0 := driveOf_fn h l s o ht (by omega)
  obtain ⟨bs0, e0, w0', q0, hU⟩ := drvU_tup l h s o
  rw [hU] at k0
  clear hU
  unfold insE2 Spot.row at *
  by_cases h1 : drvE l h s o ≠ 0
  · rw [if_pos h1]
    generalize drvE l h s o = E at *
    refine PFn.mk (Spec.body Tryd.func20 rfl rfl (Tryd.ntmps20) rfl fun w0 own0 M => ?_)
    repeat' (first | refine goH ?_ | refine goV ?_ | refine goB (fun b => ?_) | refine goG ?_ | (refine Ops.k_guard ?_; first | (refine Ops.guard_dec rfl rfl (fun hc => ?_) (fun hc => ?_) <;> try (exfalso; omega)) | refine Ops.guard_split rfl rfl (fun hc => ?_) (fun hc => ?_)) | refine goI ?_ | (refine Cw.k_cond ?_; first | (refine Cw.cond_dec rfl (fun hc => ?_) (fun hc => ?_) <;> try (exfalso; omega)) | refine Cw.cond_bool rfl (fun hc => ?_) (fun hc => ?_)) | (refine Ops.k_calla ?_; first | (refine Ops.k_callf 29 ?_; refine Ops.callV k0 (Evs.cons rfl (Evs.cons rfl (Evs.cons rfl (Evs.cons rfl Evs.nil)))) rfl ?_)) | (apply OpW.k_call; first | (apply OpW.k_callf 29; exact OpW.callV k0 (Evs.cons rfl (Evs.cons rfl (Evs.cons rfl (Evs.cons rfl Evs.nil)))))) | refine goR ?_ | refine goP ?_ | apply PSeq.cons | apply PSeq.yes rfl rfl rfl | exact goW | fail)
    refine Fin.ret (Ent.trans (Ent.nilsl 1 (s := 10) rfl) (Ent.take goTk)) (Outs.many rfl (OutL.cons goOe (OutL.cons goOe OutL.nil)) rfl) ⟨rfl, rfl⟩
  rw [if_neg h1]
  have hE : drvE l h s o = 0 := by omega
  have ho0 : ordersE l.length o = 0 := by
    unfold drvE at hE
    by_cases h2 : ordersE l.length o ≠ 0
    · rw [if_pos h2] at hE; exact absurd hE h2
    · omega
  rw [hE] at k0
  clear h1 hE
  by_cases h2 : x < 0 ∨ (l.length : Int) ≤ x
  · rw [if_pos h2]
    refine PFn.mk (Spec.body Tryd.func20 rfl rfl (Tryd.ntmps20) rfl fun w0 own0 M => ?_)
    by_cases h3 : x < 0
    all_goals
      repeat' (first | refine goH ?_ | refine goV ?_ | refine goB (fun b => ?_) | refine goG ?_ | (refine Ops.k_guard ?_; first | (refine Ops.guard_dec rfl rfl (fun hc => ?_) (fun hc => ?_) <;> try (exfalso; omega)) | refine Ops.guard_split rfl rfl (fun hc => ?_) (fun hc => ?_)) | refine goI ?_ | (refine Cw.k_cond ?_; first | (refine Cw.cond_dec rfl (fun hc => ?_) (fun hc => ?_) <;> try (exfalso; omega)) | refine Cw.cond_bool rfl (fun hc => ?_) (fun hc => ?_)) | (refine Ops.k_calla ?_; first | (refine Ops.k_callf 29 ?_; refine Ops.callV k0 (Evs.cons rfl (Evs.cons rfl (Evs.cons rfl (Evs.cons rfl Evs.nil)))) rfl ?_)) | (apply OpW.k_call; first | (apply OpW.k_callf 29; exact OpW.callV k0 (Evs.cons rfl (Evs.cons rfl (Evs.cons rfl (Evs.cons rfl Evs.nil)))))) | refine goR ?_ | refine goP ?_ | apply PSeq.cons | apply PSeq.yes rfl rfl rfl | exact goW | fail)
      refine Fin.ret (Ent.trans (Ent.nilsl 1 (s := 10) rfl) (Ent.take goTk)) (Outs.many rfl (OutL.cons goOe (OutL.cons goOe OutL.nil)) rfl) ⟨rfl, rfl⟩
  rw [if_neg h2]
  have kM := contains_fn o x (by omega)
  by_cases h3 : x ∈ o
  · rw [if_pos h3]
    rw [decide_eq_true h3] at kM
    refine PFn.mk (Spec.body Tryd.func20 rfl rfl (Tryd.ntmps20) rfl fun w0 own0 M => ?_)
    repeat' (first | refine goH ?_ | refine goV ?_ | refine goB (fun b => ?_) | refine goG ?_ | (refine Ops.k_guard ?_; first | (refine Ops.guard_dec rfl rfl (fun hc => ?_) (fun hc => ?_) <;> try (exfalso; omega)) | refine Ops.guard_split rfl rfl (fun hc => ?_) (fun hc => ?_)) | refine goI ?_ | (refine Cw.k_cond ?_; first | (refine Cw.cond_dec rfl (fun hc => ?_) (fun hc => ?_) <;> try (exfalso; omega)) | refine Cw.cond_bool rfl (fun hc => ?_) (fun hc => ?_)) | (refine Ops.k_calla ?_; first | (refine Ops.k_callf 29 ?_; refine Ops.callV k0 (Evs.cons rfl (Evs.cons rfl (Evs.cons rfl (Evs.cons rfl Evs.nil)))) rfl ?_) | (refine Ops.k_callf 40 ?_; refine Ops.callV kM (Evs.cons rfl (Evs.cons rfl Evs.nil)) rfl ?_)) | (apply OpW.k_call; first | (apply OpW.k_callf 29; exact OpW.callV k0 (Evs.cons rfl (Evs.cons rfl (Evs.cons rfl (Evs.cons rfl Evs.nil))))) | (apply OpW.k_callf 40; exact OpW.callV kM (Evs.cons rfl (Evs.cons rfl Evs.nil)))) | refine goR ?_ | refine goP ?_ | apply PSeq.cons | apply PSeq.yes rfl rfl rfl | exact goW | fail)
    refine Fin.ret (Ent.trans (Ent.nilsl 1 (s := 10) rfl) (Ent.take goTk)) (Outs.many rfl (OutL.cons goOe (OutL.cons goOe OutL.nil)) rfl) ⟨rfl, rfl⟩
  rw [if_neg h3]
  rw [decide_eq_false h3] at kM
  have kC := clone_int (intRows o) (intRows_k o) (by omega)
  have hst := (stops_ok (trip_ok ht).1).2
  have hhb := (trip_ok ht).2.1
  obtain ⟨S, hS⟩ : ∃ S, S = insG l h s o x 0 (o.length + 1) ([], 0, false) := ⟨_, rfl⟩
  rw [← hS]
  refine PFn.mk (Spec.body Tryd.func20 rfl rfl (Tryd.ntmps20) rfl fun w0 own0 M => ?_)
  repeat' (first | refine goH ?_ | refine goV ?_ | refine goB (fun b => ?_) | refine goG ?_ | (refine Ops.k_guard ?_; first | (refine Ops.guard_dec rfl rfl (fun hc => ?_) (fun hc => ?_) <;> try (exfalso; omega)) | refine Ops.guard_split rfl rfl (fun hc => ?_) (fun hc => ?_)) | refine goI ?_ | (refine Cw.k_cond ?_; first | (refine Cw.cond_dec rfl (fun hc => ?_) (fun hc => ?_) <;> try (exfalso; omega)) | refine Cw.cond_bool rfl (fun hc => ?_) (fun hc => ?_)) | (refine Ops.k_calla ?_; first | (refine Ops.k_callf 29 ?_; refine Ops.callV k0 (Evs.cons rfl (Evs.cons rfl (Evs.cons rfl (Evs.cons rfl Evs.nil)))) rfl ?_) | (refine Ops.k_callf 40 ?_; refine Ops.callV kM (Evs.cons rfl (Evs.cons rfl Evs.nil)) rfl ?_)) | (apply OpW.k_call; first | (apply OpW.k_callf 29; exact OpW.callV k0 (Evs.cons rfl (Evs.cons rfl (Evs.cons rfl (Evs.cons rfl Evs.nil))))) | (apply OpW.k_callf 40; exact OpW.callV kM (Evs.cons rfl (Evs.cons rfl Evs.nil)))) | refine goR ?_ | refine goP ?_ | apply PSeq.cons | apply PSeq.yes rfl rfl rfl | exact goW | fail)
  refine Cw.ent (Ent.nilsl 1 (s := 14) rfl) ?_
  refine Cw.loopI [(1, _), (2, _), (3, _), (4, _), (5, _), (44, _)] _ (fun z e cc => ∃ (k : Nat) (bst : List Int) (rows : List (List Tr)) (w v : Int) (f : Bool), z = o.length + 1 - k ∧ (k ≤ o.length + 1 ∧ rows = intRows bst ∧ S = insG l h s o x k (o.length + 1 - k) (bst, w, f) ∧ (f = true → 0 ≤ w ∧ v = w) ∧ (f = false → v = -1)) ∧ e = [(14, .sl 1 rows), (15, .int v), (45, .int k)] ∧ cc = [])
    ⟨_, _, _, (Ent.mkP goSub goPm), 0, [], [], 0, -1, false, rfl, ⟨by omega, intRows_nil.symm, by rw [Nat.sub_zero]; exact hS, fun h => (nomatch h), fun _ => rfl⟩, rfl, rfl⟩ ?_
  clear hS
  rintro _ _ _ ⟨k, bst, _, w, v, f, rfl, ⟨hk, rfl, hV, hf1, hf2⟩, rfl, rfl⟩
  by_cases hkl : k < o.length + 1
  rotate_left
  · rw [insG_end hkl] at hV
    rw [hV]
    clear hV hst
    cases f
    · have hv := hf2 rfl
      subst hv
      rw [if_neg (by simp)]
      repeat' (first | refine goH ?_ | refine goV ?_ | refine goB (fun b => ?_) | refine goG ?_ | (refine Ops.k_guard ?_; first | (refine Ops.guard_dec rfl rfl (fun hc => ?_) (fun hc => ?_) <;> try (exfalso; omega)) | refine Ops.guard_split rfl rfl (fun hc => ?_) (fun hc => ?_)) | refine goI ?_ | (refine Cw.k_cond ?_; first | (refine Cw.cond_dec rfl (fun hc => ?_) (fun hc => ?_) <;> try (exfalso; omega)) | refine Cw.cond_bool rfl (fun hc => ?_) (fun hc => ?_)) | refine goR ?_ | refine goP ?_ | apply PSeq.cons | apply PSeq.yes rfl rfl rfl | exact goW | fail)
      refine Fin.ret (Ent.trans (Ent.nilsl 1 (s := 10) rfl) (Ent.take goTk)) (Outs.many rfl (OutL.cons goOe (OutL.cons goOe OutL.nil)) rfl) ⟨rfl, rfl⟩
    · obtain ⟨hw0, hvw⟩ := hf1 rfl
      rw [if_pos rfl]
      repeat' (first | refine goH ?_ | refine goV ?_ | refine goB (fun b => ?_) | refine goG ?_ | (refine Ops.k_guard ?_; first | (refine Ops.guard_dec rfl rfl (fun hc => ?_) (fun hc => ?_) <;> try (exfalso; omega)) | refine Ops.guard_split rfl rfl (fun hc => ?_) (fun hc => ?_)) | refine goI ?_ | (refine Cw.k_cond ?_; first | (refine Cw.cond_dec rfl (fun hc => ?_) (fun hc => ?_) <;> try (exfalso; omega)) | refine Cw.cond_bool rfl (fun hc => ?_) (fun hc => ?_)) | refine goR ?_ | refine goP ?_ | apply PSeq.cons | apply PSeq.yes rfl rfl rfl | exact goW | fail)
      refine Fin.ret (Ent.take goTk) (Outs.many rfl (OutL.cons goOe (OutL.cons goOe OutL.nil)) rfl) ⟨rfl, rfl⟩
  rw [insG_step hkl] at hV
  have hil := insAt_len (o := o) (i := k) (x := x) (by omega)
  have hir := (intRows_len (insAt o k x)).trans hil
  have kD := driveOf_fn h l s (insAt o k x) ht (by omega)
  have hoz := insAt_ok (i := k) ho0 (show 0 ≤ x ∧ x < l.length by omega) h3
  have hlen : (intRows o).length + 1 = (intRows (insAt o k x)).length := by rw [hir, hoR]
  have kI := fun (ad : Option Addr) (cap : Nat) => insert_int (n := (intRows o).length) (j := k) (ad := ad) (cap := cap) (intRows o) [Tr.int x] rfl (by omega) (by omega)
  rw [insRow] at kI
  unfold insS at hV
  unfold drvU at kD
  rw [if_neg (by omega)] at kD
  unfold Spot.row at kD
  repeat' (first | refine goH ?_ | refine goV ?_ | refine goB (fun b => ?_) | refine goG ?_ | (refine Ops.k_guard ?_; first | (refine Ops.guard_dec rfl rfl (fun hc => ?_) (fun hc => ?_) <;> try (exfalso; omega)) | refine Ops.guard_split rfl rfl (fun hc => ?_) (fun hc => ?_)) | refine goI ?_ | (refine Cw.k_cond ?_; first | (refine Cw.cond_dec rfl (fun hc => ?_) (fun hc => ?_) <;> try (exfalso; omega)) | refine Cw.cond_bool rfl (fun hc => ?_) (fun hc => ?_)) | refine goR ?_ | refine goP ?_ | apply PSeq.cons | apply PSeq.yes rfl rfl rfl | exact goW | fail)
  refine Ops.k_calla ?_
  refine Ops.callO kC (Evs.cons rfl Evs.nil) rfl (fun ad cap rows hr => ?_)
  subst hr
  repeat' (first | refine goH ?_ | refine goV ?_ | refine goB (fun b => ?_) | refine goG ?_ | (refine Ops.k_guard ?_; first | (refine Ops.guard_dec rfl rfl (fun hc => ?_) (fun hc => ?_) <;> try (exfalso; omega)) | refine Ops.guard_split rfl rfl (fun hc => ?_) (fun hc => ?_)) | refine goI ?_ | (refine Cw.k_cond ?_; first | (refine Cw.cond_dec rfl (fun hc => ?_) (fun hc => ?_) <;> try (exfalso; omega)) | refine Cw.cond_bool rfl (fun hc => ?_) (fun hc => ?_)) | refine goR ?_ | refine goP ?_ | apply PSeq.cons | apply PSeq.yes rfl rfl rfl | exact goW | fail)
  refine Ops.k_calla ?_
  refine Ops.call (kI _ _) (Evs.cons rfl (Evs.cons rfl (Evs.cons rfl Evs.nil))) goPm rfl ?_
  rintro y cs' ⟨ad', cap', rfl, rfl⟩
  clear kI
  repeat' (first | refine goH ?_ | ((fail_if_success refine Ops.k_load ?_); refine goV ?_) | ((fail_if_success refine Ops.k_load ?_); refine goB (fun b => ?_)) | refine goG ?_ | (refine Ops.k_guard ?_; first | (refine Ops.guard_dec rfl rfl (fun hc => ?_) (fun hc => ?_) <;> try (exfalso; omega)) | refine Ops.guard_split rfl rfl (fun hc => ?_) (fun hc => ?_)) | refine goI ?_ | (refine Cw.k_cond ?_; first | (refine Cw.cond_dec rfl (fun hc => ?_) (fun hc => ?_) <;> try (exfalso; omega)) | refine Cw.cond_bool rfl (fun hc => ?_) (fun hc => ?_)) | refine goR ?_ | refine goP ?_ | apply PSeq.cons | apply PSeq.yes rfl rfl rfl | exact goW | fail)
  refine Ops.ent (Ent.settle (s := 17) rfl goPk hlen) ?_
  clear hir hlen hoz
  cases hD : drv l h (insAt o k x) h s [] 0 0 with
  | none =>
    rw [hD] at hV kD
    unfold drvV at kD
    simp only at hV kD
    clear hst
    repeat' (first | refine goH ?_ | refine goV ?_ | refine goB (fun b => ?_) | refine goG ?_ | (refine Ops.k_guard ?_; first | (refine Ops.guard_dec rfl rfl (fun hc => ?_) (fun hc => ?_) <;> try (exfalso; omega)) | refine Ops.guard_split rfl rfl (fun hc => ?_) (fun hc => ?_)) | refine goI ?_ | (refine Cw.k_cond ?_; first | (refine Cw.cond_dec rfl (fun hc => ?_) (fun hc => ?_) <;> try (exfalso; omega)) | refine Cw.cond_bool rfl (fun hc => ?_) (fun hc => ?_)) | (refine Ops.k_calla ?_; first | (refine Ops.k_callf 29 ?_; refine Ops.callV kD (Evs.cons rfl (Evs.cons rfl (Evs.cons rfl (Evs.cons rfl Evs.nil)))) rfl ?_)) | (apply OpW.k_call; first | (apply OpW.k_callf 29; exact OpW.callV kD (Evs.cons rfl (Evs.cons rfl (Evs.cons rfl (Evs.cons rfl Evs.nil)))))) | refine goR ?_ | refine goP ?_ | apply PSeq.cons | apply PSeq.yes rfl rfl rfl | exact goW | fail)
    exact ⟨_, _, _, (Ent.mk goSub goTk), ⟨k + 1, _, _, _, _, _, rfl, ⟨by omega, rfl, hV, hf1, hf2⟩, rfl, rfl⟩, by omega⟩
  | some r =>
    obtain ⟨bs, e, w2, q⟩ := r
    have hw2 := drv_ge hst hhb _ _ _ _ _ _ hhb hD
    rw [hD] at hV kD
    unfold drvV at kD
    simp only at hV kD
    clear hst
    cases f
    · have hv := hf2 rfl
      rw [if_pos (.inl rfl)] at hV
      repeat' (first | refine goH ?_ | refine goV ?_ | refine goB (fun b => ?_) | refine goG ?_ | (refine Ops.k_guard ?_; first | (refine Ops.guard_dec rfl rfl (fun hc => ?_) (fun hc => ?_) <;> try (exfalso; omega)) | refine Ops.guard_split rfl rfl (fun hc => ?_) (fun hc => ?_)) | refine goI ?_ | (refine Cw.k_cond ?_; first | (refine Cw.cond_dec rfl (fun hc => ?_) (fun hc => ?_) <;> try (exfalso; omega)) | refine Cw.cond_bool rfl (fun hc => ?_) (fun hc => ?_)) | (refine Ops.k_calla ?_; first | (refine Ops.k_callf 29 ?_; refine Ops.callV kD (Evs.cons rfl (Evs.cons rfl (Evs.cons rfl (Evs.cons rfl Evs.nil)))) rfl ?_)) | (apply OpW.k_call; first | (apply OpW.k_callf 29; exact OpW.callV kD (Evs.cons rfl (Evs.cons rfl (Evs.cons rfl (Evs.cons rfl Evs.nil)))))) | refine goR ?_ | refine goP ?_ | apply PSeq.cons | apply PSeq.yes rfl rfl rfl | exact goW | fail)
      exact ⟨_, _, _, (Ent.mk goSub goTk), ⟨k + 1, _, _, _, _, _, rfl, ⟨by omega, rfl, hV, fun _ => ⟨hw2, rfl⟩, fun h => (nomatch h)⟩, rfl, rfl⟩, by omega⟩
    · obtain ⟨hw0, hvw⟩ := hf1 rfl
      by_cases hw : w2 < w
      · rw [if_pos (.inr hw)] at hV
        repeat' (first | refine goH ?_ | refine goV ?_ | refine goB (fun b => ?_) | refine goG ?_ | (refine Ops.k_guard ?_; first | (refine Ops.guard_dec rfl rfl (fun hc => ?_) (fun hc => ?_) <;> try (exfalso; omega)) | refine Ops.guard_split rfl rfl (fun hc => ?_) (fun hc => ?_)) | refine goI ?_ | (refine Cw.k_cond ?_; first | (refine Cw.cond_dec rfl (fun hc => ?_) (fun hc => ?_) <;> try (exfalso; omega)) | refine Cw.cond_bool rfl (fun hc => ?_) (fun hc => ?_)) | (refine Ops.k_calla ?_; first | (refine Ops.k_callf 29 ?_; refine Ops.callV kD (Evs.cons rfl (Evs.cons rfl (Evs.cons rfl (Evs.cons rfl Evs.nil)))) rfl ?_)) | (apply OpW.k_call; first | (apply OpW.k_callf 29; exact OpW.callV kD (Evs.cons rfl (Evs.cons rfl (Evs.cons rfl (Evs.cons rfl Evs.nil)))))) | refine goR ?_ | refine goP ?_ | apply PSeq.cons | apply PSeq.yes rfl rfl rfl | exact goW | fail)
        exact ⟨_, _, _, (Ent.mk goSub goTk), ⟨k + 1, _, _, _, _, _, rfl, ⟨by omega, rfl, hV, fun _ => ⟨hw2, rfl⟩, fun h => (nomatch h)⟩, rfl, rfl⟩, by omega⟩
      · rw [if_neg (fun h => h.elim (fun h => nomatch h) hw)] at hV
        repeat' (first | refine goH ?_ | refine goV ?_ | refine goB (fun b => ?_) | refine goG ?_ | (refine Ops.k_guard ?_; first | (refine Ops.guard_dec rfl rfl (fun hc => ?_) (fun hc => ?_) <;> try (exfalso; omega)) | refine Ops.guard_split rfl rfl (fun hc => ?_) (fun hc => ?_)) | refine goI ?_ | (refine Cw.k_cond ?_; first | (refine Cw.cond_dec rfl (fun hc => ?_) (fun hc => ?_) <;> try (exfalso; omega)) | refine Cw.cond_bool rfl (fun hc => ?_) (fun hc => ?_)) | (refine Ops.k_calla ?_; first | (refine Ops.k_callf 29 ?_; refine Ops.callV kD (Evs.cons rfl (Evs.cons rfl (Evs.cons rfl (Evs.cons rfl Evs.nil)))) rfl ?_)) | (apply OpW.k_call; first | (apply OpW.k_callf 29; exact OpW.callV kD (Evs.cons rfl (Evs.cons rfl (Evs.cons rfl (Evs.cons rfl Evs.nil)))))) | refine goR ?_ | refine goP ?_ | apply PSeq.cons | apply PSeq.yes rfl rfl rfl | exact goW | fail)
        exact ⟨_, _, _, (Ent.mk goSub goTk), ⟨k + 1, _, _, _, _, _, rfl, ⟨by omega, rfl, hV, hf1, hf2⟩, rfl, rfl⟩, by omega⟩
end Lg
end
section
set_option linter.all false
set_option maxRecDepth 100000
set_option maxHeartbeats 8000000
namespace Lg
open Go Go.Proofs

attribute [local irreducible] intRows insAt drv drvU drvE ordersE tripE insG
theorem insertE_fn (h : Spot) (l : List Stop) (s x : Int) (o : List Int) (ht : tripE h l s ≠ 0) (hl : l.length ≤ 1000) (hol : o.length ≤ 100) : PFn Tryd.prog 17 [.agg h.row, .stops l, .int s, .ints o, .int x] (· = .tup [.sl 1 [], .int (tripE h l s)]) := by
  have k0 := driveU_fn h l s o hl (by omega)
  unfold drvA at k0
  rw [if_pos ht] at k0
  unfold Spot.row at *
  generalize tripE h l s = E at *
  refine PFn.mk (Spec.body Tryd.func17 rfl rfl (Tryd.ntmps17) rfl fun w0 own0 M => ?_)
  repeat' (first | refine goH ?_ | refine goV ?_ | refine goB (fun b => ?_) | refine goI ?_ | (refine Cw.k_cond ?_; first | (refine Cw.cond_dec rfl (fun hc => ?_) (fun hc => ?_) <;> try (exfalso; omega)) | refine Cw.cond_bool rfl (fun hc => ?_) (fun hc => ?_)) | (refine Ops.k_calla ?_; first | (refine Ops.k_callf 28 ?_; refine Ops.callV k0 (Evs.cons rfl (Evs.cons rfl (Evs.cons rfl (Evs.cons rfl Evs.nil)))) rfl ?_)) | fail)
  refine Fin.ret (Ent.trans (Ent.nilsl 1 (s := 10) rfl) (Ent.take goTk)) (Outs.many rfl (OutL.cons goOe (OutL.cons goOe OutL.nil)) rfl) ⟨rfl, rfl⟩
theorem insertU_fn (h : Spot) (l : List Stop) (s x : Int) (o : List Int) (ht : tripE h l s = 0) (hxb : -1000000 ≤ x ∧ x ≤ 1000000) (hol : o.length ≤ 100) : PFn Tryd.prog 17 [.agg h.row, .stops l, .int s, .ints o, .int x] (· = insE2 l h s o x) := by
  have hL : (l.map Stop.row).length = l.length := List.length_map _
  have hl60 := (stops_ok (trip_ok ht).1).1
  have k0 := driveU_fn h l s o (by omega) (by omega)
  unfold drvA at k0
  rw [if_neg (by omega)] at k0
  obtain ⟨bs0, e0, w0', q0, hU⟩ := drvU_tup l h s o
  rw [hU] at k0
  clear hU
  unfold insE2 Spot.row at *
  by_cases h1 : drvE l h s o ≠ 0
  · rw [if_pos h1]
    generalize drvE l h s o = E at *
    refine PFn.mk (Spec.body Tryd.func17 rfl rfl (Tryd.ntmps17) rfl fun w0 own0 M => ?_)
    repeat' (first | refine goH ?_ | refine goV ?_ | refine goB (fun b => ?_) | refine goI ?_ | (refine Cw.k_cond ?_; first | (refine Cw.cond_dec rfl (fun hc => ?_) (fun hc => ?_) <;> try (exfalso; omega)) | refine Cw.cond_bool rfl (fun hc => ?_) (fun hc => ?_)) | (refine Ops.k_calla ?_; first | (refine Ops.k_callf 28 ?_; refine Ops.callV k0 (Evs.cons rfl (Evs.cons rfl (Evs.cons rfl (Evs.cons rfl Evs.nil)))) rfl ?_)) | fail)
    refine Fin.ret (Ent.trans (Ent.nilsl 1 (s := 10) rfl) (Ent.take goTk)) (Outs.many rfl (OutL.cons goOe (OutL.cons goOe OutL.nil)) rfl) ⟨rfl, rfl⟩
  rw [if_neg h1]
  have hE : drvE l h s o = 0 := by omega
  have ho0 : ordersE l.length o = 0 := by
    unfold drvE at hE
    by_cases h2 : ordersE l.length o ≠ 0
    · rw [if_pos h2] at hE; exact absurd hE h2
    · omega
  rw [hE] at k0
  clear h1 hE
  by_cases h2 : x < 0 ∨ (l.length : Int) ≤ x
  · rw [if_pos h2]
    have kO := out_t x 0 ((l.map Stop.row).length - 1 : Int) (by omega)
    refine PFn.mk (Spec.body Tryd.func17 rfl rfl (Tryd.ntmps17) rfl fun w0 own0 M => ?_)
    repeat' (first | refine goH ?_ | refine goV ?_ | refine goB (fun b => ?_) | refine goI ?_ | (refine Cw.k_cond ?_; first | (refine Cw.cond_dec rfl (fun hc => ?_) (fun hc => ?_) <;> try (exfalso; omega)) | refine Cw.cond_bool rfl (fun hc => ?_) (fun hc => ?_)) | (refine Ops.k_calla ?_; first | (refine Ops.k_callf 28 ?_; refine Ops.callV k0 (Evs.cons rfl (Evs.cons rfl (Evs.cons rfl (Evs.cons rfl Evs.nil)))) rfl ?_) | (refine Ops.k_callf 45 ?_; refine Ops.callV kO (Evs.cons rfl (Evs.cons rfl (Evs.cons rfl Evs.nil))) rfl ?_)) | fail)
    refine Fin.ret (Ent.trans (Ent.nilsl 1 (s := 10) rfl) (Ent.take goTk)) (Outs.many rfl (OutL.cons goOe (OutL.cons goOe OutL.nil)) rfl) ⟨rfl, rfl⟩
  rw [if_neg h2]
  have kO := out_f x 0 ((l.map Stop.row).length - 1 : Int) (by omega)
  have kM := contains_fn o x (by omega)
  by_cases h3 : x ∈ o
  · rw [if_pos h3]
    rw [decide_eq_true h3] at kM
    refine PFn.mk (Spec.body Tryd.func17 rfl rfl (Tryd.ntmps17) rfl fun w0 own0 M => ?_)
    repeat' (first | refine goH ?_ | refine goV ?_ | refine goB (fun b => ?_) | refine goI ?_ | (refine Cw.k_cond ?_; first | (refine Cw.cond_dec rfl (fun hc => ?_) (fun hc => ?_) <;> try (exfalso; omega)) | refine Cw.cond_bool rfl (fun hc => ?_) (fun hc => ?_)) | (refine Ops.k_calla ?_; first | (refine Ops.k_callf 28 ?_; refine Ops.callV k0 (Evs.cons rfl (Evs.cons rfl (Evs.cons rfl (Evs.cons rfl Evs.nil)))) rfl ?_) | (refine Ops.k_callf 45 ?_; refine Ops.callV kO (Evs.cons rfl (Evs.cons rfl (Evs.cons rfl Evs.nil))) rfl ?_) | (refine Ops.k_callf 40 ?_; refine Ops.callV kM (Evs.cons rfl (Evs.cons rfl Evs.nil)) rfl ?_)) | fail)
    refine Fin.ret (Ent.trans (Ent.nilsl 1 (s := 10) rfl) (Ent.take goTk)) (Outs.many rfl (OutL.cons goOe (OutL.cons goOe OutL.nil)) rfl) ⟨rfl, rfl⟩
  rw [if_neg h3]
  rw [decide_eq_false h3] at kM
  have kI := inserted_fn h l s x o ht (ordersE_ok ho0) (by omega) hol
  generalize insG l h s o x 0 (o.length + 1) ([], 0, false) = S at *
  obtain ⟨b, w, f⟩ := S
  simp only at kI ⊢
  cases f
  · rw [if_neg (by simp)]
    refine PFn.mk (Spec.body Tryd.func17 rfl rfl (Tryd.ntmps17) rfl fun w0 own0 M => ?_)
    repeat' (first | refine goH ?_ | refine goV ?_ | refine goB (fun b => ?_) | refine goI ?_ | (refine Cw.k_cond ?_; first | (refine Cw.cond_dec rfl (fun hc => ?_) (fun hc => ?_) <;> try (exfalso; omega)) | refine Cw.cond_bool rfl (fun hc => ?_) (fun hc => ?_)) | (refine Ops.k_calla ?_; first | (refine Ops.k_callf 28 ?_; refine Ops.callV k0 (Evs.cons rfl (Evs.cons rfl (Evs.cons rfl (Evs.cons rfl Evs.nil)))) rfl ?_) | (refine Ops.k_callf 45 ?_; refine Ops.callV kO (Evs.cons rfl (Evs.cons rfl (Evs.cons rfl Evs.nil))) rfl ?_) | (refine Ops.k_callf 40 ?_; refine Ops.callV kM (Evs.cons rfl (Evs.cons rfl Evs.nil)) rfl ?_) | (refine Ops.k_callf 46 ?_; refine Ops.callV kI (Evs.cons rfl (Evs.cons rfl (Evs.cons rfl Evs.nil))) rfl ?_)) | fail)
    refine Fin.ret (Ent.trans (Ent.nilsl 1 (s := 10) rfl) (Ent.take goTk)) (Outs.many rfl (OutL.cons goOe (OutL.cons goOe OutL.nil)) rfl) ⟨rfl, rfl⟩
  · rw [if_pos rfl]
    refine PFn.mk (Spec.body Tryd.func17 rfl rfl (Tryd.ntmps17) rfl fun w0 own0 M => ?_)
    repeat' (first | refine goH ?_ | refine goV ?_ | refine goB (fun b => ?_) | refine goI ?_ | (refine Cw.k_cond ?_; first | (refine Cw.cond_dec rfl (fun hc => ?_) (fun hc => ?_) <;> try (exfalso; omega)) | refine Cw.cond_bool rfl (fun hc => ?_) (fun hc => ?_)) | (refine Ops.k_calla ?_; first | (refine Ops.k_callf 28 ?_; refine Ops.callV k0 (Evs.cons rfl (Evs.cons rfl (Evs.cons rfl (Evs.cons rfl Evs.nil)))) rfl ?_) | (refine Ops.k_callf 45 ?_; refine Ops.callV kO (Evs.cons rfl (Evs.cons rfl (Evs.cons rfl Evs.nil))) rfl ?_) | (refine Ops.k_callf 40 ?_; refine Ops.callV kM (Evs.cons rfl (Evs.cons rfl Evs.nil)) rfl ?_) | (refine Ops.k_callf 46 ?_; refine Ops.callV kI (Evs.cons rfl (Evs.cons rfl (Evs.cons rfl Evs.nil))) rfl ?_)) | fail)
    refine Fin.ret (Ent.take goTk) (Outs.many rfl (OutL.cons goOe (OutL.cons goOe OutL.nil)) rfl) ⟨rfl, rfl⟩
end Lg
end
section
set_option linter.all false
set_option maxRecDepth 100000
set_option maxHeartbeats 8000000
namespace Lg
open Go Go.Proofs

def begB (n : Int) : Bool := decide (n < 0 ∨ 14400 < n)
def tourE (l : List Stop) (bs : List Int) : Int := if stopsE l ≠ 0 then stopsE l else if bs.length ≠ l.length then 3 else if bs.any begB = true then 1 else 0
theorem begR_fn (n : Int) : PFn Tryd.prog 63 [.int n] (· = .bool (begB n)) := by
  refine PFn.mk (Spec.body Tryd.func63 rfl rfl (Tryd.ntmps63) rfl fun w0 own0 M => ?_)
  by_cases h : n < 0
  all_goals
    repeat' (first | refine goH ?_ | refine goV ?_ | refine goG ?_ | (refine Ops.k_guard ?_; first | (refine Ops.guard_dec rfl rfl (fun hc => ?_) (fun hc => ?_) <;> try (exfalso; omega)) | refine Ops.guard_split rfl rfl (fun hc => ?_) (fun hc => ?_)) | refine goI ?_ | (refine Cw.k_cond ?_; first | (refine Cw.cond_dec rfl (fun hc => ?_) (fun hc => ?_) <;> try (exfalso; omega)) | refine Cw.cond_bool rfl (fun hc => ?_) (fun hc => ?_)) | fail)
    exact Fin.ret (Ent.take goTk) (Outs.one rfl rfl) ⟨rfl, congrArg Tr.bool (by simp [begB]; omega)⟩
theorem begD_fn (n : Int) : PFn Tryd.prog 58 [.int n] (· = .bool (begB n)) := by
  have k := out_fn n 0 14400
  refine PFn.mk (Spec.body Tryd.func58 rfl rfl (Tryd.ntmps58) rfl fun w0 own0 M => ?_)
  repeat' (first | refine goH ?_ | refine goV ?_ | refine goI ?_ | (refine Cw.k_cond ?_; first | (refine Cw.cond_dec rfl (fun hc => ?_) (fun hc => ?_) <;> try (exfalso; omega)) | refine Cw.cond_bool rfl (fun hc => ?_) (fun hc => ?_)) | (refine Ops.k_calla ?_; first | (refine Ops.k_callf 45 ?_; refine Ops.callV k (Evs.cons rfl (Evs.cons rfl (Evs.cons rfl Evs.nil))) rfl ?_)) | fail)
  exact Fin.ret (Ent.take goTk) (Outs.one rfl rfl) ⟨rfl, rfl⟩
attribute [local irreducible] intRows
theorem tourFault_fn (l : List Stop) (bs : List Int) (e w q : Int) (hl : l.length ≤ 1000) (hb : bs.length ≤ 1000) : PFn Tryd.prog 32 [.stops l, .tour bs e w q] (· = .int (tourE l bs)) := by
  have k1 := stopsFault_fn l hl
  have hL : (l.map Stop.row).length = l.length := List.length_map _
  have hbR := intRows_len bs
  have k2 : Spec Tryd.prog 57 [.ints bs, Tr.raw (.func (.func 63) #[] #[])] [] (fun r cs => r = .bool (bs.any begB) ∧ cs = []) := by
    unfold Tr.ints intRows
    exact containsFunc_int (cin := []) (caps := []) (g := 63) (p := begB) (l := bs) (by omega) (fun n _ => (begR_fn n).lend)
  unfold tourE
  refine PFn.mk (Spec.body Tryd.func32 rfl rfl (Tryd.ntmps32) rfl fun w0 own0 M => ?_)
  by_cases h1 : stopsE l ≠ 0
  · rw [if_pos h1]
    clear k2
    generalize stopsE l = z at *
    repeat' (first | refine goH ?_ | refine goV ?_ | refine goB (fun b => ?_) | refine goI ?_ | (refine Cw.k_cond ?_; first | (refine Cw.cond_dec rfl (fun hc => ?_) (fun hc => ?_) <;> try (exfalso; omega)) | refine Cw.cond_bool rfl (fun hc => ?_) (fun hc => ?_)) | (refine Ops.k_calla ?_; first | (refine Ops.k_callf 27 ?_; refine Ops.callV k1 (Evs.cons rfl Evs.nil) rfl ?_)) | fail)
    exact Fin.ret (Ent.take goTk) (Outs.one rfl rfl) ⟨rfl, rfl⟩
  rw [if_neg h1]
  rw [show stopsE l = 0 by omega] at k1
  by_cases h2 : bs.length ≠ l.length
  · rw [if_pos h2]
    clear k2
    repeat' (first | refine goH ?_ | refine goV ?_ | refine goB (fun b => ?_) | refine goI ?_ | (refine Cw.k_cond ?_; first | (refine Cw.cond_dec rfl (fun hc => ?_) (fun hc => ?_) <;> try (exfalso; omega)) | refine Cw.cond_bool rfl (fun hc => ?_) (fun hc => ?_)) | (refine Ops.k_calla ?_; first | (refine Ops.k_callf 27 ?_; refine Ops.callV k1 (Evs.cons rfl Evs.nil) rfl ?_)) | fail)
    exact Fin.ret (Ent.take goTk) (Outs.one rfl rfl) ⟨rfl, rfl⟩
  rw [if_neg h2]
  cases h3 : bs.any begB
  · rw [h3] at k2
    rw [if_neg (by simp)]
    repeat' (first | refine goH ?_ | refine goV ?_ | refine goB (fun b => ?_) | refine goI ?_ | (refine Cw.k_cond ?_; first | (refine Cw.cond_dec rfl (fun hc => ?_) (fun hc => ?_) <;> try (exfalso; omega)) | refine Cw.cond_bool rfl (fun hc => ?_) (fun hc => ?_)) | (refine Ops.k_calla ?_; first | (refine Ops.k_callf 27 ?_; refine Ops.callV k1 (Evs.cons rfl Evs.nil) rfl ?_) | (refine Ops.k_callf 57 ?_; (refine Ops.callS k2 (Evs.cons rfl (Evs.cons rfl Evs.nil)) goPm rfl ?_))) | fail)
    exact Fin.ret (Ent.take goTk) (Outs.one rfl rfl) ⟨rfl, rfl⟩
  · rw [h3] at k2
    rw [if_pos rfl]
    repeat' (first | refine goH ?_ | refine goV ?_ | refine goB (fun b => ?_) | refine goI ?_ | (refine Cw.k_cond ?_; first | (refine Cw.cond_dec rfl (fun hc => ?_) (fun hc => ?_) <;> try (exfalso; omega)) | refine Cw.cond_bool rfl (fun hc => ?_) (fun hc => ?_)) | (refine Ops.k_calla ?_; first | (refine Ops.k_callf 27 ?_; refine Ops.callV k1 (Evs.cons rfl Evs.nil) rfl ?_) | (refine Ops.k_callf 57 ?_; (refine Ops.callS k2 (Evs.cons rfl (Evs.cons rfl Evs.nil)) goPm rfl ?_))) | fail)
    exact Fin.ret (Ent.take goTk) (Outs.one rfl rfl) ⟨rfl, rfl⟩
end Lg
end
section
set_option linter.all false
set_option maxRecDepth 100000
set_option maxHeartbeats 8000000
namespace Lg
open Go Go.Proofs

/-! ### a part of a list turned around, in plain terms -/
def swp (L : List Int) (a b : Nat) : List Int := (L.set a (L.getD b 0)).set b (L.getD a 0)
theorem swp_len (L : List Int) (a b : Nat) : (swp L a b).length = L.length := by
  unfold swp
  rw [List.length_set, List.length_set]
theorem swp_perm {L : List Int} {a b : Nat} (ha : a < L.length) (hb : b < L.length) : (swp L a b).Perm L := by
  have h := Array.swap_perm (xs := L.toArray) (i := a) (j := b) (by simpa using ha) (by simpa using hb)
  have h2 := Array.perm_iff_toList_perm.1 h
  unfold swp
  rw [List.getD_eq_getElem?_getD, List.getD_eq_getElem?_getD, List.getElem?_eq_getElem ha, List.getElem?_eq_getElem hb]
  simpa [Array.swap] using h2
def revG (o n : Nat) : Nat → Nat → List Int → List Int
  | _, 0, L => L
  | i, f + 1, L => if 2 * i + 1 < n then revG o n (i + 1) f (swp L (o + i) (o + (n - 1 - i))) else L
theorem revG_step {o n i : Nat} {L : List Int} (h : 2 * i + 1 < n) : revG o n i (n - i) L = revG o n (i + 1) (n - (i + 1)) (swp L (o + i) (o + (n - 1 - i))) := by
  obtain ⟨m, hm⟩ : ∃ m, n - i = m + 1 := ⟨n - i - 1, by omega⟩
  rw [hm, revG, if_pos h, show n - (i + 1) = m by omega]
theorem revG_end {o n i : Nat} {L : List Int} (h : ¬ 2 * i + 1 < n) : revG o n i (n - i) L = L := by
  cases n - i with
  | zero => rfl
  | succ m => rw [revG, if_neg h]
theorem revG_len {o n : Nat} : ∀ (f i : Nat) (L : List Int), (revG o n i f L).length = L.length
  | 0, _, _ => rfl
  | f + 1, i, L => by
    rw [revG]
    split
    · rw [revG_len, swp_len]
    · rfl
theorem revG_perm {o n : Nat} : ∀ (f i : Nat) (L : List Int), o + n ≤ L.length → (revG o n i f L).Perm L
  | 0, _, _, _ => List.Perm.refl _
  | f + 1, i, L, h => by
    rw [revG]
    split
    · exact (revG_perm f (i + 1) _ (by rw [swp_len]; exact h)).trans (swp_perm (by omega) (by omega))
    · exact List.Perm.refl _
def revI (b : List Int) (i j : Nat) : List Int := revG i (j + 1 - i) 0 (j + 1 - i) b
theorem revI_len (b : List Int) (i j : Nat) : (revI b i j).length = b.length := revG_len _ _ _
theorem revI_perm {b : List Int} {i j : Nat} (h1 : i ≤ j) (h2 : j < b.length) : (revI b i j).Perm b := revG_perm _ _ _ (by omega)
theorem ordersE_perm {n : Nat} {o p : List Int} (h : p.Perm o) (ho : ordersE n o = 0) : ordersE n p = 0 := by
  obtain ⟨h1, h2⟩ := ordersE_iff.1 ho
  exact ordersE_iff.2 ⟨fun i hi => h1 i (h.mem_iff.1 hi), h.nodup_iff.2 h2⟩

/-! ### Improve, in plain terms -/
abbrev IS := List Int × Int
section imp
variable (l : List Stop) (h : Spot) (s : Int) (b : List Int)
def impS (i j : Nat) (st : IS) : IS := match drv l h (revI b i j) h s [] 0 0 with
  | none => st
  | some (_, _, w, _) => if w < st.2 then (revI b i j, w) else st
def impJ (i : Nat) : Nat → Nat → IS → IS
  | _, 0, st => st
  | j, n + 1, st => impJ i (j + 1) n (impS l h s b i j st)
def impI : Nat → Nat → IS → IS
  | _, 0, st => st
  | i, n + 1, st => impI (i + 1) n (impJ l h s b i (i + 1) (b.length - (i + 1)) st)
def impR : Nat → IS → IS
  | 0, st => st
  | n + 1, st => if (impI l h s st.1 0 st.1.length st).1 = st.1 then impI l h s st.1 0 st.1.length st else impR n (impI l h s st.1 0 st.1.length st)
end imp
section imp
variable {l : List Stop} {h : Spot} {s : Int} {b : List Int}
theorem impJ_step {i j : Nat} {st : IS} (hj : j < b.length) : impJ l h s b i j (b.length - j) st = impJ l h s b i (j + 1) (b.length - (j + 1)) (impS l h s b i j st) := by
  obtain ⟨m, hm⟩ : ∃ m, b.length - j = m + 1 := ⟨b.length - j - 1, by omega⟩
  rw [hm, impJ, show b.length - (j + 1) = m by omega]
theorem impJ_end {i j : Nat} {st : IS} (hj : ¬ j < b.length) : impJ l h s b i j (b.length - j) st = st := by
  rw [show b.length - j = 0 by omega, impJ]
theorem impI_step {i : Nat} {st : IS} (hi : i < b.length) : impI l h s b i (b.length - i) st = impI l h s b (i + 1) (b.length - (i + 1)) (impJ l h s b i (i + 1) (b.length - (i + 1)) st) := by
  obtain ⟨m, hm⟩ : ∃ m, b.length - i = m + 1 := ⟨b.length - i - 1, by omega⟩
  rw [hm, impI, show b.length - (i + 1) = m by omega]
theorem impI_end {i : Nat} {st : IS} (hi : ¬ i < b.length) : impI l h s b i (b.length - i) st = st := by
  rw [show b.length - i = 0 by omega, impI]
end imp
attribute [local irreducible] intRows drv drvU drvE ordersE
def impE (l : List Stop) (h : Spot) (s : Int) (o : List Int) (r : Int) : Tr :=
  if drvE l h s o ≠ 0 then .tup [.sl 1 [], .int 0, .int (drvE l h s o)] else if r < 0 ∨ 100 < r then .tup [.sl 1 [], .int 0, .int 1]
  else match drv l h o h s [] 0 0 with
    | none => .tup [.sl 1 [], .int 0, .int 16]
    | some (_, _, w, _) => .tup [.ints (impR l h s r.toNat (o, w)).1, .int (impR l h s r.toNat (o, w)).2, .int 0]
end Lg
end
section
set_option linter.all false
set_option maxRecDepth 100000
set_option maxHeartbeats 8000000
namespace Lg
open Go Go.Proofs

theorem int_set2 (l : List Int) (i : Nat) (v : Int) : (intRows l).set i [Tr.int v] = intRows (l.set i v) := by
  unfold intRows
  rw [List.map_set]
attribute [local irreducible] intRows revG swp
theorem reverse_int (L : List Int) (ad : Option Addr) (cap cap2 o n : Nat) (h : o + n ≤ L.length) (hl : L.length ≤ 1000000) :
    Spec Tryd.prog 47 [.qsl ad o 1 n cap2] [Chunk.own ad cap 1 3 (intRows L)] (fun r cs => r = Tr.tup [] ∧ cs = [Chunk.own ad cap 1 3 (intRows (revG o n 0 n L))]) := by
  obtain ⟨S, hS⟩ : ∃ S, S = revG o n 0 n L := ⟨_, rfl⟩
  rw [← hS]
  obtain ⟨m, hm⟩ : ∃ m, m = L.length := ⟨_, rfl⟩
  rw [← hm] at h hl
  refine Spec.body Tryd.func47 rfl rfl (Tryd.ntmps47) rfl fun w0 own0 M => ?_
  repeat' (first | refine goH ?_ | refine goV ?_ | (refine Ops.k_b_len ?_; first | refine Ops.len_q rfl rfl ?_) | refine goI ?_ | (refine Cw.k_cond ?_; first | (refine Cw.cond_dec rfl (fun hc => ?_) (fun hc => ?_) <;> try (exfalso; omega)) | refine Cw.cond_bool rfl (fun hc => ?_) (fun hc => ?_)) | refine goR ?_ | refine goP ?_ | apply PSeq.cons | apply PSeq.yes rfl rfl rfl | exact goW | fail)
  refine Cw.loopI [(0, _)] _ (fun q e cc => ∃ (i : Nat) (L : List Int), q = n - i ∧ (i ≤ n ∧ L.length = m ∧ S = revG o n i (n - i) L) ∧ e = [(2, .int i), (3, .int (n - 1 - i : Int))] ∧ cc = [Chunk.own ad cap 1 3 (intRows L)])
    ⟨_, _, _, by simpa using (Ent.mkP goSub goPm), 0, L, rfl, ⟨by omega, hm.symm, by rw [Nat.sub_zero]; exact hS⟩, rfl, rfl⟩ ?_
  clear hS hm
  rintro _ _ _ ⟨i, L, rfl, ⟨hi, hm, hV⟩, rfl, rfl⟩
  by_cases hc : 2 * i + 1 < n
  rotate_left
  · rw [revG_end hc] at hV
    subst hV
    repeat' (first | refine goH ?_ | refine goV ?_ | refine goI ?_ | (refine Cw.k_cond ?_; first | (refine Cw.cond_dec rfl (fun hc => ?_) (fun hc => ?_) <;> try (exfalso; omega)) | refine Cw.cond_bool rfl (fun hc => ?_) (fun hc => ?_)) | refine goR ?_ | refine goP ?_ | apply PSeq.cons | apply PSeq.yes rfl rfl rfl | exact goW | fail)
    exact Fin.norm (Ent.mkP goSub goPm) (Outs.zero rfl) ⟨rfl, rfl⟩
  rw [revG_step hc] at hV
  have hR := (intRows_len L).trans hm
  obtain ⟨x, hx⟩ := at_lt (l := L) (k := o + i) (by omega)
  obtain ⟨y, hy⟩ := at_lt (l := L) (k := o + (n - 1 - i)) (by omega)
  have r1 := intRows_at hx
  have r2 := intRows_at hy
  have r3 : ((intRows L).set (o + i) [Tr.int y])[o + (n - 1 - i)]? = some [Tr.int y] := by
    rw [List.getElem?_set_ne (by omega)]
    exact r2
  have e1 : ((intRows L).set (o + i) [Tr.int y]).set (o + (n - 1 - i)) [Tr.int x] = intRows (swp L (o + i) (o + (n - 1 - i))) := by
    rw [int_set2, int_set2]
    unfold swp
    rw [List.getD_eq_getElem?_getD, List.getD_eq_getElem?_getD, hx, hy]
    rfl
  have hl2 : (swp L (o + i) (o + (n - 1 - i))).length = m := by rw [swp_len]; exact hm
  have e2 : (n : Int) - 1 - i - 1 = (n : Int) - 1 - ((i + 1 : Nat) : Int) := by omega
  have e3 : (n : Int) - 1 - i = ((n - 1 - i : Nat) : Int) := by omega
  have hj : i < n - 1 - i ∧ n - 1 - i < n ∧ (n - 1 - i) + i + 1 = n := by omega
  rw [e3]
  clear e2 e3
  generalize n - 1 - i = j at *
  have hin : i < n := by omega
  have e4 : (j : Int) - 1 = (n : Int) - 1 - ((i + 1 : Nat) : Int) := by omega
  clear hc
  repeat' (first | refine goH ?_ | refine goV ?_ | refine goI ?_ | (refine Cw.k_cond ?_; first | (refine Cw.cond_dec rfl (fun hc => ?_) (fun hc => ?_) <;> try (exfalso; omega)) | refine Cw.cond_bool rfl (fun hc => ?_) (fun hc => ?_)) | refine goR ?_ | refine goP ?_ | apply PSeq.cons | apply PSeq.yes rfl rfl rfl | exact goW | fail)
  refine Cw.region_seqF (m := 13) [2, 3] rfl (by decide +kernel) rfl (fun a w d => FlRun.move rfl rfl rfl rfl (FlRun.move rfl rfl rfl rfl FlRun.nil)) ?_
  repeat' (first | refine goH ?_ | refine goV ?_ | (refine Ops.k_indexAddr ?_; first | refine Ops.indexAddr_subN rfl rfl goPk (by first | omega | (rw [List.length_set]; omega)) (by omega) rfl ?_) | refine goI ?_ | (refine Cw.k_cond ?_; first | (refine Cw.cond_dec rfl (fun hc => ?_) (fun hc => ?_) <;> try (exfalso; omega)) | refine Cw.cond_bool rfl (fun hc => ?_) (fun hc => ?_)) | refine NoP.norm ?_ | exact OpV.w (OpV.indexAddr_subN rfl rfl goPk (by omega) (by omega)) | refine goR ?_ | refine goP ?_ | apply PSeq.cons | apply PSeq.yes rfl rfl rfl | exact goW | fail)
  rw [e4]
  erw [e1]
  exact ⟨_, _, _, (Ent.mk goSub goTk), ⟨i + 1, _, rfl, ⟨by omega, hl2, hV⟩, rfl, rfl⟩, by omega⟩
end Lg
end
