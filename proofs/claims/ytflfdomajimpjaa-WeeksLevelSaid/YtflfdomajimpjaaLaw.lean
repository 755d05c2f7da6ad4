/- A part of the proof of a law of this seat: it adds no condition. By an AI agent. -/
import Derived.Test.YtflfdomajimpjaaFrame
import Derived.Test.YtflfdomajimpjaaWk3
section
set_option linter.all false
set_option maxRecDepth 100000
set_option maxHeartbeats 8000000
namespace Lg
open Go Go.Proofs

abbrev lvB (v : Nat) (J : List Int) (D : Nat) (ad : Option Addr) (n cap : Nat) (ad2 : Option Addr) (cap2 : Nat) (st : LSt) : Chunk := Chunk.box v 55 [.ints J, .int D, Tr.raw (.slice ad n cap), Tr.raw (.slice ad2 D cap2), .ints st.1, .int st.2]
attribute [local irreducible] intRows lev bump mxL
theorem give_fn (J : List Int) (D : Nat) (hD : 1 ≤ D ∧ D ≤ 7) (hJ : ∀ x ∈ J, 0 ≤ x ∧ x ≤ 10000) (hJl : J.length ≤ 8) : ∀ (n : Nat) (pre L : List Int) (st : LSt) (v : Nat) (ad : Option Addr) (cap : Nat) (ad2 : Option Addr) (cap2 : Nat), pre.length + n = J.length → L.length = D → (∀ y ∈ L, 0 ≤ y ∧ y ≤ (pre.length : Int) * 10000) → st.1.length ≤ 8 → (-1 ≤ st.2 ∧ st.2 ≤ 80000) →
    Spec Try.prog 33 [.ptr v, .int (mxL L)] [lvB v J D ad pre.length cap ad2 cap2 st, Chunk.own ad cap 1 3 (intRows pre), Chunk.own ad2 cap2 1 3 (intRows L)] (fun r cs => r = .tup [] ∧ ∃ ad' cap', cs = [lvB v J D ad' pre.length cap' ad2 cap2 (lev D (J.drop pre.length) pre L st), Chunk.own ad' cap' 1 3 (intRows pre), Chunk.own ad2 cap2 1 3 (intRows L)]) := by
  intro n
  induction n with
  | zero =>
    intro pre L st v ad cap ad2 cap2 hn hL hLb hb hm
    have hpl := intRows_len pre
    have hLl := (intRows_len L).trans hL
    have hJR := intRows_len J
    obtain ⟨b, m⟩ := st
    simp only at hb hm
    rw [List.drop_of_length_le (by omega)]
    have kC := cloneS_int (ad := ad) (cap := cap) (n := pre.length) (intRows pre) hpl.symm (by omega)
    by_cases hc : 0 ≤ m ∧ m ≤ mxL L
    · rw [lev_cut hc]
      refine Spec.body Try.func33 rfl rfl (Try.ntmps33) rfl fun w0 own0 M => ?_
      repeat' (first | refine goH ?_ | refine goV ?_ | refine goC (fun ad cap => ?_) | refine goG ?_ | (refine Ops.k_guard ?_; first | (refine Ops.guard_dec rfl rfl (fun hc => ?_) (fun hc => ?_) <;> try (exfalso; omega)) | refine Ops.guard_split rfl rfl (fun hc => ?_) (fun hc => ?_)) | refine goI ?_ | (refine Cw.k_cond ?_; first | (refine Cw.cond_dec rfl (fun hc => ?_) (fun hc => ?_) <;> try (exfalso; omega)) | refine Cw.cond_bool rfl (fun hc => ?_) (fun hc => ?_)) | refine goR ?_ | refine goP ?_ | apply PSeq.cons | apply PSeq.yes rfl rfl rfl | exact goW | fail)
      exact Fin.ret Ent.refl (Outs.zero rfl) ⟨rfl, _, _, rfl⟩
    · rw [lev_nil hc]
      refine Spec.body Try.func33 rfl rfl (Try.ntmps33) rfl fun w0 own0 M => ?_
      by_cases hm0 : 0 ≤ m
      all_goals
        repeat' (first | refine goH ?_ | refine goV ?_ | refine goC (fun ad cap => ?_) | refine goG ?_ | (refine Ops.k_guard ?_; first | (refine Ops.guard_dec rfl rfl (fun hc => ?_) (fun hc => ?_) <;> try (exfalso; omega)) | refine Ops.guard_split rfl rfl (fun hc => ?_) (fun hc => ?_)) | refine goI ?_ | (refine Cw.k_cond ?_; first | (refine Cw.cond_dec rfl (fun hc => ?_) (fun hc => ?_) <;> try (exfalso; omega)) | refine Cw.cond_bool rfl (fun hc => ?_) (fun hc => ?_)) | (refine Ops.k_calla ?_; first | (refine Ops.k_callf 39 ?_; (refine Ops.call kC (Evs.cons rfl Evs.nil) goPm rfl ?_; rintro y cs' ⟨rfl, rfl⟩))) | refine goR ?_ | refine goP ?_ | apply PSeq.cons | apply PSeq.yes rfl rfl rfl | exact goW | fail)
        exact Fin.ret (Ent.take (Take.cons goPk (Take.cons goPk (Take.cons goPk Take.nil)))) (Outs.zero rfl) ⟨rfl, _, _, rfl⟩
  | succ n ih =>
    intro pre L st v ad cap ad2 cap2 hn hL hLb hb hm
    have hpl := intRows_len pre
    have hLl := (intRows_len L).trans hL
    have hJR := intRows_len J
    by_cases hc : 0 ≤ st.2 ∧ st.2 ≤ mxL L
    · rw [lev_cut hc]
      obtain ⟨b, m⟩ := st
      simp only at hb hm hc
      refine Spec.body Try.func33 rfl rfl (Try.ntmps33) rfl fun w0 own0 M => ?_
      repeat' (first | refine goH ?_ | refine goV ?_ | refine goC (fun ad cap => ?_) | refine goG ?_ | (refine Ops.k_guard ?_; first | (refine Ops.guard_dec rfl rfl (fun hc => ?_) (fun hc => ?_) <;> try (exfalso; omega)) | refine Ops.guard_split rfl rfl (fun hc => ?_) (fun hc => ?_)) | refine goI ?_ | (refine Cw.k_cond ?_; first | (refine Cw.cond_dec rfl (fun hc => ?_) (fun hc => ?_) <;> try (exfalso; omega)) | refine Cw.cond_bool rfl (fun hc => ?_) (fun hc => ?_)) | refine goR ?_ | refine goP ?_ | apply PSeq.cons | apply PSeq.yes rfl rfl rfl | exact goW | fail)
      exact Fin.ret Ent.refl (Outs.zero rfl) ⟨rfl, _, _, rfl⟩
    obtain ⟨j, hj⟩ := at_lt (l := J) (k := pre.length) (by omega)
    have hjb := hJ j (List.mem_of_getElem? hj)
    have r1 := intRows_at hj
    rw [drop_at hj, lev_cons hc]
    have hbd := fun (d : Nat) (s : LSt) (h1 : s.1.length ≤ 8) (h2 : -1 ≤ s.2 ∧ s.2 ≤ 80000) => lev_bd (D := D) (J.drop (pre.length + 1)) (pre := pre ++ [(d : Int)]) (L := bump L d j) (st := s) (by rw [bump_len]; omega) (fun y hy => by have := bump_bd (d := (d : Int)) (x := j) hLb hjb (by omega) y hy; rw [List.length_append]; simp; omega) (fun x hx => hJ x (List.mem_of_mem_drop hx)) h1 (by rw [List.length_append, List.length_drop]; simp; omega) h2
    obtain ⟨F, hF⟩ : ∃ F : Nat → LSt → LSt, F = fun (d : Nat) (s : LSt) => lev D (J.drop (pre.length + 1)) (pre ++ [(d : Int)]) (bump L (d : Int) j) s := ⟨_, rfl⟩
    have hFd : ∀ (d : Nat) (s : LSt), lev D (J.drop (pre.length + 1)) (pre ++ [(d : Int)]) (bump L (d : Int) j) s = F d s := fun d s => by rw [hF]
    rw [← hF]
    simp only [hFd] at hbd
    clear hF
    obtain ⟨b, m⟩ := st
    simp only at hb hm hc
    refine Spec.body Try.func33 rfl rfl (Try.ntmps33) rfl fun w0 own0 M => ?_
    by_cases hm0 : 0 ≤ m
    all_goals
      repeat' (first | refine goH ?_ | refine goV ?_ | refine goC (fun ad cap => ?_) | refine goG ?_ | (refine Ops.k_guard ?_; first | (refine Ops.guard_dec rfl rfl (fun hc => ?_) (fun hc => ?_) <;> try (exfalso; omega)) | refine Ops.guard_split rfl rfl (fun hc => ?_) (fun hc => ?_)) | refine goI ?_ | (refine Cw.k_cond ?_; first | (refine Cw.cond_dec rfl (fun hc => ?_) (fun hc => ?_) <;> try (exfalso; omega)) | refine Cw.cond_bool rfl (fun hc => ?_) (fun hc => ?_)) | refine goR ?_ | refine goP ?_ | apply PSeq.cons | apply PSeq.yes rfl rfl rfl | exact goW | fail)
      refine Cw.loopI [(0, _), (1, _), (4, _), (48, _)] _ (fun q e cc => ∃ (k : Nat) (s : LSt) (ad3 : Option Addr) (cap3 : Nat), q = D - k ∧ (k ≤ D ∧ levF F 0 D (b, m) = levF F k (D - k) s ∧ s.1.length ≤ 8 ∧ (-1 ≤ s.2 ∧ s.2 ≤ 80000)) ∧ e = [(49, .int k)] ∧ cc = [lvB v J D ad3 pre.length cap3 ad2 cap2 s, Chunk.own ad3 cap3 1 3 (intRows pre), Chunk.own ad2 cap2 1 3 (intRows L)])
        ⟨_, _, _, (Ent.mkP goSub goPm), 0, (b, m), ad, cap, rfl, ⟨by omega, by rw [Nat.sub_zero], hb, hm⟩, rfl, rfl⟩ ?_
      rintro _ _ _ ⟨k, s, ad3, cap3, rfl, ⟨hk, hV, hs1, hs2⟩, rfl, rfl⟩
      by_cases hkD : k < D
      rotate_left
      · rw [levF_end hkD] at hV
        rw [hV]
        clear hV
        repeat' (first | refine goH ?_ | refine goV ?_ | refine goC (fun ad cap => ?_) | refine goG ?_ | (refine Ops.k_guard ?_; first | (refine Ops.guard_dec rfl rfl (fun hc => ?_) (fun hc => ?_) <;> try (exfalso; omega)) | refine Ops.guard_split rfl rfl (fun hc => ?_) (fun hc => ?_)) | refine goI ?_ | (refine Cw.k_cond ?_; first | (refine Cw.cond_dec rfl (fun hc => ?_) (fun hc => ?_) <;> try (exfalso; omega)) | refine Cw.cond_bool rfl (fun hc => ?_) (fun hc => ?_)) | refine goR ?_ | refine goP ?_ | apply PSeq.cons | apply PSeq.yes rfl rfl rfl | exact goW | fail)
        exact Fin.norm Ent.refl (Outs.zero rfl) ⟨rfl, _, _, rfl⟩
      rw [levF_step hkD] at hV
      obtain ⟨vd, hvd⟩ := at_lt (l := L) (k := k) (by omega)
      have hvb := hLb vd (List.mem_of_getElem? hvd)
      have r2 := intRows_at hvd
      have hmx := mx_bump hvd hjb.1
      obtain ⟨hb1, hb2⟩ := bump_back (j := j) hvd
      have hset : L.set k (vd + j) = bump L k j := by
        have := bump_at (d := (k : Int)) (x := j) (by rw [Int.toNat_natCast]; exact hvd)
        rw [this, Int.toNat_natCast]
      have r3 := intRows_at hb1
      have hpk : (pre ++ [(k : Int)]).length = pre.length + 1 := by rw [List.length_append]; rfl
      have kG := fun (ad' : Option Addr) (cap' : Nat) => ih (pre ++ [(k : Int)]) (bump L k j) s v ad' cap' ad2 cap2 (by rw [hpk]; omega) (by rw [bump_len]; exact hL) (fun y hy => by have := bump_bd (d := (k : Int)) (x := j) hLb hjb (by omega) y hy; rw [hpk]; omega) hs1 hs2
      rw [hpk, hFd, ← hmx] at kG
      obtain ⟨hF1, hF2⟩ := hbd k s hs1 hs2
      have htk : (intRows (pre ++ [(k : Int)])).take pre.length = intRows pre := by rw [← intRows_snoc, List.take_append_of_le_length (by omega), List.take_of_length_le (by omega)]
      have hbl := (intRows_len (bump L k j)).trans ((bump_len L k j).trans hL)
      have hpl2 := (intRows_len (pre ++ [(k : Int)])).trans hpk
      generalize F k s = s2 at *
      clear hvd hb1 ih hbd hFd hj
      repeat' (first | refine goH ?_ | ((fail_if_success refine Ops.k_c_append ?_); refine goV ?_) | ((fail_if_success refine Ops.k_c_append ?_); refine goC (fun ad cap => ?_)) | refine goG ?_ | (refine Ops.k_guard ?_; first | (refine Ops.guard_dec rfl rfl (fun hc => ?_) (fun hc => ?_) <;> try (exfalso; omega)) | refine Ops.guard_split rfl rfl (fun hc => ?_) (fun hc => ?_)) | refine goI ?_ | (refine Cw.k_cond ?_; first | (refine Cw.cond_dec rfl (fun hc => ?_) (fun hc => ?_) <;> try (exfalso; omega)) | refine Cw.cond_bool rfl (fun hc => ?_) (fun hc => ?_)) | refine goR ?_ | refine goP ?_ | apply PSeq.cons | apply PSeq.yes rfl rfl rfl | exact goW | fail)
      erw [int_set, hset]
      repeat' (first | refine goH ?_ | refine goV ?_ | refine goC (fun ad cap => ?_) | refine goG ?_ | (refine Ops.k_guard ?_; first | (refine Ops.guard_dec rfl rfl (fun hc => ?_) (fun hc => ?_) <;> try (exfalso; omega)) | refine Ops.guard_split rfl rfl (fun hc => ?_) (fun hc => ?_)) | refine goI ?_ | (refine Cw.k_cond ?_; first | (refine Cw.cond_dec rfl (fun hc => ?_) (fun hc => ?_) <;> try (exfalso; omega)) | refine Cw.cond_bool rfl (fun hc => ?_) (fun hc => ?_)) | refine goR ?_ | refine goP ?_ | apply PSeq.cons | apply PSeq.yes rfl rfl rfl | exact goW | fail)
      rw [intRows_snoc]
      erw [hpl2]
      refine Ops.k_calla ?_
      refine Ops.call (kG _ _) (Evs.cons rfl (Evs.cons rfl Evs.nil)) goPm rfl ?_
      rintro y cs' ⟨rfl, ad4, cap4, rfl⟩
      repeat' (first | refine goH ?_ | refine goV ?_ | refine goC (fun ad cap => ?_) | refine goG ?_ | (refine Ops.k_guard ?_; first | (refine Ops.guard_dec rfl rfl (fun hc => ?_) (fun hc => ?_) <;> try (exfalso; omega)) | refine Ops.guard_split rfl rfl (fun hc => ?_) (fun hc => ?_)) | refine goI ?_ | (refine Cw.k_cond ?_; first | (refine Cw.cond_dec rfl (fun hc => ?_) (fun hc => ?_) <;> try (exfalso; omega)) | refine Cw.cond_bool rfl (fun hc => ?_) (fun hc => ?_)) | fail)
      have hpi : ((pre.length : Nat) : Int).toNat = pre.length := Int.toNat_natCast _
      rw [hpi, htk, hpl]
      repeat' (first | refine goH ?_ | refine goV ?_ | refine goC (fun ad cap => ?_) | refine goG ?_ | (refine Ops.k_guard ?_; first | (refine Ops.guard_dec rfl rfl (fun hc => ?_) (fun hc => ?_) <;> try (exfalso; omega)) | refine Ops.guard_split rfl rfl (fun hc => ?_) (fun hc => ?_)) | refine goI ?_ | (refine Cw.k_cond ?_; first | (refine Cw.cond_dec rfl (fun hc => ?_) (fun hc => ?_) <;> try (exfalso; omega)) | refine Cw.cond_bool rfl (fun hc => ?_) (fun hc => ?_)) | refine goR ?_ | refine goP ?_ | apply PSeq.cons | apply PSeq.yes rfl rfl rfl | exact goW | fail)
      erw [int_set, hb2]
      exact ⟨_, _, _, (Ent.mk goSub goTk), ⟨k + 1, s2, _, _, rfl, ⟨by omega, hV, hF1, hF2⟩, rfl, rfl⟩, by omega⟩
end Lg
end
section
set_option linter.all false
set_option maxRecDepth 100000
set_option maxHeartbeats 8000000
namespace Lg
open Go Go.Proofs

abbrev lvCaps (b6 b8 b7 b5 b1 b9 : Nat) : List Value := [.pointer (some ⟨b6, 0, none⟩), .pointer (some ⟨b8, 0, none⟩), .pointer (some ⟨b7, 0, none⟩), .pointer (some ⟨b5, 0, none⟩), .pointer (some ⟨b1, 0, none⟩), .pointer (some ⟨b9, 0, none⟩)]
abbrev lvC (J : List Int) (D : Nat) (b6 b8 b7 b5 b1 b9 : Nat) (adL : Option Addr) (capL : Nat) (adN : Option Addr) (capN : Nat) (L now : List Int) (st : LSt) : List Chunk :=
  [Chunk.box b6 3 [.int st.2], Chunk.box b5 22 [.ints st.1], Chunk.own adN capN 1 3 (intRows now), Chunk.own adL capL 1 3 (intRows L), Chunk.box b8 22 [Tr.raw (.slice adL D capL)], Chunk.box b7 22 [Tr.raw (.slice adN J.length capN)], Chunk.box b1 27 [.ints J, .int D], Chunk.box b9 56 [Tr.raw (.func (.func 46) #[] (lvCaps b6 b8 b7 b5 b1 b9).toArray)]]
attribute [local irreducible] intRows lev bump mxL
theorem try_fn (J : List Int) (D : Nat) (hD : 1 ≤ D ∧ D ≤ 7) (hJ : ∀ x ∈ J, 0 ≤ x ∧ x ≤ 10000) (hJl : J.length ≤ 8) (b6 b8 b7 b5 b1 b9 : Nat) (adL : Option Addr) (capL : Nat) (adN : Option Addr) (capN : Nat) : ∀ (n : Nat) (pre L now : List Int) (st : LSt), pre.length + n = J.length → L.length = D → (∀ y ∈ L, 0 ≤ y ∧ y ≤ (pre.length : Int) * 10000) → now.length = J.length → now.take pre.length = pre → st.1.length ≤ 8 → (-1 ≤ st.2 ∧ st.2 ≤ 80000) →
    Spec Try.prog 46 ([.int pre.length] ++ (lvCaps b6 b8 b7 b5 b1 b9).map Tr.raw) (lvC J D b6 b8 b7 b5 b1 b9 adL capL adN capN L now st) (fun r cs => r = .tup [] ∧ ∃ now', now'.length = J.length ∧ now'.take pre.length = pre ∧ cs = lvC J D b6 b8 b7 b5 b1 b9 adL capL adN capN L now' (lev D (J.drop pre.length) pre L st)) := by
  intro n
  induction n with
  | zero =>
    intro pre L now st hn hL hLb hnl hnp hb hm
    have hnow : now = pre := by rw [← hnp, List.take_of_length_le (by omega)]
    subst hnow
    have hpl := (intRows_len now).trans hnl
    have hLl := (intRows_len L).trans hL
    obtain ⟨b, m⟩ := st
    simp only at hb hm
    rw [List.drop_of_length_le (by omega)]
    have kC := cloneS_int (ad := adN) (cap := capN) (n := J.length) (intRows now) hpl.symm (by omega)
    have kM := maxO_fn (ad := adL) (cap := capL) (n := D) L hLl.symm (by omega)
    by_cases hc : 0 ≤ m ∧ m ≤ mxL L
    · rw [lev_cut hc]
      refine Spec.body Try.func46 rfl rfl (Try.ntmps46) rfl fun w0 own0 M => ?_
      repeat' (first | refine goH ?_ | refine goV ?_ | refine goG ?_ | (refine Ops.k_guard ?_; first | (refine Ops.guard_dec rfl rfl (fun hc => ?_) (fun hc => ?_) <;> try (exfalso; omega)) | refine Ops.guard_split rfl rfl (fun hc => ?_) (fun hc => ?_)) | refine goI ?_ | (refine Cw.k_cond ?_; first | (refine Cw.cond_dec rfl (fun hc => ?_) (fun hc => ?_) <;> try (exfalso; omega)) | refine Cw.cond_bool rfl (fun hc => ?_) (fun hc => ?_)) | (refine Ops.k_calla ?_; first | (refine Ops.k_callf 40 ?_; refine Ops.callS kM (Evs.cons rfl Evs.nil) goPm rfl ?_)) | (apply OpW.k_call; first | (apply OpW.k_callf 40; exact OpW.callS kM (Evs.cons rfl Evs.nil) goPm)) | refine goR ?_ | refine goP ?_ | apply PSeq.cons | apply PSeq.yes rfl rfl rfl | exact goW | fail)
      exact Fin.ret Ent.refl (Outs.zero rfl) ⟨rfl, _, hnl, hnp, rfl⟩
    · rw [lev_nil hc]
      refine Spec.body Try.func46 rfl rfl (Try.ntmps46) rfl fun w0 own0 M => ?_
      by_cases hm0 : 0 ≤ m
      all_goals
        repeat' (first | refine goH ?_ | refine goV ?_ | refine goG ?_ | (refine Ops.k_guard ?_; first | (refine Ops.guard_dec rfl rfl (fun hc => ?_) (fun hc => ?_) <;> try (exfalso; omega)) | refine Ops.guard_split rfl rfl (fun hc => ?_) (fun hc => ?_)) | refine goI ?_ | (refine Cw.k_cond ?_; first | (refine Cw.cond_dec rfl (fun hc => ?_) (fun hc => ?_) <;> try (exfalso; omega)) | refine Cw.cond_bool rfl (fun hc => ?_) (fun hc => ?_)) | (refine Ops.k_calla ?_; first | (refine Ops.k_callf 40 ?_; refine Ops.callS kM (Evs.cons rfl Evs.nil) goPm rfl ?_) | (refine Ops.k_callf 39 ?_; refine Ops.callS kC (Evs.cons rfl Evs.nil) goPm rfl ?_)) | (apply OpW.k_call; first | (apply OpW.k_callf 40; exact OpW.callS kM (Evs.cons rfl Evs.nil) goPm) | (apply OpW.k_callf 39; exact OpW.callS kC (Evs.cons rfl Evs.nil) goPm)) | refine goR ?_ | refine goP ?_ | apply PSeq.cons | apply PSeq.yes rfl rfl rfl | exact goW | fail)
        exact Fin.ret Ent.refl (Outs.zero rfl) ⟨rfl, now, hnl, hnp, rfl⟩
  | succ n ih =>
    intro pre L now st hn hL hLb hnl hnp hb hm
    have hpl := (intRows_len now).trans hnl
    have hLl := (intRows_len L).trans hL
    have hJR := intRows_len J
    have kM := maxO_fn (ad := adL) (cap := capL) (n := D) L hLl.symm (by omega)
    by_cases hc : 0 ≤ st.2 ∧ st.2 ≤ mxL L
    · rw [lev_cut hc]
      obtain ⟨b, m⟩ := st
      simp only at hb hm hc
      refine Spec.body Try.func46 rfl rfl (Try.ntmps46) rfl fun w0 own0 M => ?_
      repeat' (first | refine goH ?_ | refine goV ?_ | refine goG ?_ | (refine Ops.k_guard ?_; first | (refine Ops.guard_dec rfl rfl (fun hc => ?_) (fun hc => ?_) <;> try (exfalso; omega)) | refine Ops.guard_split rfl rfl (fun hc => ?_) (fun hc => ?_)) | refine goI ?_ | (refine Cw.k_cond ?_; first | (refine Cw.cond_dec rfl (fun hc => ?_) (fun hc => ?_) <;> try (exfalso; omega)) | refine Cw.cond_bool rfl (fun hc => ?_) (fun hc => ?_)) | (refine Ops.k_calla ?_; first | (refine Ops.k_callf 40 ?_; refine Ops.callS kM (Evs.cons rfl Evs.nil) goPm rfl ?_)) | (apply OpW.k_call; first | (apply OpW.k_callf 40; exact OpW.callS kM (Evs.cons rfl Evs.nil) goPm)) | refine goR ?_ | refine goP ?_ | apply PSeq.cons | apply PSeq.yes rfl rfl rfl | exact goW | fail)
      exact Fin.ret Ent.refl (Outs.zero rfl) ⟨rfl, _, hnl, hnp, rfl⟩
    obtain ⟨j, hj⟩ := at_lt (l := J) (k := pre.length) (by omega)
    have hjb := hJ j (List.mem_of_getElem? hj)
    have r1 := intRows_at hj
    rw [drop_at hj, lev_cons hc]
    have hbd := fun (d : Nat) (s : LSt) (h1 : s.1.length ≤ 8) (h2 : -1 ≤ s.2 ∧ s.2 ≤ 80000) => lev_bd (D := D) (J.drop (pre.length + 1)) (pre := pre ++ [(d : Int)]) (L := bump L d j) (st := s) (by rw [bump_len]; omega) (fun y hy => by have := bump_bd (d := (d : Int)) (x := j) hLb hjb (by omega) y hy; rw [List.length_append]; simp; omega) (fun x hx => hJ x (List.mem_of_mem_drop hx)) h1 (by rw [List.length_append, List.length_drop]; simp; omega) h2
    obtain ⟨F, hF⟩ : ∃ F : Nat → LSt → LSt, F = fun (d : Nat) (s : LSt) => lev D (J.drop (pre.length + 1)) (pre ++ [(d : Int)]) (bump L (d : Int) j) s := ⟨_, rfl⟩
    have hFd : ∀ (d : Nat) (s : LSt), lev D (J.drop (pre.length + 1)) (pre ++ [(d : Int)]) (bump L (d : Int) j) s = F d s := fun d s => by rw [hF]
    rw [← hF]
    simp only [hFd] at hbd
    clear hF
    obtain ⟨b, m⟩ := st
    simp only at hb hm hc
    refine Spec.body Try.func46 rfl rfl (Try.ntmps46) rfl fun w0 own0 M => ?_
    by_cases hm0 : 0 ≤ m
    all_goals
      repeat' (first | refine goH ?_ | refine goV ?_ | refine goG ?_ | (refine Ops.k_guard ?_; first | (refine Ops.guard_dec rfl rfl (fun hc => ?_) (fun hc => ?_) <;> try (exfalso; omega)) | refine Ops.guard_split rfl rfl (fun hc => ?_) (fun hc => ?_)) | refine goI ?_ | (refine Cw.k_cond ?_; first | (refine Cw.cond_dec rfl (fun hc => ?_) (fun hc => ?_) <;> try (exfalso; omega)) | refine Cw.cond_bool rfl (fun hc => ?_) (fun hc => ?_)) | (refine Ops.k_calla ?_; first | (refine Ops.k_callf 40 ?_; refine Ops.callS kM (Evs.cons rfl Evs.nil) goPm rfl ?_)) | (apply OpW.k_call; first | (apply OpW.k_callf 40; exact OpW.callS kM (Evs.cons rfl Evs.nil) goPm)) | refine goR ?_ | refine goP ?_ | apply PSeq.cons | apply PSeq.yes rfl rfl rfl | exact goW | fail)
      refine Cw.loopI [(0, _), (2, _), (3, _), (5, _), (6, _), (26, _)] _ (fun q e cc => ∃ (k : Nat) (s : LSt) (now : List Int), q = D - k ∧ (k ≤ D ∧ levF F 0 D (b, m) = levF F k (D - k) s ∧ s.1.length ≤ 8 ∧ (-1 ≤ s.2 ∧ s.2 ≤ 80000) ∧ now.length = J.length ∧ now.take pre.length = pre) ∧ e = [(27, .int k)] ∧ cc = lvC J D b6 b8 b7 b5 b1 b9 adL capL adN capN L now s)
        ⟨_, _, _, (Ent.mkP goSub goPm), 0, (b, m), now, rfl, ⟨by omega, by rw [Nat.sub_zero], hb, hm, hnl, hnp⟩, rfl, rfl⟩ ?_
      clear hnl hnp hpl
      rintro _ _ _ ⟨k, s, now, rfl, ⟨hk, hV, hs1, hs2, hnl, hnp⟩, rfl, rfl⟩
      by_cases hkD : k < D
      rotate_left
      · rw [levF_end hkD] at hV
        rw [hV]
        clear hV
        repeat' (first | refine goH ?_ | refine goV ?_ | refine goG ?_ | (refine Ops.k_guard ?_; first | (refine Ops.guard_dec rfl rfl (fun hc => ?_) (fun hc => ?_) <;> try (exfalso; omega)) | refine Ops.guard_split rfl rfl (fun hc => ?_) (fun hc => ?_)) | refine goI ?_ | (refine Cw.k_cond ?_; first | (refine Cw.cond_dec rfl (fun hc => ?_) (fun hc => ?_) <;> try (exfalso; omega)) | refine Cw.cond_bool rfl (fun hc => ?_) (fun hc => ?_)) | refine goR ?_ | refine goP ?_ | apply PSeq.cons | apply PSeq.yes rfl rfl rfl | exact goW | fail)
        exact Fin.norm Ent.refl (Outs.zero rfl) ⟨rfl, now, hnl, hnp, rfl⟩
      rw [levF_step hkD] at hV
      obtain ⟨vd, hvd⟩ := at_lt (l := L) (k := k) (by omega)
      have hvb := hLb vd (List.mem_of_getElem? hvd)
      have r2 := intRows_at hvd
      obtain ⟨vn, hvn⟩ := at_lt (l := now) (k := pre.length) (by omega)
      have r4 := intRows_at hvn
      have hpl := (intRows_len now).trans hnl
      obtain ⟨hb1, hb2⟩ := bump_back (j := j) hvd
      have hset : L.set k (vd + j) = bump L k j := by
        have := bump_at (d := (k : Int)) (x := j) (by rw [Int.toNat_natCast]; exact hvd)
        rw [this, Int.toNat_natCast]
      have r3 := intRows_at hb1
      have hpk : (pre ++ [(k : Int)]).length = pre.length + 1 := by rw [List.length_append]; rfl
      have hns : (now.set pre.length (k : Int)).take (pre.length + 1) = pre ++ [(k : Int)] := by
        have hlt := (List.getElem?_eq_some_iff.1 hvn).1
        have h2 : (now.set pre.length (k : Int))[pre.length]? = some (k : Int) := by rw [List.getElem?_set, if_pos rfl, if_pos hlt]
        rw [take_at h2, List.take_set_of_le (Nat.le_refl _), hnp]
      have kG := ih (pre ++ [(k : Int)]) (bump L k j) (now.set pre.length (k : Int)) s (by rw [hpk]; omega) (by rw [bump_len]; exact hL) (fun y hy => by have := bump_bd (d := (k : Int)) (x := j) hLb hjb (by omega) y hy; rw [hpk]; omega) (by rw [List.length_set]; exact hnl) (by rw [hpk]; exact hns) hs1 hs2
      rw [hpk, hFd] at kG
      obtain ⟨hF1, hF2⟩ := hbd k s hs1 hs2
      have hbl := (intRows_len (bump L k j)).trans ((bump_len L k j).trans hL)
      generalize F k s = s2 at *
      clear hvd hb1 ih hbd hFd hj hvn hns kM
      repeat' (first | refine goH ?_ | refine goV ?_ | refine goG ?_ | (refine Ops.k_guard ?_; first | (refine Ops.guard_dec rfl rfl (fun hc => ?_) (fun hc => ?_) <;> try (exfalso; omega)) | refine Ops.guard_split rfl rfl (fun hc => ?_) (fun hc => ?_)) | refine goI ?_ | (refine Cw.k_cond ?_; first | (refine Cw.cond_dec rfl (fun hc => ?_) (fun hc => ?_) <;> try (exfalso; omega)) | refine Cw.cond_bool rfl (fun hc => ?_) (fun hc => ?_)) | refine goR ?_ | refine goP ?_ | apply PSeq.cons | apply PSeq.yes rfl rfl rfl | exact goW | fail)
      erw [int_set, int_set, hset]
      refine Ops.k_calla ?_
      refine Ops.call_fn (caps := lvCaps b6 b8 b7 b5 b1 b9) (args := [.int ((pre.length + 1 : Nat) : Int)]) rfl kG (Evs.cons rfl Evs.nil) goPm rfl ?_
      rintro y cs' ⟨rfl, now2, hn1, hn2, rfl⟩
      have hn3 : now2.take pre.length = pre := by
        have := congrArg (List.take pre.length) hn2
        rw [List.take_take, Nat.min_eq_left (by omega), List.take_append_of_le_length (Nat.le_refl _), List.take_of_length_le (Nat.le_refl _)] at this
        exact this
      clear hn2 kG
      repeat' (first | refine goH ?_ | refine goV ?_ | refine goG ?_ | (refine Ops.k_guard ?_; first | (refine Ops.guard_dec rfl rfl (fun hc => ?_) (fun hc => ?_) <;> try (exfalso; omega)) | refine Ops.guard_split rfl rfl (fun hc => ?_) (fun hc => ?_)) | refine goI ?_ | (refine Cw.k_cond ?_; first | (refine Cw.cond_dec rfl (fun hc => ?_) (fun hc => ?_) <;> try (exfalso; omega)) | refine Cw.cond_bool rfl (fun hc => ?_) (fun hc => ?_)) | refine goR ?_ | refine goP ?_ | apply PSeq.cons | apply PSeq.yes rfl rfl rfl | exact goW | fail)
      erw [int_set, hb2]
      exact ⟨_, _, _, (Ent.mk goSub goTk), ⟨k + 1, s2, now2, rfl, ⟨by omega, hV, hF1, hF2, hn1, hn3⟩, rfl, rfl⟩, by omega⟩
end Lg
end
section
set_option linter.all false
set_option maxRecDepth 100000
set_option maxHeartbeats 8000000
namespace Lg
open Go Go.Proofs

def levS (J : List Int) (D : Int) : LSt := lev D.toNat J [] (List.replicate D.toNat 0) ([], -1)
def levO (J : List Int) (D : Int) : Tr := if J.length > 8 then .tup [.sl 1 [], .int 0, .int 2] else .tup [.ints (levS J D).1, .int (levS J D).2, .int 0]
theorem mx_rep {n : Nat} (h : 0 < n) : mxL (List.replicate n 0) = 0 := by
  have := mxL_mem (l := List.replicate n 0) (by rw [List.length_replicate]; exact h)
  exact List.eq_of_mem_replicate this
theorem impLv (J : List Int) (D : Nat) (ad2 : Option Addr) (cap2 : Nat) : ImpL [.ints J, .int D, Tr.raw (.slice none 0 0), Tr.raw (.slice ad2 D cap2), Tr.raw (.slice none 0 0), .int (-1)] [.ints J, .int D, Tr.raw (.slice none 0 0), Tr.raw (.slice ad2 D cap2), .ints [], .int (-1)] := .cons Imp.refl (.cons Imp.refl (.cons Imp.refl (.cons Imp.refl (.cons Imp.nil (.cons Imp.refl .nil)))))
theorem impBest : ImpL [Tr.raw (.slice none 0 0)] [.ints []] := .cons Imp.nil .nil
attribute [local irreducible] intRows lev bump mxL
theorem level_fn (J : List Int) (D : Int) (hl : J.length ≤ 60) (hw : weekE J D = 0) : PFn Try.prog 10 [.week J D] (· = levO J D) := by
  have k1 := checkPlan_fn J D (by omega)
  rw [hw] at k1
  obtain ⟨hD, hJ⟩ := weekE_ok hw
  have hJR := intRows_len J
  obtain ⟨n, hn⟩ : ∃ n : Nat, D.toNat = n := ⟨_, rfl⟩
  have hDn : D = n := by omega
  unfold levO levS
  rw [hn]
  subst hDn
  by_cases h8 : J.length > 8
  · rw [if_pos h8]
    refine PFn.mk (Spec.body Try.func10 rfl rfl (Try.ntmps10) rfl fun w0 own0 M => ?_)
    repeat' (first | refine goH ?_ | refine goV ?_ | refine goB (fun b => ?_) | refine goC (fun ad cap => ?_) | refine goI ?_ | (refine Cw.k_cond ?_; first | (refine Cw.cond_dec rfl (fun hc => ?_) (fun hc => ?_) <;> try (exfalso; omega)) | refine Cw.cond_bool rfl (fun hc => ?_) (fun hc => ?_)) | (refine Ops.k_calla ?_; first | (refine Ops.k_callf 8 ?_; refine Ops.callV k1 (Evs.cons rfl Evs.nil) rfl ?_)) | (apply OpW.k_call; first | (apply OpW.k_callf 8; exact OpW.callV k1 (Evs.cons rfl Evs.nil))) | refine goR ?_ | refine goP ?_ | apply PSeq.cons | apply PSeq.yes rfl rfl rfl | exact goW | fail)
    refine Fin.ret (Ent.trans (Ent.nilsl 1 (s := 2) rfl) (Ent.take goTk)) (Outs.many rfl (OutL.cons goOe (OutL.cons goOe (OutL.cons goOe OutL.nil))) rfl) ⟨rfl, rfl⟩
  rw [if_neg h8]
  have kG := fun (v : Nat) (ad2 : Option Addr) (cap2 : Nat) => give_fn J n (by omega) hJ (by omega) J.length [] (List.replicate n 0) ([], -1) v none 0 ad2 cap2 (by simp) List.length_replicate (fun y hy => by rw [List.eq_of_mem_replicate hy]; simp) (by simp) (by simp)
  rw [mx_rep (by omega)] at kG
  have e0 : J.drop ([] : List Int).length = J := rfl
  rw [e0, intRows_nil] at kG
  generalize lev n J [] (List.replicate n 0) ([], -1) = s at *
  refine PFn.mk (Spec.body Try.func10 rfl rfl (Try.ntmps10) rfl fun w0 own0 M => ?_)
  repeat' (first | refine goH ?_ | refine goV ?_ | refine goB (fun b => ?_) | refine goC (fun ad cap => ?_) | refine goI ?_ | (refine Cw.k_cond ?_; first | (refine Cw.cond_dec rfl (fun hc => ?_) (fun hc => ?_) <;> try (exfalso; omega)) | refine Cw.cond_bool rfl (fun hc => ?_) (fun hc => ?_)) | (refine Ops.k_calla ?_; first | (refine Ops.k_callf 8 ?_; refine Ops.callV k1 (Evs.cons rfl Evs.nil) rfl ?_)) | (apply OpW.k_call; first | (apply OpW.k_callf 8; exact OpW.callV k1 (Evs.cons rfl Evs.nil))) | fail)
  first | refine Cw.region_YP (fun ξ S => Chunk.box b 27 [.ints J, .int n] :: (stg (S 3) [] [ownV (ξ 3) 1 3 (List.replicate n [Tr.int 0])] ++ (stg (S 5) [] [Chunk.box (blk (ξ 5)) 55 [.ints J, .int n, Tr.raw (.slice none 0 0), slV (ξ 3) n, Tr.raw (.slice none 0 0), .int (-1)]] ++ []))) rfl (by decide +kernel) rfl ((fun (ξ : Nat → Value) (S : Nat → Bool) => Chunk.box b 27 [.ints J, .int n] :: (stg (S 3) [] [ownV (ξ 3) 1 3 (List.replicate n [Tr.int 0])] ++ (stg (S 5) [] [Chunk.box (blk (ξ 5)) 55 [.ints J, .int n, Tr.raw (.slice none 0 0), slV (ξ 3) n, Tr.raw (.slice none 0 0), .int (-1)]] ++ []))) (fun _ => undef) (fun _ => false)) (by simp only [upd_same, updD_same, upd_ne, updD_ne, ne_eq, Nat.reduceEqDiff, not_false_eq_true, stg_t, stg_f, vAd_s, vCap_s, blk_p, List.cons_append, List.nil_append, b2n_t, b2n_f]; exact goXm) (fun _ => rfl) ?_ | fail
  apply YSeq.w (by intro _ _ _; rfl)
  · intro ξ S h1 h2 h3 h4
    have hN0_4 := closed_false h1 h3 (k := 4) rfl (by decide)
    have hN0_5 := closed_false hN0_4 h3 (k := 5) rfl (by decide)
    try simp only [upd_same, updD_same, upd_ne, updD_ne, ne_eq, Nat.reduceEqDiff, not_false_eq_true, stg_t, stg_f, vAd_s, vCap_s, blk_p, List.cons_append, List.nil_append, b2n_t, b2n_f, hN0_5]
    exact goW
  · intro ξ v; rfl
  · intro ξ k v S h3 hn hk
    first
    | rfl
  apply YSeq.w (by intro _ _ _; rfl)
  · intro ξ S h1 h2 h3 h4
    have hN1_2 := closed_false h1 h3 (k := 2) rfl (by decide)
    have hN1_3 := closed_false hN1_2 h3 (k := 3) rfl (by decide)
    have hN1_4 := closed_false hN1_3 h3 (k := 4) rfl (by decide)
    have hN1_5 := closed_false hN1_4 h3 (k := 5) rfl (by decide)
    try simp only [upd_same, updD_same, upd_ne, updD_ne, ne_eq, Nat.reduceEqDiff, not_false_eq_true, stg_t, stg_f, vAd_s, vCap_s, blk_p, List.cons_append, List.nil_append, b2n_t, b2n_f, hN1_3, hN1_5]
    exact goW
  · intro ξ v; rfl
  · intro ξ k v S h3 hn hk
    first
    | rfl
  apply YSeq.w (by intro _ _ _; rfl)
  · intro ξ S h1 h2 h3 h4
    have hN2_3 := closed_false h1 h3 (k := 3) rfl (by decide)
    have hN2_4 := closed_false hN2_3 h3 (k := 4) rfl (by decide)
    have hN2_5 := closed_false hN2_4 h3 (k := 5) rfl (by decide)
    try simp only [upd_same, updD_same, upd_ne, updD_ne, ne_eq, Nat.reduceEqDiff, not_false_eq_true, stg_t, stg_f, vAd_s, vCap_s, blk_p, List.cons_append, List.nil_append, b2n_t, b2n_f, hN2_3, hN2_5]
    exact goW
  · intro ξ v; rfl
  · intro ξ k v S h3 hn hk
    first
    | rfl
  apply YSeq.mkOwn (n) (fun _ => rfl) (fun _ => rfl) (by omega) (by omega)
  · intro ξ S h1 h3 ad cap
    have hN3_4 := closed_false h1 h3 (k := 4) rfl (by decide)
    have hN3_5 := closed_false hN3_4 h3 (k := 5) rfl (by decide)
    simp only [upd_same, updD_same, upd_ne, updD_ne, ne_eq, Nat.reduceEqDiff, not_false_eq_true, stg_t, stg_f, vAd_s, vCap_s, blk_p, List.cons_append, List.nil_append, b2n_t, b2n_f, h1, hN3_5]
    exact goXm
  apply YSeq.w (by intro _ _ _; rfl)
  · intro ξ S h1 h2 h3 h4
    have hY4_3 : S 3 = true := h2 3 (by decide)
    have hN4_5 := closed_false h1 h3 (k := 5) rfl (by decide)
    try simp only [upd_same, updD_same, upd_ne, updD_ne, ne_eq, Nat.reduceEqDiff, not_false_eq_true, stg_t, stg_f, vAd_s, vCap_s, blk_p, List.cons_append, List.nil_append, b2n_t, b2n_f, hY4_3, hN4_5]
    exact goW
  · intro ξ v; rfl
  · intro ξ k v S h3 hn hk
    first
    | rfl
    | skip
      have hY4_3 : S 3 = true := h3 4 _ rfl hn 3 (by decide)
      simp only [upd_S hY4_3 hk]
  apply YSeq.box
  · intro ξ S h1 h2 h3 h4
    have hY5_4 : S 4 = true := h2 4 (by decide)
    have hY5_3 : S 3 = true := h3 4 _ rfl hY5_4 3 (by decide)
    simp only [upd_same, updD_same, upd_ne, updD_ne, ne_eq, Nat.reduceEqDiff, not_false_eq_true, stg_t, stg_f, vAd_s, vCap_s, blk_p, List.cons_append, List.nil_append, b2n_t, b2n_f, hY5_3, h1]
    refine ⟨_, _, rfl, inferInstance, fun b => ?_⟩
    try simp only [upd_same, updD_same, upd_ne, updD_ne, ne_eq, Nat.reduceEqDiff, not_false_eq_true, stg_t, stg_f, vAd_s, vCap_s, blk_p, List.cons_append, List.nil_append, b2n_t, b2n_f, hY5_3, h1]
    exact goXm
  apply YSeq.w (by intro _ _ _; rfl)
  · intro ξ S h1 h2 h3 h4
    have hY6_3 : S 3 = true := h2 3 (by decide)
    have hY6_5 : S 5 = true := h2 5 (by decide)
    try simp only [upd_same, updD_same, upd_ne, updD_ne, ne_eq, Nat.reduceEqDiff, not_false_eq_true, stg_t, stg_f, vAd_s, vCap_s, blk_p, List.cons_append, List.nil_append, b2n_t, b2n_f, hY6_3, hY6_5]
    exact goW
  · intro ξ v; rfl
  · intro ξ k v S h3 hn hk
    first
    | rfl
    | skip
      have hY6_3 : S 3 = true := h3 6 _ rfl hn 3 (by decide)
      have hY6_5 : S 5 = true := h3 6 _ rfl hn 5 (by decide)
      simp only [upd_S hY6_3 hk, upd_S hY6_5 hk]
  refine YSeq.nil fun ξ hf => ?_
  refine ⟨[(6, _)], _, Ent.trans (Ent.eqc rfl (by simp only [upd_same, updD_same, upd_ne, updD_ne, ne_eq, Nat.reduceEqDiff, not_false_eq_true, stg_t, stg_f, vAd_s, vCap_s, blk_p, List.cons_append, List.nil_append, b2n_t, b2n_f, ownV, slV, ptV] <;> rfl)) (Ent.sub goSub), ?_⟩
  clear hf
  generalize vAd (ξ 3) = ad19
  generalize vCap (ξ 3) = cap19
  generalize blk (ξ 5) = b21
  refine Then.norm ?_
  rw [intRows_rep]
  refine Cw.ent (Ent.trans (Ent.imp_box goPk (impLv J n ad19 cap19)) (Ent.nil 1 3)) ?_
  repeat' (first | refine goH ?_ | refine goV ?_ | refine goB (fun b => ?_) | refine goC (fun ad cap => ?_) | refine goI ?_ | (refine Cw.k_cond ?_; first | (refine Cw.cond_dec rfl (fun hc => ?_) (fun hc => ?_) <;> try (exfalso; omega)) | refine Cw.cond_bool rfl (fun hc => ?_) (fun hc => ?_)) | (refine Ops.k_calla ?_; first | (refine Ops.k_callf 33 ?_; (refine Ops.call (kG _ _ _) (Evs.cons rfl (Evs.cons rfl Evs.nil)) goPm rfl ?_; rintro y cs' ⟨rfl, ad', cap', rfl⟩))) | refine goR ?_ | refine goP ?_ | apply PSeq.cons | apply PSeq.yes rfl rfl rfl | exact goW | fail)
  refine Fin.ret (Ent.take goTk) (Outs.many rfl (OutL.cons goOe (OutL.cons goOe (OutL.cons goOe OutL.nil))) rfl) ⟨rfl, rfl⟩
theorem levelOf_fn (J : List Int) (D : Int) (hl : J.length ≤ 60) (hw : weekE J D = 0) : PFn Try.prog 21 [.week J D] (· = levO J D) := by
  obtain ⟨hD, hJ⟩ := weekE_ok hw
  have hJR := intRows_len J
  obtain ⟨n, hn⟩ : ∃ n : Nat, D.toNat = n := ⟨_, rfl⟩
  have hDn : D = n := by omega
  unfold levO levS
  rw [hn]
  subst hDn
  by_cases h8 : J.length > 8
  · rw [if_pos h8]
    refine PFn.mk (Spec.body Try.func21 rfl rfl (Try.ntmps21) rfl fun w0 own0 M => ?_)
    repeat' (first | refine goH ?_ | refine goV ?_ | refine goB (fun b => ?_) | refine goC (fun ad cap => ?_) | refine goI ?_ | (refine Cw.k_cond ?_; first | (refine Cw.cond_dec rfl (fun hc => ?_) (fun hc => ?_) <;> try (exfalso; omega)) | refine Cw.cond_bool rfl (fun hc => ?_) (fun hc => ?_)) | refine goR ?_ | refine goP ?_ | apply PSeq.cons | apply PSeq.yes rfl rfl rfl | exact goW | fail)
    refine Fin.ret (Ent.trans (Ent.nilsl 1 (s := 2) rfl) (Ent.take goTk)) (Outs.many rfl (OutL.cons goOe (OutL.cons goOe (OutL.cons goOe OutL.nil))) rfl) ⟨rfl, rfl⟩
  rw [if_neg h8]
  have kG := fun (b6 b8 b7 b5 b1 b9 : Nat) (adL : Option Addr) (capL : Nat) (adN : Option Addr) (capN : Nat) => try_fn J n (by omega) hJ (by omega) b6 b8 b7 b5 b1 b9 adL capL adN capN J.length [] (List.replicate n 0) (List.replicate J.length 0) ([], -1) (by simp) List.length_replicate (fun y hy => by rw [List.eq_of_mem_replicate hy]; simp) List.length_replicate rfl (by simp) (by simp)
  have e0 : J.drop ([] : List Int).length = J := rfl
  rw [e0] at kG
  generalize lev n J [] (List.replicate n 0) ([], -1) = s at *
  have hz : List.map Tr.raw [Value.int .i64 0] = [Tr.int 0] := rfl
  refine PFn.mk (Spec.body Try.func21 rfl rfl (Try.ntmps21) rfl fun w0 own0 M => ?_)
  repeat' (first | refine goH ?_ | (refine Ops.k_makeFunc ?_; first | (refine Ops.makeFunc (vs := [_, _, _, _, _, _]) rfl rfl ?_)) | ((fail_if_success refine Ops.k_c_call ?_); refine goV ?_) | ((fail_if_success refine Ops.k_c_call ?_); refine goB (fun b => ?_)) | ((fail_if_success refine Ops.k_c_call ?_); refine goC (fun ad cap => ?_)) | refine goI ?_ | (refine Cw.k_cond ?_; first | (refine Cw.cond_dec rfl (fun hc => ?_) (fun hc => ?_) <;> try (exfalso; omega)) | refine Cw.cond_bool rfl (fun hc => ?_) (fun hc => ?_)) | refine goR ?_ | refine goP ?_ | apply PSeq.cons | apply PSeq.yes rfl rfl rfl | exact goW | fail)
  rename_i b1 b5 b6 adN capN b7 b8
  rw [hz, hJR, Int.toNat_natCast, Int.toNat_natCast, intRows_rep, intRows_rep]
  refine Ops.ent (Ent.imp_box (b := b5) goPk impBest) ?_
  refine Ops.k_calla ?_
  refine Ops.call_fn (caps := lvCaps b6 b8 b7 b5 b1 b) (args := [.int 0]) rfl (kG b6 b8 b7 b5 b1 b _ _ _ _) (Evs.cons rfl Evs.nil) goPm rfl ?_
  rintro y cs' ⟨rfl, now', _, _, rfl⟩
  repeat' (first | refine goH ?_ | refine goV ?_ | refine goB (fun b => ?_) | refine goC (fun ad cap => ?_) | refine goI ?_ | (refine Cw.k_cond ?_; first | (refine Cw.cond_dec rfl (fun hc => ?_) (fun hc => ?_) <;> try (exfalso; omega)) | refine Cw.cond_bool rfl (fun hc => ?_) (fun hc => ?_)) | refine goR ?_ | refine goP ?_ | apply PSeq.cons | apply PSeq.yes rfl rfl rfl | exact goW | fail)
  refine Fin.ret (Ent.take goTk) (Outs.many rfl (OutL.cons goOe (OutL.cons goOe (OutL.cons goOe OutL.nil))) rfl) ⟨rfl, rfl⟩
end Lg
end
section
set_option linter.all false
set_option maxRecDepth 100000
set_option maxHeartbeats 8000000
namespace Lg
open Go Go.Proofs

def ordL (n k : Nat) : List Int := (List.range k).map Int.ofNat ++ List.replicate (n - k) 0
theorem ordL_zero (n : Nat) : ordL n 0 = List.replicate n 0 := rfl
theorem ordL_len {n k : Nat} (h : k ≤ n) : (ordL n k).length = n := by
  unfold ordL
  rw [List.length_append, List.length_map, List.length_range, List.length_replicate]
  omega
theorem ordL_set {n k : Nat} (h : k < n) : (ordL n k).set k (k : Int) = ordL n (k + 1) := by
  unfold ordL
  have hl : ((List.range k).map Int.ofNat).length = k := by rw [List.length_map, List.length_range]
  rw [List.set_append_right _ _ (by omega), hl, Nat.sub_self, show n - k = (n - (k + 1)) + 1 by omega, List.replicate_succ, List.set_cons_zero, List.range_succ, List.map_append, List.append_assoc]
  rfl
theorem ordL_mem {n : Nat} {x : Int} (h : x ∈ ordL n n) : 0 ≤ x ∧ x < n := by
  unfold ordL at h
  rw [Nat.sub_self, List.replicate_zero, List.append_nil] at h
  obtain ⟨i, hi, rfl⟩ := List.mem_map.1 h
  have := List.mem_range.1 hi
  constructor
  · exact Int.natCast_nonneg _
  · exact Int.ofNat_lt.2 this
abbrev jbI (J : List Int) (i : Int) : Int := J.getD i.toNat 0
def frLt (J : List Int) (a b : Int) : Bool := decide (jbI J b < jbI J a)
def frS (J : List Int) : List Int := isort (frLt J) (ordL J.length J.length)
def frF (J : List Int) : List Int → List Int → List Int → List Int
  | [], out, _ => out
  | i :: S, out, L => frF J S (out.set i.toNat (idxN L (mnL L))) (bump L (idxN L (mnL L)) (jbI J i))
def frO (J : List Int) (D : Int) : List Int := frF J (frS J) (List.replicate J.length 0) (List.replicate D.toNat 0)
theorem frS_mem {J : List Int} {x : Int} (h : x ∈ frS J) : 0 ≤ x ∧ x < J.length := ordL_mem ((isort_perm _ _).mem_iff.1 h)
theorem frS_len (J : List Int) : (frS J).length = J.length := by
  unfold frS
  rw [isort_len, ordL_len (Nat.le_refl _)]
theorem frF_drop {J S out L : List Int} {k : Nat} {i : Int} (h : S[k]? = some i) : frF J (S.drop k) out L = frF J (S.drop (k + 1)) (out.set i.toNat (idxN L (mnL L))) (bump L (idxN L (mnL L)) (jbI J i)) := by rw [drop_at h, frF]
theorem frF_end {J S out L : List Int} {k : Nat} (h : S.length ≤ k) : frF J (S.drop k) out L = out := by rw [List.drop_of_length_le h, frF]
theorem jbI_at {J : List Int} {i : Int} {x : Int} (h : J[i.toNat]? = some x) : jbI J i = x := by
  unfold jbI
  rw [List.getD_eq_getElem?_getD, h]
  rfl
attribute [local irreducible] intRows bump mnL idxN isort
theorem frD_fn (J : List Int) (D : Int) (b : Nat) (a c : Int) (ha : 0 ≤ a ∧ a < J.length) (hc : 0 ≤ c ∧ c < J.length) (hl : J.length ≤ 1000) : Spec Try.prog 35 ([.int a, .int c] ++ [Value.pointer (some ⟨b, 0, none⟩)].map Tr.raw) [Chunk.box b 27 [.ints J, .int D]] (fun r cs => r = .int (cmpI (jbI J c) (jbI J a)) ∧ cs = [Chunk.box b 27 [.ints J, .int D]]) := by
  obtain ⟨x, hx⟩ := at_lt (l := J) (k := a.toNat) (by omega)
  obtain ⟨y, hy⟩ := at_lt (l := J) (k := c.toNat) (by omega)
  rw [jbI_at hx, jbI_at hy]
  have r1 := intRows_at hx
  have r2 := intRows_at hy
  have hL := intRows_len J
  have kc := compare_fn y x
  generalize cmpI y x = r at *
  clear hx hy
  refine Spec.body Try.func35 rfl rfl (Try.ntmps35) rfl fun w0 own0 M => ?_
  repeat' (first | refine goH ?_ | refine goV ?_ | refine goI ?_ | (refine Cw.k_cond ?_; first | (refine Cw.cond_dec rfl (fun hc => ?_) (fun hc => ?_) <;> try (exfalso; omega)) | refine Cw.cond_bool rfl (fun hc => ?_) (fun hc => ?_)) | (refine Ops.k_calla ?_; first | (refine Ops.k_callf 36 ?_; refine Ops.callV kc (Evs.cons rfl (Evs.cons rfl Evs.nil)) rfl ?_)) | (apply OpW.k_call; first | (apply OpW.k_callf 36; exact OpW.callV kc (Evs.cons rfl (Evs.cons rfl Evs.nil)))) | refine goR ?_ | refine goP ?_ | apply PSeq.cons | apply PSeq.yes rfl rfl rfl | exact goW | fail)
  exact Fin.ret (Ent.take goTk) (Outs.one rfl rfl) ⟨rfl, rfl⟩
theorem frR_fn (J : List Int) (D : Int) (b : Nat) (a c : Int) (ha : 0 ≤ a ∧ a < J.length) (hc : 0 ≤ c ∧ c < J.length) (hl : J.length ≤ 1000) : Spec Try.prog 47 ([.int a, .int c] ++ [Value.pointer (some ⟨b, 0, none⟩)].map Tr.raw) [Chunk.box b 27 [.ints J, .int D]] (fun r cs => r = .int (cmpI (jbI J c) (jbI J a)) ∧ cs = [Chunk.box b 27 [.ints J, .int D]]) := by
  obtain ⟨x, hx⟩ := at_lt (l := J) (k := a.toNat) (by omega)
  obtain ⟨y, hy⟩ := at_lt (l := J) (k := c.toNat) (by omega)
  rw [jbI_at hx, jbI_at hy]
  have r1 := intRows_at hx
  have r2 := intRows_at hy
  have hL := intRows_len J
  have kc := compare_fn y x
  generalize cmpI y x = r at *
  clear hx hy
  refine Spec.body Try.func47 rfl rfl (Try.ntmps47) rfl fun w0 own0 M => ?_
  repeat' (first | refine goH ?_ | refine goV ?_ | refine goI ?_ | (refine Cw.k_cond ?_; first | (refine Cw.cond_dec rfl (fun hc => ?_) (fun hc => ?_) <;> try (exfalso; omega)) | refine Cw.cond_bool rfl (fun hc => ?_) (fun hc => ?_)) | (refine Ops.k_calla ?_; first | (refine Ops.k_callf 36 ?_; refine Ops.callV kc (Evs.cons rfl (Evs.cons rfl Evs.nil)) rfl ?_)) | (apply OpW.k_call; first | (apply OpW.k_callf 36; exact OpW.callV kc (Evs.cons rfl (Evs.cons rfl Evs.nil)))) | refine goR ?_ | refine goP ?_ | apply PSeq.cons | apply PSeq.yes rfl rfl rfl | exact goW | fail)
  exact Fin.ret (Ent.take goTk) (Outs.one rfl rfl) ⟨rfl, rfl⟩
theorem frSD_fn (J : List Int) (D : Int) (hl : J.length ≤ 15) (b : Nat) (ad : Option Addr) (cap : Nat) : Spec Try.prog 34 [Tr.raw (.slice ad J.length cap), Tr.raw (.func (.func 35) #[] [Value.pointer (some ⟨b, 0, none⟩)].toArray)] [Chunk.own ad cap 1 3 (intRows (ordL J.length J.length)), Chunk.box b 27 [.ints J, .int D]] (fun r cs => r = Tr.tup [] ∧ cs = [Chunk.own ad cap 1 3 (intRows (frS J)), Chunk.box b 27 [.ints J, .int D]]) := by
  have h := sortStable_int (n := J.length) (xs := ordL J.length J.length) (ad := ad) (cap := cap) (g := 35) (caps := [.pointer (some ⟨b, 0, none⟩)]) (cin := [Chunk.box b 27 [.ints J, .int D]]) (lt := frLt J) (cf := fun a c => cmpI (jbI J c) (jbI J a)) (fun a c => by unfold frLt; rw [Bool.eq_iff_iff, decide_eq_true_iff, decide_eq_true_iff, cmpI_lt]) (by rw [ordL_len (Nat.le_refl _)]; omega) (ordL_len (Nat.le_refl _)).symm (fun a c h1 h2 => frD_fn J D b a c (ordL_mem h1) (ordL_mem h2) (by omega))
  unfold frS
  unfold intRows
  exact h
theorem frSR_fn (J : List Int) (D : Int) (hl : J.length ≤ 15) (b : Nat) (ad : Option Addr) (cap : Nat) : Spec Try.prog 34 [Tr.raw (.slice ad J.length cap), Tr.raw (.func (.func 47) #[] [Value.pointer (some ⟨b, 0, none⟩)].toArray)] [Chunk.own ad cap 1 3 (intRows (ordL J.length J.length)), Chunk.box b 27 [.ints J, .int D]] (fun r cs => r = Tr.tup [] ∧ cs = [Chunk.own ad cap 1 3 (intRows (frS J)), Chunk.box b 27 [.ints J, .int D]]) := by
  have h := sortStable_int (n := J.length) (xs := ordL J.length J.length) (ad := ad) (cap := cap) (g := 47) (caps := [.pointer (some ⟨b, 0, none⟩)]) (cin := [Chunk.box b 27 [.ints J, .int D]]) (lt := frLt J) (cf := fun a c => cmpI (jbI J c) (jbI J a)) (fun a c => by unfold frLt; rw [Bool.eq_iff_iff, decide_eq_true_iff, decide_eq_true_iff, cmpI_lt]) (by rw [ordL_len (Nat.le_refl _)]; omega) (ordL_len (Nat.le_refl _)).symm (fun a c h1 h2 => frR_fn J D b a c (ordL_mem h1) (ordL_mem h2) (by omega))
  unfold frS
  unfold intRows
  exact h
theorem fair_fn (J : List Int) (D : Int) (hl : J.length ≤ 15) (hw : weekE J D = 0) : PFn Try.prog 11 [.week J D] (· = .tup [.ints (frO J D), .int 0]) := by
  have k1 := checkPlan_fn J D (by omega)
  rw [hw] at k1
  obtain ⟨hD, hJ⟩ := weekE_ok hw
  have hJR := intRows_len J
  obtain ⟨n, hn⟩ : ∃ n : Nat, D.toNat = n := ⟨_, rfl⟩
  have hDn : D = n := by omega
  unfold frO
  rw [hn]
  subst hDn
  obtain ⟨R, hR⟩ : ∃ R, R = frF J (frS J) (List.replicate J.length 0) (List.replicate n 0) := ⟨_, rfl⟩
  rw [← hR]
  have hz : List.map Tr.raw [Value.int .i64 0] = [Tr.int 0] := rfl
  have kS := frSD_fn J n hl
  have hSl := frS_len J
  have hSm : ∀ x ∈ frS J, 0 ≤ x ∧ x < J.length := fun x hx => frS_mem hx
  have hSR := (intRows_len (frS J)).trans hSl
  refine PFn.mk (Spec.body Try.func11 rfl rfl (Try.ntmps11) rfl fun w0 own0 M => ?_)
  repeat' (first | refine goH ?_ | refine goV ?_ | refine goB (fun b => ?_) | refine goC (fun ad cap => ?_) | refine goI ?_ | (refine Cw.k_cond ?_; first | (refine Cw.cond_dec rfl (fun hc => ?_) (fun hc => ?_) <;> try (exfalso; omega)) | refine Cw.cond_bool rfl (fun hc => ?_) (fun hc => ?_)) | (refine Ops.k_calla ?_; first | (refine Ops.k_callf 8 ?_; refine Ops.callV k1 (Evs.cons rfl Evs.nil) rfl ?_)) | (apply OpW.k_call; first | (apply OpW.k_callf 8; exact OpW.callV k1 (Evs.cons rfl Evs.nil))) | refine goR ?_ | refine goP ?_ | apply PSeq.cons | apply PSeq.yes rfl rfl rfl | exact goW | fail)
  rw [hz, hJR, Int.toNat_natCast, intRows_rep, ← ordL_zero]
  refine Cw.loopI [(1, _), (5, _), (22, _)] _ (fun q e cc => ∃ (k : Nat), q = J.length - k ∧ (k ≤ J.length) ∧ e = [(23, .int k)] ∧ cc = [Chunk.own ad cap 1 3 (intRows (ordL J.length k))]) ⟨_, _, _, (Ent.mkP goSub goPm), 0, rfl, by omega, rfl, rfl⟩ ?_
  rintro _ _ _ ⟨k, rfl, hk, rfl, rfl⟩
  have hol := (intRows_len (ordL J.length k)).trans (ordL_len hk)
  by_cases hkl : k < J.length
  · obtain ⟨y, hy⟩ := at_lt (l := ordL J.length k) (k := k) (by rw [ordL_len hk]; exact hkl)
    have r1 := intRows_at hy
    have hset := ordL_set hkl
    clear hy
    repeat' (first | refine goH ?_ | refine goV ?_ | refine goB (fun b => ?_) | refine goC (fun ad cap => ?_) | refine goI ?_ | (refine Cw.k_cond ?_; first | (refine Cw.cond_dec rfl (fun hc => ?_) (fun hc => ?_) <;> try (exfalso; omega)) | refine Cw.cond_bool rfl (fun hc => ?_) (fun hc => ?_)) | refine goR ?_ | refine goP ?_ | apply PSeq.cons | apply PSeq.yes rfl rfl rfl | exact goW | fail)
    erw [int_set, hset]
    exact ⟨_, _, _, (Ent.mk goSub goTk), ⟨k + 1, rfl, by omega, rfl, rfl⟩, by omega⟩
  have hkn : k = J.length := by omega
  subst hkn
  repeat' (first | refine goH ?_ | refine goV ?_ | refine goB (fun b => ?_) | refine goC (fun ad cap => ?_) | refine goI ?_ | (refine Cw.k_cond ?_; first | (refine Cw.cond_dec rfl (fun hc => ?_) (fun hc => ?_) <;> try (exfalso; omega)) | refine Cw.cond_bool rfl (fun hc => ?_) (fun hc => ?_)) | (refine Ops.k_calla ?_; first | (refine Ops.k_callf 34 ?_; (refine Ops.call (kS _ _ _) (Evs.cons rfl (Evs.cons rfl Evs.nil)) goPm rfl ?_; rintro y cs' ⟨rfl, rfl⟩))) | fail)
  first | refine Cw.region_YP (fun ξ S => Chunk.own ad cap 1 3 (intRows (frS J)) :: Chunk.box b 27 [.ints J, .int n] :: (stg (S 3) [] [ownV (ξ 3) 1 3 (List.replicate (intRows J).length [Tr.int 0])] ++ (stg (S 6) [] [ownV (ξ 6) 1 3 (List.replicate n [Tr.int 0])] ++ []))) rfl (by decide +kernel) rfl ((fun (ξ : Nat → Value) (S : Nat → Bool) => Chunk.own ad cap 1 3 (intRows (frS J)) :: Chunk.box b 27 [.ints J, .int n] :: (stg (S 3) [] [ownV (ξ 3) 1 3 (List.replicate (intRows J).length [Tr.int 0])] ++ (stg (S 6) [] [ownV (ξ 6) 1 3 (List.replicate n [Tr.int 0])] ++ []))) (fun _ => undef) (fun _ => false)) (by simp only [upd_same, updD_same, upd_ne, updD_ne, ne_eq, Nat.reduceEqDiff, not_false_eq_true, stg_t, stg_f, vAd_s, vCap_s, blk_p, List.cons_append, List.nil_append, b2n_t, b2n_f]; exact goXm) (fun _ => rfl) ?_ | fail
  apply YSeq.w (by intro _ _ _; rfl)
  · intro ξ S h1 h2 h3 h4
    have hN0_1 := closed_false h1 h3 (k := 1) rfl (by decide)
    have hN0_2 := closed_false hN0_1 h3 (k := 2) rfl (by decide)
    have hN0_3 := closed_false hN0_2 h3 (k := 3) rfl (by decide)
    try simp only [upd_same, updD_same, upd_ne, updD_ne, ne_eq, Nat.reduceEqDiff, not_false_eq_true, stg_t, stg_f, vAd_s, vCap_s, blk_p, List.cons_append, List.nil_append, b2n_t, b2n_f, hN0_3]
    exact goW
  · intro ξ v; rfl
  · intro ξ k v S h3 hn hk
    first
    | rfl
  apply YSeq.w (by intro _ _ _; rfl)
  · intro ξ S h1 h2 h3 h4
    have hN1_2 := closed_false h1 h3 (k := 2) rfl (by decide)
    have hN1_3 := closed_false hN1_2 h3 (k := 3) rfl (by decide)
    try simp only [upd_same, updD_same, upd_ne, updD_ne, ne_eq, Nat.reduceEqDiff, not_false_eq_true, stg_t, stg_f, vAd_s, vCap_s, blk_p, List.cons_append, List.nil_append, b2n_t, b2n_f, hN1_3]
    exact goW
  · intro ξ v; rfl
  · intro ξ k v S h3 hn hk
    first
    | rfl
  apply YSeq.w (by intro _ _ _; rfl)
  · intro ξ S h1 h2 h3 h4
    have hN2_3 := closed_false h1 h3 (k := 3) rfl (by decide)
    try simp only [upd_same, updD_same, upd_ne, updD_ne, ne_eq, Nat.reduceEqDiff, not_false_eq_true, stg_t, stg_f, vAd_s, vCap_s, blk_p, List.cons_append, List.nil_append, b2n_t, b2n_f, hN2_3]
    exact goW
  · intro ξ v; rfl
  · intro ξ k v S h3 hn hk
    first
    | rfl
  apply YSeq.mkOwn ((intRows J).length) (fun _ => rfl) (fun _ => rfl) (by omega) (by omega)
  · intro ξ S h1 h3 ad cap
    simp only [upd_same, updD_same, upd_ne, updD_ne, ne_eq, Nat.reduceEqDiff, not_false_eq_true, stg_t, stg_f, vAd_s, vCap_s, blk_p, List.cons_append, List.nil_append, b2n_t, b2n_f, h1]
    exact goXm
  apply YSeq.w (by intro _ _ _; rfl)
  · intro ξ S h1 h2 h3 h4
    have hN4_5 := closed_false h1 h3 (k := 5) rfl (by decide)
    have hN4_6 := closed_false hN4_5 h3 (k := 6) rfl (by decide)
    try simp only [upd_same, updD_same, upd_ne, updD_ne, ne_eq, Nat.reduceEqDiff, not_false_eq_true, stg_t, stg_f, vAd_s, vCap_s, blk_p, List.cons_append, List.nil_append, b2n_t, b2n_f, hN4_6]
    exact goW
  · intro ξ v; rfl
  · intro ξ k v S h3 hn hk
    first
    | rfl
  apply YSeq.w (by intro _ _ _; rfl)
  · intro ξ S h1 h2 h3 h4
    have hN5_6 := closed_false h1 h3 (k := 6) rfl (by decide)
    try simp only [upd_same, updD_same, upd_ne, updD_ne, ne_eq, Nat.reduceEqDiff, not_false_eq_true, stg_t, stg_f, vAd_s, vCap_s, blk_p, List.cons_append, List.nil_append, b2n_t, b2n_f, hN5_6]
    exact goW
  · intro ξ v; rfl
  · intro ξ k v S h3 hn hk
    first
    | rfl
  apply YSeq.mkOwn (n) (fun _ => rfl) (fun _ => rfl) (by omega) (by omega)
  · intro ξ S h1 h3 ad cap
    simp only [upd_same, updD_same, upd_ne, updD_ne, ne_eq, Nat.reduceEqDiff, not_false_eq_true, stg_t, stg_f, vAd_s, vCap_s, blk_p, List.cons_append, List.nil_append, b2n_t, b2n_f, h1]
    exact goXm
  apply YSeq.w (by intro _ _ _; rfl)
  · intro ξ S h1 h2 h3 h4
    have hY7_3 : S 3 = true := h2 3 (by decide)
    try simp only [upd_same, updD_same, upd_ne, updD_ne, ne_eq, Nat.reduceEqDiff, not_false_eq_true, stg_t, stg_f, vAd_s, vCap_s, blk_p, List.cons_append, List.nil_append, b2n_t, b2n_f, hY7_3]
    exact goW
  · intro ξ v; rfl
  · intro ξ k v S h3 hn hk
    first
    | rfl
    | skip
      have hY7_3 : S 3 = true := h3 7 _ rfl hn 3 (by decide)
      simp only [upd_S hY7_3 hk]
  apply YSeq.w (by intro _ _ _; rfl)
  · intro ξ S h1 h2 h3 h4
    have hY8_3 : S 3 = true := h2 3 (by decide)
    have hY8_6 : S 6 = true := h2 6 (by decide)
    try simp only [upd_same, updD_same, upd_ne, updD_ne, ne_eq, Nat.reduceEqDiff, not_false_eq_true, stg_t, stg_f, vAd_s, vCap_s, blk_p, List.cons_append, List.nil_append, b2n_t, b2n_f, hY8_3, hY8_6]
    exact goW
  · intro ξ v; rfl
  · intro ξ k v S h3 hn hk
    first
    | rfl
    | skip
      have hY8_3 : S 3 = true := h3 8 _ rfl hn 3 (by decide)
      have hY8_6 : S 6 = true := h3 8 _ rfl hn 6 (by decide)
      simp only [upd_S hY8_3 hk, upd_S hY8_6 hk]
  refine YSeq.nil fun ξ hf => ?_
  refine ⟨[(1, _), (5, _), (7, _), (8, _)], _, Ent.trans (Ent.eqc rfl (by simp only [upd_same, updD_same, upd_ne, updD_ne, ne_eq, Nat.reduceEqDiff, not_false_eq_true, stg_t, stg_f, vAd_s, vCap_s, blk_p, List.cons_append, List.nil_append, b2n_t, b2n_f, ownV, slV, ptV] <;> rfl)) (Ent.sub goSub), ?_⟩
  clear hf
  generalize vAd (ξ 3) = ad37
  generalize vCap (ξ 3) = cap37
  generalize vAd (ξ 6) = ad40
  generalize vCap (ξ 6) = cap40
  refine Then.norm ?_
  rw [hJR, intRows_rep, intRows_rep]
  repeat' (first | refine goH ?_ | refine goV ?_ | refine goB (fun b => ?_) | refine goC (fun ad cap => ?_) | refine goI ?_ | (refine Cw.k_cond ?_; first | (refine Cw.cond_dec rfl (fun hc => ?_) (fun hc => ?_) <;> try (exfalso; omega)) | refine Cw.cond_bool rfl (fun hc => ?_) (fun hc => ?_)) | refine goR ?_ | refine goP ?_ | apply PSeq.cons | apply PSeq.yes rfl rfl rfl | exact goW | fail)
  refine Cw.loopI [(1, _), (7, _), (8, _), (41, _), (42, _)] _ (fun q e cc => ∃ (k : Nat) (out L : List Int), q = J.length - k ∧ (k ≤ J.length ∧ R = frF J ((frS J).drop k) out L ∧ out.length = J.length ∧ L.length = n ∧ ∀ y ∈ L, 0 ≤ y ∧ y ≤ (k : Int) * 10000) ∧ e = [(43, .int k)] ∧ cc = [Chunk.own ad37 cap37 1 3 (intRows out), Chunk.own ad40 cap40 1 3 (intRows L)])
    ⟨_, _, _, (Ent.mkP goSub goPm), 0, List.replicate J.length 0, List.replicate n 0, rfl, ⟨by omega, by rw [hR, List.drop_zero], List.length_replicate, List.length_replicate, fun y hy => by rw [List.eq_of_mem_replicate hy]; simp⟩, rfl, rfl⟩ ?_
  rintro _ _ _ ⟨k, out, L, rfl, ⟨hk, hV, hol, hLl, hLb⟩, rfl, rfl⟩
  have hor := (intRows_len out).trans hol
  have hLr := (intRows_len L).trans hLl
  by_cases hkl : k < J.length
  rotate_left
  · rw [frF_end (by omega)] at hV
    rw [hV]
    clear hV
    rw [← hor]
    repeat' (first | refine goH ?_ | refine goV ?_ | refine goB (fun b => ?_) | refine goC (fun ad cap => ?_) | refine goI ?_ | (refine Cw.k_cond ?_; first | (refine Cw.cond_dec rfl (fun hc => ?_) (fun hc => ?_) <;> try (exfalso; omega)) | refine Cw.cond_bool rfl (fun hc => ?_) (fun hc => ?_)) | refine goR ?_ | refine goP ?_ | apply PSeq.cons | apply PSeq.yes rfl rfl rfl | exact goW | fail)
    refine Fin.ret (Ent.trans (Ent.settle (s := 2) rfl goPk rfl) (Ent.take goTk)) (Outs.many rfl (OutL.cons goOe (OutL.cons goOe OutL.nil)) rfl) ⟨rfl, rfl⟩
  obtain ⟨i, hi⟩ := at_lt (l := frS J) (k := k) (by omega)
  have r1 := intRows_at hi
  have hib := hSm i (List.mem_of_getElem? hi)
  rw [frF_drop hi] at hV
  have hmm := mnL_mem (l := L) (by omega)
  have hdl := idxN_lt hmm
  obtain ⟨x, hx⟩ := at_lt (l := J) (k := i.toNat) (by omega)
  have r2 := intRows_at hx
  have hxb := hJ x (List.mem_of_getElem? hx)
  rw [jbI_at hx] at hV
  have kMn := minO_fn (ad := ad40) (cap := cap40) (n := n) L hLr.symm (by omega)
  have kIx := indexO_fn (ad := ad40) (cap := cap40) (n := n) L (mnL L) hmm hLr.symm (by omega)
  generalize mnL L = mn at *
  generalize idxN L mn = d at *
  obtain ⟨v, hv⟩ := at_lt (l := L) (k := d) (by omega)
  have hvb := hLb v (List.mem_of_getElem? hv)
  have r3 := intRows_at hv
  obtain ⟨o, ho⟩ := at_lt (l := out) (k := i.toNat) (by omega)
  have r4 := intRows_at ho
  have hset : L.set d (v + x) = bump L d x := by
    have := bump_at (d := (d : Int)) (x := x) (by rw [Int.toNat_natCast]; exact hv)
    rw [this, Int.toNat_natCast]
  have hbd := bump_bd (d := (d : Int)) (x := x) hLb hxb (by omega)
  have hbl := (bump_len L d x).trans hLl
  clear hi hx hv ho hmm
  repeat' (first | refine goH ?_ | refine goV ?_ | refine goB (fun b => ?_) | refine goC (fun ad cap => ?_) | refine goI ?_ | (refine Cw.k_cond ?_; first | (refine Cw.cond_dec rfl (fun hc => ?_) (fun hc => ?_) <;> try (exfalso; omega)) | refine Cw.cond_bool rfl (fun hc => ?_) (fun hc => ?_)) | (refine Ops.k_calla ?_; first | (refine Ops.k_callf 38 ?_; (refine Ops.call kMn (Evs.cons rfl Evs.nil) goPm rfl ?_; rintro y cs' ⟨rfl, rfl⟩)) | (refine Ops.k_callf 37 ?_; (refine Ops.call kIx (Evs.cons rfl (Evs.cons rfl Evs.nil)) goPm rfl ?_; rintro y cs' ⟨rfl, rfl⟩))) | refine goR ?_ | refine goP ?_ | apply PSeq.cons | apply PSeq.yes rfl rfl rfl | exact goW | fail)
  erw [int_set, int_set, hset]
  exact ⟨_, _, _, (Ent.mk goSub goTk), ⟨k + 1, _, _, rfl, ⟨by omega, hV, by rw [List.length_set]; exact hol, hbl, fun y hy => by have := hbd y hy; omega⟩, rfl, rfl⟩, by omega⟩
theorem fairOf_fn (J : List Int) (D : Int) (hl : J.length ≤ 15) (hw : weekE J D = 0) : PFn Try.prog 22 [.week J D] (· = .ints (frO J D)) := by
  obtain ⟨hD, hJ⟩ := weekE_ok hw
  have hJR := intRows_len J
  obtain ⟨n, hn⟩ : ∃ n : Nat, D.toNat = n := ⟨_, rfl⟩
  have hDn : D = n := by omega
  unfold frO
  rw [hn]
  subst hDn
  obtain ⟨R, hR⟩ : ∃ R, R = frF J (frS J) (List.replicate J.length 0) (List.replicate n 0) := ⟨_, rfl⟩
  rw [← hR]
  have hz : List.map Tr.raw [Value.int .i64 0] = [Tr.int 0] := rfl
  have kS := frSR_fn J n hl
  have hSl := frS_len J
  have hSm : ∀ x ∈ frS J, 0 ≤ x ∧ x < J.length := fun x hx => frS_mem hx
  have hSR := (intRows_len (frS J)).trans hSl
  refine PFn.mk (Spec.body Try.func22 rfl rfl (Try.ntmps22) rfl fun w0 own0 M => ?_)
  repeat' (first | refine goH ?_ | refine goV ?_ | refine goB (fun b => ?_) | refine goC (fun ad cap => ?_) | refine goI ?_ | (refine Cw.k_cond ?_; first | (refine Cw.cond_dec rfl (fun hc => ?_) (fun hc => ?_) <;> try (exfalso; omega)) | refine Cw.cond_bool rfl (fun hc => ?_) (fun hc => ?_)) | refine goR ?_ | refine goP ?_ | apply PSeq.cons | apply PSeq.yes rfl rfl rfl | exact goW | fail)
  rename_i adO capO adL capL
  rw [hz, hJR, Int.toNat_natCast, Int.toNat_natCast, intRows_rep, intRows_rep]
  refine Cw.loopI [(1, _), (3, _), (4, _), (5, _), (22, _)] _ (fun q e cc => ∃ (k : Nat), q = J.length - k ∧ (k ≤ J.length) ∧ e = [(23, .int k)] ∧ cc = [Chunk.own ad cap 1 3 (intRows (ordL J.length k))]) ⟨_, _, _, (Ent.mkP goSub goPm), 0, rfl, by omega, rfl, rfl⟩ ?_
  rintro _ _ _ ⟨k, rfl, hk, rfl, rfl⟩
  have hol := (intRows_len (ordL J.length k)).trans (ordL_len hk)
  by_cases hkl : k < J.length
  · obtain ⟨y, hy⟩ := at_lt (l := ordL J.length k) (k := k) (by rw [ordL_len hk]; exact hkl)
    have r1 := intRows_at hy
    have hset := ordL_set hkl
    clear hy
    repeat' (first | refine goH ?_ | refine goV ?_ | refine goB (fun b => ?_) | refine goC (fun ad cap => ?_) | refine goI ?_ | (refine Cw.k_cond ?_; first | (refine Cw.cond_dec rfl (fun hc => ?_) (fun hc => ?_) <;> try (exfalso; omega)) | refine Cw.cond_bool rfl (fun hc => ?_) (fun hc => ?_)) | refine goR ?_ | refine goP ?_ | apply PSeq.cons | apply PSeq.yes rfl rfl rfl | exact goW | fail)
    erw [int_set, hset]
    exact ⟨_, _, _, (Ent.mk goSub goTk), ⟨k + 1, rfl, by omega, rfl, rfl⟩, by omega⟩
  have hkn : k = J.length := by omega
  subst hkn
  repeat' (first | refine goH ?_ | refine goV ?_ | refine goB (fun b => ?_) | refine goC (fun ad cap => ?_) | refine goI ?_ | (refine Cw.k_cond ?_; first | (refine Cw.cond_dec rfl (fun hc => ?_) (fun hc => ?_) <;> try (exfalso; omega)) | refine Cw.cond_bool rfl (fun hc => ?_) (fun hc => ?_)) | (refine Ops.k_calla ?_; first | (refine Ops.k_callf 34 ?_; (refine Ops.call (kS _ _ _) (Evs.cons rfl (Evs.cons rfl Evs.nil)) goPm rfl ?_; rintro y cs' ⟨rfl, rfl⟩))) | refine goR ?_ | refine goP ?_ | apply PSeq.cons | apply PSeq.yes rfl rfl rfl | exact goW | fail)
  refine Cw.loopI [(1, _), (3, _), (4, _), (34, _), (35, _)] _ (fun q e cc => ∃ (k : Nat) (out L : List Int), q = J.length - k ∧ (k ≤ J.length ∧ R = frF J ((frS J).drop k) out L ∧ out.length = J.length ∧ L.length = n ∧ ∀ y ∈ L, 0 ≤ y ∧ y ≤ (k : Int) * 10000) ∧ e = [(36, .int k)] ∧ cc = [Chunk.own adO capO 1 3 (intRows out), Chunk.own adL capL 1 3 (intRows L)])
    ⟨_, _, _, (Ent.mkP goSub goPm), 0, List.replicate J.length 0, List.replicate n 0, rfl, ⟨by omega, by rw [hR, List.drop_zero], List.length_replicate, List.length_replicate, fun y hy => by rw [List.eq_of_mem_replicate hy]; simp⟩, rfl, rfl⟩ ?_
  rintro _ _ _ ⟨k, out, L, rfl, ⟨hk, hV, hol, hLl, hLb⟩, rfl, rfl⟩
  have hor := (intRows_len out).trans hol
  have hLr := (intRows_len L).trans hLl
  by_cases hkl : k < J.length
  rotate_left
  · rw [frF_end (by omega)] at hV
    rw [hV]
    clear hV
    rw [← hor]
    repeat' (first | refine goH ?_ | refine goV ?_ | refine goB (fun b => ?_) | refine goC (fun ad cap => ?_) | refine goI ?_ | (refine Cw.k_cond ?_; first | (refine Cw.cond_dec rfl (fun hc => ?_) (fun hc => ?_) <;> try (exfalso; omega)) | refine Cw.cond_bool rfl (fun hc => ?_) (fun hc => ?_)) | refine goR ?_ | refine goP ?_ | apply PSeq.cons | apply PSeq.yes rfl rfl rfl | exact goW | fail)
    refine Fin.ret (Ent.trans (Ent.settle (s := 2) rfl goPk rfl) (Ent.take goTk)) (Outs.sole rfl goOe) ⟨rfl, rfl⟩
  obtain ⟨i, hi⟩ := at_lt (l := frS J) (k := k) (by omega)
  have r1 := intRows_at hi
  have hib := hSm i (List.mem_of_getElem? hi)
  rw [frF_drop hi] at hV
  have hmm := mnL_mem (l := L) (by omega)
  have hdl := idxN_lt hmm
  obtain ⟨x, hx⟩ := at_lt (l := J) (k := i.toNat) (by omega)
  have r2 := intRows_at hx
  have hxb := hJ x (List.mem_of_getElem? hx)
  rw [jbI_at hx] at hV
  have kMn := minO_fn (ad := adL) (cap := capL) (n := n) L hLr.symm (by omega)
  have kIx := indexO_fn (ad := adL) (cap := capL) (n := n) L (mnL L) hmm hLr.symm (by omega)
  generalize mnL L = mn at *
  generalize idxN L mn = d at *
  obtain ⟨v, hv⟩ := at_lt (l := L) (k := d) (by omega)
  have hvb := hLb v (List.mem_of_getElem? hv)
  have r3 := intRows_at hv
  obtain ⟨o, ho⟩ := at_lt (l := out) (k := i.toNat) (by omega)
  have r4 := intRows_at ho
  have hset : L.set d (v + x) = bump L d x := by
    have := bump_at (d := (d : Int)) (x := x) (by rw [Int.toNat_natCast]; exact hv)
    rw [this, Int.toNat_natCast]
  have hbd := bump_bd (d := (d : Int)) (x := x) hLb hxb (by omega)
  have hbl := (bump_len L d x).trans hLl
  clear hi hx hv ho hmm
  repeat' (first | refine goH ?_ | refine goV ?_ | refine goB (fun b => ?_) | refine goC (fun ad cap => ?_) | refine goI ?_ | (refine Cw.k_cond ?_; first | (refine Cw.cond_dec rfl (fun hc => ?_) (fun hc => ?_) <;> try (exfalso; omega)) | refine Cw.cond_bool rfl (fun hc => ?_) (fun hc => ?_)) | (refine Ops.k_calla ?_; first | (refine Ops.k_callf 38 ?_; (refine Ops.call kMn (Evs.cons rfl Evs.nil) goPm rfl ?_; rintro y cs' ⟨rfl, rfl⟩)) | (refine Ops.k_callf 37 ?_; (refine Ops.call kIx (Evs.cons rfl (Evs.cons rfl Evs.nil)) goPm rfl ?_; rintro y cs' ⟨rfl, rfl⟩))) | refine goR ?_ | refine goP ?_ | apply PSeq.cons | apply PSeq.yes rfl rfl rfl | exact goW | fail)
  erw [int_set, int_set, hset]
  exact ⟨_, _, _, (Ent.mk goSub goTk), ⟨k + 1, _, _, rfl, ⟨by omega, hV, by rw [List.length_set]; exact hol, hbl, fun y hy => by have := hbd y hy; omega⟩, rfl, rfl⟩, by omega⟩
end Lg
end
section
set_option linter.all false
namespace Lg
open Go Go.Proofs

theorem Ops.shut0 {P : Program} {Γ : Ctx} {env : Env} {cs : List Chunk} {Q : Post} {R : Array Oper} {l : List Oper} {ty b : Nat} {cells : List Tr} {rows : List (List Tr)} (h : cells = [Tr.sl 1 rows, Tr.int ((0 : Nat) : Int)]) (k : Ops P Γ R l env (Chunk.strm ty b rows 0 :: cs) Q) : Ops P Γ R l env (Chunk.box b ty cells :: cs) Q := by
  subst h
  exact Ops.ent (Ent.shut_strm (m := 0) (Nat.le_refl 0)) k
end Lg
end
