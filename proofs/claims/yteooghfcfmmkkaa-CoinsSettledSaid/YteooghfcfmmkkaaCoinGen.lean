/- A part of the proof of a law of this seat: it adds no condition. By an AI agent. -/
import Derived.Test.YteooghfcfmmkkaaCo3
section
set_option linter.all false
set_option maxRecDepth 100000
set_option maxHeartbeats 8000000
namespace Lg
open Go Go.Proofs

theorem coRep (n : Nat) : List.replicate n [Tr.int 0] = intRows (List.replicate n 0) := by unfold intRows; rw [List.map_replicate]
theorem coSet (l : List Int) (i : Nat) (v : Int) : (intRows l).set i [Tr.int v] = intRows (l.set i v) := by unfold intRows; rw [List.map_set]
theorem coSet2 (l : List Int) (i : Nat) (v : Int) : (intRows l).set ((i : Int)).toNat [Tr.int v] = intRows (l.set i v) := coSet l i v
def float1 (l : List Tube) (w : Int) : List Int × Int := if tubesErr l ≠ 0 then ([], tubesErr l) else if w < 0 ∨ 1000000000 < w then ([], 1) else (floatR l w, 0)
attribute [local irreducible] intRows flF flT flUp
theorem float_fn (l : List Tube) (want : Int) (k1 : PFn Try.prog 24 [.tubes l] (· = .int (tubesErr l))) : PFn Try.prog 10 [.tubes l, .int want] (· = .tup [.ints (float1 l want).1, .int (float1 l want).2]) := by
  refine PFn.mk (Spec.body Try.func10 rfl rfl (Try.ntmps10) rfl fun w0 own0 M => ?_)
  by_cases h0 : tubesErr l ≠ 0
  · rw [show float1 l want = ([], tubesErr l) by unfold float1; rw [if_pos h0]]
    repeat' (first | refine goH ?_ | refine goV ?_ | refine goB (fun b => ?_) | refine goC (fun ad cap => ?_) | refine goG ?_ | (refine Ops.k_guard ?_; first | (refine Ops.guard_dec rfl rfl (fun hc => ?_) (fun hc => ?_) <;> try (exfalso; omega)) | refine Ops.guard_split rfl rfl (fun hc => ?_) (fun hc => ?_)) | refine goI ?_ | (refine Cw.k_cond ?_; first | (refine Cw.cond_dec rfl (fun hc => ?_) (fun hc => ?_) <;> try (exfalso; omega)) | refine Cw.cond_bool rfl (fun hc => ?_) (fun hc => ?_)) | (refine Ops.k_calla ?_; first | refine Ops.callV k1 (Evs.cons rfl Evs.nil) rfl ?_) | (apply OpW.k_call; first | exact OpW.callV k1 (Evs.cons rfl Evs.nil)) | refine goR ?_ | refine goP ?_ | apply PSeq.cons | apply PSeq.yes rfl rfl rfl | exact goW | fail)
    exact Fin.ret (Ent.trans (Ent.nilsl 1 (s := 4) rfl) (Ent.take goTk)) (Outs.two rfl rfl rfl) ⟨rfl, by with_unfolding_all rfl⟩
  replace h0 : tubesErr l = 0 := by omega
  rw [h0] at k1
  have ho := tubesErr_ok h0
  by_cases h1 : want < 0 ∨ 1000000000 < want
  · rw [show float1 l want = ([], 1) by unfold float1; rw [if_neg (by omega), if_pos h1]]
    repeat' (first | refine goH ?_ | refine goV ?_ | refine goB (fun b => ?_) | refine goC (fun ad cap => ?_) | refine goG ?_ | (refine Ops.k_guard ?_; first | (refine Ops.guard_dec rfl rfl (fun hc => ?_) (fun hc => ?_) <;> try (exfalso; omega)) | refine Ops.guard_split rfl rfl (fun hc => ?_) (fun hc => ?_)) | refine goI ?_ | (refine Cw.k_cond ?_; first | (refine Cw.cond_dec rfl (fun hc => ?_) (fun hc => ?_) <;> try (exfalso; omega)) | refine Cw.cond_bool rfl (fun hc => ?_) (fun hc => ?_)) | (refine Ops.k_calla ?_; first | refine Ops.callV k1 (Evs.cons rfl Evs.nil) rfl ?_ | (refine Ops.k_callf 27 ?_; refine Ops.callV (out_t want 0 1000000000 (by omega)) (Evs.cons rfl (Evs.cons rfl (Evs.cons rfl Evs.nil))) rfl ?_)) | (apply OpW.k_call; first | exact OpW.callV k1 (Evs.cons rfl Evs.nil) | (apply OpW.k_callf 27; exact OpW.callV (out_t want 0 1000000000 (by omega)) (Evs.cons rfl (Evs.cons rfl (Evs.cons rfl Evs.nil))))) | refine goR ?_ | refine goP ?_ | apply PSeq.cons | apply PSeq.yes rfl rfl rfl | exact goW | fail)
    exact Fin.ret (Ent.trans (Ent.nilsl 1 (s := 4) rfl) (Ent.take goTk)) (Outs.two rfl rfl rfl) ⟨rfl, by with_unfolding_all rfl⟩
  rw [show float1 l want = (floatR l want, 0) by unfold float1; rw [if_neg (by omega), if_neg h1]]
  have hL : (l.map Tube.row).length = l.length := List.length_map _
  have hlen := ho.len
  have hk0 := flOk_0 l (w := want) (by omega)
  obtain ⟨R, hR⟩ : ∃ R, R = flF l (List.replicate l.length 0) want := ⟨_, rfl⟩
  unfold floatR
  rw [← hR]
  have hz : List.map Tr.raw [Value.int .i64 0] = [Tr.int 0] := rfl
  repeat' (first | refine goH ?_ | refine goV ?_ | refine goB (fun b => ?_) | refine goC (fun ad cap => ?_) | refine goG ?_ | (refine Ops.k_guard ?_; first | (refine Ops.guard_dec rfl rfl (fun hc => ?_) (fun hc => ?_) <;> try (exfalso; omega)) | refine Ops.guard_split rfl rfl (fun hc => ?_) (fun hc => ?_)) | refine goI ?_ | (refine Cw.k_cond ?_; first | (refine Cw.cond_dec rfl (fun hc => ?_) (fun hc => ?_) <;> try (exfalso; omega)) | refine Cw.cond_bool rfl (fun hc => ?_) (fun hc => ?_)) | (refine Ops.k_calla ?_; first | refine Ops.callV k1 (Evs.cons rfl Evs.nil) rfl ?_ | (refine Ops.k_callf 27 ?_; refine Ops.callV (out_f want 0 1000000000 (by omega)) (Evs.cons rfl (Evs.cons rfl (Evs.cons rfl Evs.nil))) rfl ?_)) | (apply OpW.k_call; first | exact OpW.callV k1 (Evs.cons rfl Evs.nil) | (apply OpW.k_callf 27; exact OpW.callV (out_f want 0 1000000000 (by omega)) (Evs.cons rfl (Evs.cons rfl (Evs.cons rfl Evs.nil))))) | refine goR ?_ | refine goP ?_ | apply PSeq.cons | apply PSeq.yes rfl rfl rfl | exact goW | fail)
  rw [hz, hL, Int.toNat_natCast, coRep]
  refine Cw.loopI [(0, _), (7, _)] _ (fun q e cc => ∃ (o : List Int) (w : Int) (b : Bool), (b = true → q = w.toNat + 1) ∧ (b = false → q = 0) ∧ FlOk l o w ∧ w ≤ want ∧ (b = true → R = flF l o w) ∧ (b = false → R = o) ∧ e = [(1, .int w), (8, .bool b)] ∧ cc = [Chunk.own ad cap 1 3 (intRows o)])
    ⟨_, _, _, (Ent.mkP goSub goPm), List.replicate l.length 0, want, true, fun _ => rfl, (fun h => nomatch h), hk0, Int.le_refl _, fun _ => hR, (fun h => nomatch h), rfl, rfl⟩ ?_
  clear hR hk0
  rintro _ _ _ ⟨o, w, b, hq, hq0, hk, hww, hR, hR0, rfl, rfl⟩
  cases b
  · have hR1 := hR0 rfl
    subst hR1
    have hol := (intRows_len R).trans hk.len
    have hkl := hk.len
    repeat' (first | refine goH ?_ | refine goV ?_ | refine goB (fun b => ?_) | refine goC (fun ad cap => ?_) | refine goG ?_ | (refine Ops.k_guard ?_; first | (refine Ops.guard_dec rfl rfl (fun hc => ?_) (fun hc => ?_) <;> try (exfalso; omega)) | refine Ops.guard_split rfl rfl (fun hc => ?_) (fun hc => ?_)) | refine goI ?_ | (refine Cw.k_cond ?_; first | (refine Cw.cond_dec rfl (fun hc => ?_) (fun hc => ?_) <;> try (exfalso; omega)) | refine Cw.cond_bool rfl (fun hc => ?_) (fun hc => ?_)) | refine goR ?_ | refine goP ?_ | apply PSeq.cons | apply PSeq.yes rfl rfl rfl | exact goW | fail)
    refine Cw.loopI [(7, _), (55, _), (56, _)] _ (fun q e cc => ∃ (k : Nat) (T : List Int), q = l.length - k ∧ (k ≤ l.length ∧ T = flT l R k) ∧ e = [(57, .int k)] ∧ cc = [Chunk.own ad cap 1 3 (intRows T)]) ⟨_, _, _, (Ent.mkP goSub goPm), 0, R, rfl, ⟨by omega, by with_unfolding_all rfl⟩, rfl, rfl⟩ ?_
    rintro _ _ _ ⟨k, T, rfl, ⟨hkn, hT⟩, rfl, rfl⟩
    have hol : (intRows T).length = l.length := by rw [hT]; exact (intRows_len (flT l R k)).trans ((flT_len l R k).trans hk.len)
    by_cases hkk : k < l.length
    · subst hT
      obtain ⟨d, hd⟩ := at_lt (l := l) (k := k) (by omega)
      have hv := ho.val d (List.mem_of_getElem? hd)
      have hct := ho.cnt d (List.mem_of_getElem? hd)
      have hrow : (l.map Tube.row)[k]? = some [Tr.int d.val, Tr.int d.cnt, Tr.int d.most] := rows_at hd
      obtain ⟨x, hx⟩ := at_lt (l := R) (k := k) (by omega)
      have hxb := hk.bd x (List.mem_of_getElem? hx)
      have hst := flT_step hd hx
      have r1 := intRows_at ((flT_at (l := l) (o := R) (Nat.le_refl k)).trans hx)
      clear hd hx
      repeat' (first | refine goH ?_ | refine goV ?_ | refine goB (fun b => ?_) | refine goC (fun ad cap => ?_) | refine goG ?_ | (refine Ops.k_guard ?_; first | (refine Ops.guard_dec rfl rfl (fun hc => ?_) (fun hc => ?_) <;> try (exfalso; omega)) | refine Ops.guard_split rfl rfl (fun hc => ?_) (fun hc => ?_)) | refine goI ?_ | (refine Cw.k_cond ?_; first | (refine Cw.cond_dec rfl (fun hc => ?_) (fun hc => ?_) <;> try (exfalso; omega)) | refine Cw.cond_bool rfl (fun hc => ?_) (fun hc => ?_)) | refine goR ?_ | refine goP ?_ | apply PSeq.cons | apply PSeq.yes rfl rfl rfl | exact goW | fail)
      erw [coSet, ← hst]
      exact ⟨_, _, _, (Ent.mk goSub goTk), ⟨k + 1, _, rfl, ⟨by omega, rfl⟩, rfl, rfl⟩, by omega⟩
    have hkn : k = l.length := by omega
    subst hkn
    rw [← hT, ← hol]
    clear hT
    repeat' (first | refine goH ?_ | refine goV ?_ | refine goB (fun b => ?_) | refine goC (fun ad cap => ?_) | refine goG ?_ | (refine Ops.k_guard ?_; first | (refine Ops.guard_dec rfl rfl (fun hc => ?_) (fun hc => ?_) <;> try (exfalso; omega)) | refine Ops.guard_split rfl rfl (fun hc => ?_) (fun hc => ?_)) | refine goI ?_ | (refine Cw.k_cond ?_; first | (refine Cw.cond_dec rfl (fun hc => ?_) (fun hc => ?_) <;> try (exfalso; omega)) | refine Cw.cond_bool rfl (fun hc => ?_) (fun hc => ?_)) | refine goR ?_ | refine goP ?_ | apply PSeq.cons | apply PSeq.yes rfl rfl rfl | exact goW | fail)
    refine Fin.ret (Ent.trans (Ent.settle (s := 4) rfl goPk rfl) (Ent.take goTk)) (Outs.many rfl (OutL.cons goOe (OutL.cons goOe OutL.nil)) rfl) ⟨rfl, rfl⟩
  have hq1 := hq rfl
  have hR1 := hR rfl
  subst hq1
  clear hq hq0 hR hR0
  repeat' (first | refine goH ?_ | refine goV ?_ | refine goB (fun b => ?_) | refine goC (fun ad cap => ?_) | refine goG ?_ | (refine Ops.k_guard ?_; first | (refine Ops.guard_dec rfl rfl (fun hc => ?_) (fun hc => ?_) <;> try (exfalso; omega)) | refine Ops.guard_split rfl rfl (fun hc => ?_) (fun hc => ?_)) | refine goI ?_ | (refine Cw.k_cond ?_; first | (refine Cw.cond_dec rfl (fun hc => ?_) (fun hc => ?_) <;> try (exfalso; omega)) | refine Cw.cond_bool rfl (fun hc => ?_) (fun hc => ?_)) | refine goR ?_ | refine goP ?_ | apply PSeq.cons | apply PSeq.yes rfl rfl rfl | exact goW | fail)
  have hol := hk.len
  refine Cw.loopI [(0, _), (7, _), (24, _), (25, _)] _ (fun q e cc => ∃ (k : Nat) (o2 : List Int) (w2 : Int) (b2 : Bool), q = l.length - k ∧ (k ≤ l.length ∧ flUp l (o, w, false) k = (o2, w2, b2)) ∧ e = [(1, .int w2), (8, .bool b2), (26, .int k)] ∧ cc = [Chunk.own ad cap 1 3 (intRows o2)])
    ⟨_, _, _, (Ent.mkP goSub goPm), 0, o, w, false, rfl, ⟨by omega, by with_unfolding_all rfl⟩, rfl, rfl⟩ ?_
  rintro _ _ _ ⟨k, o2, w2, b2, rfl, ⟨hkn, hU⟩, rfl, rfl⟩
  obtain ⟨hk2, hw2, hc2⟩ := flUp_ok ho hk k hkn o2 w2 b2 hU
  have hw0 := hk2.w0
  have hol2 := (intRows_len o2).trans hk2.len
  by_cases hkk : k < l.length
  · obtain ⟨d, hd⟩ := at_lt (l := l) (k := k) (by omega)
    have hv := ho.val d (List.mem_of_getElem? hd)
    have hct := ho.cnt d (List.mem_of_getElem? hd)
    have hrow : (l.map Tube.row)[k]? = some [Tr.int d.val, Tr.int d.cnt, Tr.int d.most] := rows_at hd
    have hk2l := hk2.len
    obtain ⟨x, hx⟩ := at_lt (l := o2) (k := k) (by omega)
    have hxb := hk2.bd x (List.mem_of_getElem? hx)
    have r1 := intRows_at hx
    by_cases c1 : x < d.most
    · by_cases c2 : d.val ≤ w2
      · have hst := flUp_yes hU hd hx c1 c2
        clear hd hx hU
        repeat' (first | refine goH ?_ | refine goV ?_ | refine goB (fun b => ?_) | refine goC (fun ad cap => ?_) | refine goG ?_ | (refine Ops.k_guard ?_; first | (refine Ops.guard_dec rfl rfl (fun hc => ?_) (fun hc => ?_) <;> try (exfalso; omega)) | refine Ops.guard_split rfl rfl (fun hc => ?_) (fun hc => ?_)) | refine goI ?_ | (refine Cw.k_cond ?_; first | (refine Cw.cond_dec rfl (fun hc => ?_) (fun hc => ?_) <;> try (exfalso; omega)) | refine Cw.cond_bool rfl (fun hc => ?_) (fun hc => ?_)) | refine goR ?_ | refine goP ?_ | apply PSeq.cons | apply PSeq.yes rfl rfl rfl | exact goW | fail)
        erw [coSet]
        exact ⟨_, _, _, (Ent.mk goSub goTk), ⟨k + 1, _, _, true, rfl, ⟨by omega, hst⟩, rfl, rfl⟩, by omega⟩
      · have hst := flUp_no hU hd hx (by omega)
        clear hd hx hU
        repeat' (first | refine goH ?_ | refine goV ?_ | refine goB (fun b => ?_) | refine goC (fun ad cap => ?_) | refine goG ?_ | (refine Ops.k_guard ?_; first | (refine Ops.guard_dec rfl rfl (fun hc => ?_) (fun hc => ?_) <;> try (exfalso; omega)) | refine Ops.guard_split rfl rfl (fun hc => ?_) (fun hc => ?_)) | refine goI ?_ | (refine Cw.k_cond ?_; first | (refine Cw.cond_dec rfl (fun hc => ?_) (fun hc => ?_) <;> try (exfalso; omega)) | refine Cw.cond_bool rfl (fun hc => ?_) (fun hc => ?_)) | refine goR ?_ | refine goP ?_ | apply PSeq.cons | apply PSeq.yes rfl rfl rfl | exact goW | fail)
        exact ⟨_, _, _, (Ent.mk goSub goTk), ⟨k + 1, _, _, _, rfl, ⟨by omega, hst⟩, rfl, rfl⟩, by omega⟩
    · have hst := flUp_no hU hd hx (by omega)
      clear hd hx hU
      repeat' (first | refine goH ?_ | refine goV ?_ | refine goB (fun b => ?_) | refine goC (fun ad cap => ?_) | refine goG ?_ | (refine Ops.k_guard ?_; first | (refine Ops.guard_dec rfl rfl (fun hc => ?_) (fun hc => ?_) <;> try (exfalso; omega)) | refine Ops.guard_split rfl rfl (fun hc => ?_) (fun hc => ?_)) | refine goI ?_ | (refine Cw.k_cond ?_; first | (refine Cw.cond_dec rfl (fun hc => ?_) (fun hc => ?_) <;> try (exfalso; omega)) | refine Cw.cond_bool rfl (fun hc => ?_) (fun hc => ?_)) | refine goR ?_ | refine goP ?_ | apply PSeq.cons | apply PSeq.yes rfl rfl rfl | exact goW | fail)
      exact ⟨_, _, _, (Ent.mk goSub goTk), ⟨k + 1, _, _, _, rfl, ⟨by omega, hst⟩, rfl, rfl⟩, by omega⟩
  have hkn : k = l.length := by omega
  subst hkn
  repeat' (first | refine goH ?_ | refine goV ?_ | refine goB (fun b => ?_) | refine goC (fun ad cap => ?_) | refine goG ?_ | (refine Ops.k_guard ?_; first | (refine Ops.guard_dec rfl rfl (fun hc => ?_) (fun hc => ?_) <;> try (exfalso; omega)) | refine Ops.guard_split rfl rfl (fun hc => ?_) (fun hc => ?_)) | refine goI ?_ | (refine Cw.k_cond ?_; first | (refine Cw.cond_dec rfl (fun hc => ?_) (fun hc => ?_) <;> try (exfalso; omega)) | refine Cw.cond_bool rfl (fun hc => ?_) (fun hc => ?_)) | refine goR ?_ | refine goP ?_ | apply PSeq.cons | apply PSeq.yes rfl rfl rfl | exact goW | fail)
  cases b2
  · exact ⟨_, _, _, (Ent.mk goSub goTk), ⟨o2, w2, false, (fun h => nomatch h), fun _ => rfl, hk2, by omega, (fun h => nomatch h), fun _ => by rw [hR1]; exact flF_end hU, rfl, rfl⟩, by omega⟩
  · have := hc2 rfl
    exact ⟨_, _, _, (Ent.mk goSub goTk), ⟨o2, w2, true, fun _ => rfl, (fun h => nomatch h), hk2, by omega, fun _ => by rw [hR1]; exact flF_next ho hk hU, (fun h => nomatch h), rfl, rfl⟩, by omega⟩
theorem floatOf_fn (l : List Tube) (ho : TbOk l) (want : Int) (h1 : 0 ≤ want ∧ want ≤ 1000000000) : PFn Try.prog 20 [.tubes l, .int want] (· = .ints (floatR l want)) := by
  refine PFn.mk (Spec.body Try.func20 rfl rfl (Try.ntmps20) rfl fun w0 own0 M => ?_)
  have hL : (l.map Tube.row).length = l.length := List.length_map _
  have hlen := ho.len
  have hk0 := flOk_0 l (w := want) (by omega)
  obtain ⟨R, hR⟩ : ∃ R, R = flF l (List.replicate l.length 0) want := ⟨_, rfl⟩
  unfold floatR
  rw [← hR]
  have hz : List.map Tr.raw [Value.int .i64 0] = [Tr.int 0] := rfl
  repeat' (first | refine goH ?_ | refine goV ?_ | refine goB (fun b => ?_) | refine goC (fun ad cap => ?_) | refine goG ?_ | (refine Ops.k_guard ?_; first | (refine Ops.guard_dec rfl rfl (fun hc => ?_) (fun hc => ?_) <;> try (exfalso; omega)) | refine Ops.guard_split rfl rfl (fun hc => ?_) (fun hc => ?_)) | refine goI ?_ | (refine Cw.k_cond ?_; first | (refine Cw.cond_dec rfl (fun hc => ?_) (fun hc => ?_) <;> try (exfalso; omega)) | refine Cw.cond_bool rfl (fun hc => ?_) (fun hc => ?_)) | refine goR ?_ | refine goP ?_ | apply PSeq.cons | apply PSeq.yes rfl rfl rfl | exact goW | fail)
  rw [hz, hL, Int.toNat_natCast, coRep]
  refine Cw.loopI [(0, _), (1, _), (5, _)] _ (fun q e cc => ∃ (o : List Int) (w v : Int) (b : Bool), v = want - w ∧ (b = true → q = w.toNat + 1) ∧ (b = false → q = 0) ∧ FlOk l o w ∧ w ≤ want ∧ (b = true → R = flF l o w) ∧ (b = false → R = o) ∧ e = [(6, .int v), (7, .bool b)] ∧ cc = [Chunk.own ad cap 1 3 (intRows o)])
    ⟨_, _, _, (Ent.mkP goSub goPm), List.replicate l.length 0, want, 0, true, by omega, fun _ => rfl, (fun h => nomatch h), hk0, Int.le_refl _, fun _ => hR, (fun h => nomatch h), rfl, rfl⟩ ?_
  clear hR hk0
  rintro _ _ _ ⟨o, w, v, b, rfl, hq, hq0, hk, hww, hR, hR0, rfl, rfl⟩
  cases b
  · have hR1 := hR0 rfl
    subst hR1
    have hol := (intRows_len R).trans hk.len
    have hkl := hk.len
    repeat' (first | refine goH ?_ | refine goV ?_ | refine goB (fun b => ?_) | refine goC (fun ad cap => ?_) | refine goG ?_ | (refine Ops.k_guard ?_; first | (refine Ops.guard_dec rfl rfl (fun hc => ?_) (fun hc => ?_) <;> try (exfalso; omega)) | refine Ops.guard_split rfl rfl (fun hc => ?_) (fun hc => ?_)) | refine goI ?_ | (refine Cw.k_cond ?_; first | (refine Cw.cond_dec rfl (fun hc => ?_) (fun hc => ?_) <;> try (exfalso; omega)) | refine Cw.cond_bool rfl (fun hc => ?_) (fun hc => ?_)) | refine goR ?_ | refine goP ?_ | apply PSeq.cons | apply PSeq.yes rfl rfl rfl | exact goW | fail)
    refine Cw.loopI [(5, _), (49, _), (50, _)] _ (fun q e cc => ∃ (k : Nat) (T : List Int), q = l.length - k ∧ (k ≤ l.length ∧ T = flT l R k) ∧ e = [(51, .int k)] ∧ cc = [Chunk.own ad cap 1 3 (intRows T)]) ⟨_, _, _, (Ent.mkP goSub goPm), 0, R, rfl, ⟨by omega, by with_unfolding_all rfl⟩, rfl, rfl⟩ ?_
    rintro _ _ _ ⟨k, T, rfl, ⟨hkn, hT⟩, rfl, rfl⟩
    have hol : (intRows T).length = l.length := by rw [hT]; exact (intRows_len (flT l R k)).trans ((flT_len l R k).trans hk.len)
    by_cases hkk : k < l.length
    · subst hT
      obtain ⟨d, hd⟩ := at_lt (l := l) (k := k) (by omega)
      have hv := ho.val d (List.mem_of_getElem? hd)
      have hct := ho.cnt d (List.mem_of_getElem? hd)
      have hrow : (l.map Tube.row)[k]? = some [Tr.int d.val, Tr.int d.cnt, Tr.int d.most] := rows_at hd
      obtain ⟨x, hx⟩ := at_lt (l := R) (k := k) (by omega)
      have hxb := hk.bd x (List.mem_of_getElem? hx)
      have hst := flT_step hd hx
      have r1 := intRows_at ((flT_at (l := l) (o := R) (Nat.le_refl k)).trans hx)
      clear hd hx
      repeat' (first | refine goH ?_ | refine goV ?_ | refine goB (fun b => ?_) | refine goC (fun ad cap => ?_) | refine goG ?_ | (refine Ops.k_guard ?_; first | (refine Ops.guard_dec rfl rfl (fun hc => ?_) (fun hc => ?_) <;> try (exfalso; omega)) | refine Ops.guard_split rfl rfl (fun hc => ?_) (fun hc => ?_)) | refine goI ?_ | (refine Cw.k_cond ?_; first | (refine Cw.cond_dec rfl (fun hc => ?_) (fun hc => ?_) <;> try (exfalso; omega)) | refine Cw.cond_bool rfl (fun hc => ?_) (fun hc => ?_)) | refine goR ?_ | refine goP ?_ | apply PSeq.cons | apply PSeq.yes rfl rfl rfl | exact goW | fail)
      erw [coSet, ← hst]
      exact ⟨_, _, _, (Ent.mk goSub goTk), ⟨k + 1, _, rfl, ⟨by omega, rfl⟩, rfl, rfl⟩, by omega⟩
    have hkn : k = l.length := by omega
    subst hkn
    rw [← hT, ← hol]
    clear hT
    repeat' (first | refine goH ?_ | refine goV ?_ | refine goB (fun b => ?_) | refine goC (fun ad cap => ?_) | refine goG ?_ | (refine Ops.k_guard ?_; first | (refine Ops.guard_dec rfl rfl (fun hc => ?_) (fun hc => ?_) <;> try (exfalso; omega)) | refine Ops.guard_split rfl rfl (fun hc => ?_) (fun hc => ?_)) | refine goI ?_ | (refine Cw.k_cond ?_; first | (refine Cw.cond_dec rfl (fun hc => ?_) (fun hc => ?_) <;> try (exfalso; omega)) | refine Cw.cond_bool rfl (fun hc => ?_) (fun hc => ?_)) | refine goR ?_ | refine goP ?_ | apply PSeq.cons | apply PSeq.yes rfl rfl rfl | exact goW | fail)
    refine Fin.ret (Ent.trans (Ent.settle (s := 4) rfl goPk rfl) (Ent.take goTk)) (Outs.sole rfl goOe) ⟨rfl, rfl⟩
  have hq1 := hq rfl
  have hR1 := hR rfl
  subst hq1
  clear hq hq0 hR hR0
  repeat' (first | refine goH ?_ | refine goV ?_ | refine goB (fun b => ?_) | refine goC (fun ad cap => ?_) | refine goG ?_ | (refine Ops.k_guard ?_; first | (refine Ops.guard_dec rfl rfl (fun hc => ?_) (fun hc => ?_) <;> try (exfalso; omega)) | refine Ops.guard_split rfl rfl (fun hc => ?_) (fun hc => ?_)) | refine goI ?_ | (refine Cw.k_cond ?_; first | (refine Cw.cond_dec rfl (fun hc => ?_) (fun hc => ?_) <;> try (exfalso; omega)) | refine Cw.cond_bool rfl (fun hc => ?_) (fun hc => ?_)) | refine goR ?_ | refine goP ?_ | apply PSeq.cons | apply PSeq.yes rfl rfl rfl | exact goW | fail)
  have hol := hk.len
  refine Cw.loopI [(0, _), (1, _), (5, _), (16, _), (17, _)] _ (fun q e cc => ∃ (k : Nat) (o2 : List Int) (w2 : Int) (b2 : Bool), q = l.length - k ∧ (k ≤ l.length ∧ flUp l (o, w, false) k = (o2, w2, b2)) ∧ e = [(6, .int (want - w2)), (7, .bool b2), (18, .int k)] ∧ cc = [Chunk.own ad cap 1 3 (intRows o2)])
    ⟨_, _, _, (Ent.mkP goSub goPm), 0, o, w, false, rfl, ⟨by omega, by with_unfolding_all rfl⟩, rfl, rfl⟩ ?_
  rintro _ _ _ ⟨k, o2, w2, b2, rfl, ⟨hkn, hU⟩, rfl, rfl⟩
  obtain ⟨hk2, hw2, hc2⟩ := flUp_ok ho hk k hkn o2 w2 b2 hU
  have hw0 := hk2.w0
  have hol2 := (intRows_len o2).trans hk2.len
  by_cases hkk : k < l.length
  · obtain ⟨d, hd⟩ := at_lt (l := l) (k := k) (by omega)
    have hv := ho.val d (List.mem_of_getElem? hd)
    have hct := ho.cnt d (List.mem_of_getElem? hd)
    have hrow : (l.map Tube.row)[k]? = some [Tr.int d.val, Tr.int d.cnt, Tr.int d.most] := rows_at hd
    have hk2l := hk2.len
    obtain ⟨x, hx⟩ := at_lt (l := o2) (k := k) (by omega)
    have hxb := hk2.bd x (List.mem_of_getElem? hx)
    have r1 := intRows_at hx
    by_cases c1 : x < d.most
    · by_cases c2 : d.val ≤ w2
      · have hst := flUp_yes hU hd hx c1 c2
        clear hd hx hU
        repeat' (first | refine goH ?_ | refine goV ?_ | refine goB (fun b => ?_) | refine goC (fun ad cap => ?_) | refine goG ?_ | (refine Ops.k_guard ?_; first | (refine Ops.guard_dec rfl rfl (fun hc => ?_) (fun hc => ?_) <;> try (exfalso; omega)) | refine Ops.guard_split rfl rfl (fun hc => ?_) (fun hc => ?_)) | refine goI ?_ | (refine Cw.k_cond ?_; first | (refine Cw.cond_dec rfl (fun hc => ?_) (fun hc => ?_) <;> try (exfalso; omega)) | refine Cw.cond_bool rfl (fun hc => ?_) (fun hc => ?_)) | refine goR ?_ | refine goP ?_ | apply PSeq.cons | apply PSeq.yes rfl rfl rfl | exact goW | fail)
        erw [coSet]
        rw [show want - w2 + d.val = want - (w2 - d.val) by omega]
        exact ⟨_, _, _, (Ent.mk goSub goTk), ⟨k + 1, _, _, true, rfl, ⟨by omega, hst⟩, rfl, rfl⟩, by omega⟩
      · have hst := flUp_no hU hd hx (by omega)
        clear hd hx hU
        repeat' (first | refine goH ?_ | refine goV ?_ | refine goB (fun b => ?_) | refine goC (fun ad cap => ?_) | refine goG ?_ | (refine Ops.k_guard ?_; first | (refine Ops.guard_dec rfl rfl (fun hc => ?_) (fun hc => ?_) <;> try (exfalso; omega)) | refine Ops.guard_split rfl rfl (fun hc => ?_) (fun hc => ?_)) | refine goI ?_ | (refine Cw.k_cond ?_; first | (refine Cw.cond_dec rfl (fun hc => ?_) (fun hc => ?_) <;> try (exfalso; omega)) | refine Cw.cond_bool rfl (fun hc => ?_) (fun hc => ?_)) | refine goR ?_ | refine goP ?_ | apply PSeq.cons | apply PSeq.yes rfl rfl rfl | exact goW | fail)
        exact ⟨_, _, _, (Ent.mk goSub goTk), ⟨k + 1, _, _, _, rfl, ⟨by omega, hst⟩, rfl, rfl⟩, by omega⟩
    · have hst := flUp_no hU hd hx (by omega)
      clear hd hx hU
      repeat' (first | refine goH ?_ | refine goV ?_ | refine goB (fun b => ?_) | refine goC (fun ad cap => ?_) | refine goG ?_ | (refine Ops.k_guard ?_; first | (refine Ops.guard_dec rfl rfl (fun hc => ?_) (fun hc => ?_) <;> try (exfalso; omega)) | refine Ops.guard_split rfl rfl (fun hc => ?_) (fun hc => ?_)) | refine goI ?_ | (refine Cw.k_cond ?_; first | (refine Cw.cond_dec rfl (fun hc => ?_) (fun hc => ?_) <;> try (exfalso; omega)) | refine Cw.cond_bool rfl (fun hc => ?_) (fun hc => ?_)) | refine goR ?_ | refine goP ?_ | apply PSeq.cons | apply PSeq.yes rfl rfl rfl | exact goW | fail)
      exact ⟨_, _, _, (Ent.mk goSub goTk), ⟨k + 1, _, _, _, rfl, ⟨by omega, hst⟩, rfl, rfl⟩, by omega⟩
  have hkn : k = l.length := by omega
  subst hkn
  repeat' (first | refine goH ?_ | refine goV ?_ | refine goB (fun b => ?_) | refine goC (fun ad cap => ?_) | refine goG ?_ | (refine Ops.k_guard ?_; first | (refine Ops.guard_dec rfl rfl (fun hc => ?_) (fun hc => ?_) <;> try (exfalso; omega)) | refine Ops.guard_split rfl rfl (fun hc => ?_) (fun hc => ?_)) | refine goI ?_ | (refine Cw.k_cond ?_; first | (refine Cw.cond_dec rfl (fun hc => ?_) (fun hc => ?_) <;> try (exfalso; omega)) | refine Cw.cond_bool rfl (fun hc => ?_) (fun hc => ?_)) | refine goR ?_ | refine goP ?_ | apply PSeq.cons | apply PSeq.yes rfl rfl rfl | exact goW | fail)
  cases b2
  · exact ⟨_, _, _, (Ent.mk goSub goTk), ⟨o2, w2, _, false, rfl, (fun h => nomatch h), fun _ => rfl, hk2, by omega, (fun h => nomatch h), fun _ => by rw [hR1]; exact flF_end hU, rfl, rfl⟩, by omega⟩
  · have := hc2 rfl
    exact ⟨_, _, _, (Ent.mk goSub goTk), ⟨o2, w2, _, true, rfl, fun _ => rfl, (fun h => nomatch h), hk2, by omega, fun _ => by rw [hR1]; exact flF_next ho hk hU, (fun h => nomatch h), rfl, rfl⟩, by omega⟩
end Lg
end
section
set_option linter.all false
set_option maxRecDepth 100000
set_option maxHeartbeats 4000000
namespace Lg
open Go Go.Proofs

theorem intRows_setC (l : List Int) (i : Nat) (v : Int) : (intRows l).set i [Tr.int v] = intRows (l.set i v) := by
  unfold intRows
  rw [List.map_set]
theorem coins_gen (n : Nat) (hn : n ≤ 6) : Gen Try.prog 25 5 [.int n] 20 (fun r => ∃ gs : List Int, r = .ints gs ∧ gs.length ≤ 7) := by
  unfold Gen
  intro b xs N hN
  refine Spec.body Try.func5 rfl rfl (Try.ntmps5) rfl fun w0 own0 M => ?_
  repeat' (first | refine goH ?_ | refine goV ?_ | refine goC (fun ad cap => ?_) | refine goG ?_ | (refine Ops.k_guard ?_; first | (refine Ops.guard_dec rfl rfl (fun hc => ?_) (fun hc => ?_) <;> try (exfalso; omega)) | refine Ops.guard_split rfl rfl (fun hc => ?_) (fun hc => ?_)) | refine goI ?_ | (refine Cw.k_cond ?_; first | (refine Cw.cond_dec rfl (fun hc => ?_) (fun hc => ?_) <;> try (exfalso; omega)) | refine Cw.cond_bool rfl (fun hc => ?_) (fun hc => ?_)) | fail)
  refine Cw.loopI [(0, _), (6, _)] _ (fun q e cc => ∃ (k : Nat) (ad : Option Addr) (cap : Nat) (gs : List Int) (c : Nat), q = 20 - k ∧ (k ≤ n ∧ gs.length = k ∧ c ≤ N + k) ∧ e = [(5, Tr.raw (.slice ad (intRows gs).length cap)), (7, .int k)] ∧ cc = [Chunk.own ad cap 1 3 (intRows gs), Chunk.strm 25 b (intRows xs) c])
    ⟨_, _, _, Ent.trans (Ent.nil 1 3) (Ent.mkP goSub goPm), 0, none, 0, [], N, rfl, ⟨by omega, rfl, by omega⟩, rfl, rfl⟩ ?_
  rintro _ _ _ ⟨k, ad, cap, gs, c, rfl, ⟨hk, hlen, h3⟩, rfl, rfl⟩
  have hrl : (intRows gs).length = k := by rw [intRows_len, hlen]
  have key : ∀ a : Int, intRows gs ++ [[Tr.int a]] = intRows (gs ++ [a]) := by intro a; rw [intRows_app]; rfl
  by_cases hkl : k < n
  · repeat' (first | refine goH ?_ | refine goV ?_ | refine goC (fun ad cap => ?_) | refine goG ?_ | (refine Ops.k_guard ?_; first | (refine Ops.guard_dec rfl rfl (fun hc => ?_) (fun hc => ?_) <;> try (exfalso; omega)) | refine Ops.guard_split rfl rfl (fun hc => ?_) (fun hc => ?_)) | refine goI ?_ | (refine Cw.k_cond ?_; first | (refine Cw.cond_dec rfl (fun hc => ?_) (fun hc => ?_) <;> try (exfalso; omega)) | refine Cw.cond_bool rfl (fun hc => ?_) (fun hc => ?_)) | (refine Ops.k_calla ?_; first | (refine Ops.k_callf 7 ?_; (refine Ops.callG (pick_gen (by repeat' (first | exact IsInts.nil | apply IsInts.cons)) (by simp)) (Evs.cons rfl (Evs.cons rfl Evs.nil)) goPk (by omega) rfl ?_; rintro r ⟨v, rfl, hv⟩; clear hv))) | fail)
    rw [key]
    exact ⟨_, _, _, (Ent.mk goSub goTk), ⟨k + 1, _, _, gs ++ [v], _, rfl, ⟨by omega, by simp [hlen], by omega⟩, rfl, rfl⟩, by omega⟩
  · have hke : k = n := by omega
    repeat' (first | refine goH ?_ | refine goV ?_ | refine goC (fun ad cap => ?_) | refine goG ?_ | (refine Ops.k_guard ?_; first | (refine Ops.guard_dec rfl rfl (fun hc => ?_) (fun hc => ?_) <;> try (exfalso; omega)) | refine Ops.guard_split rfl rfl (fun hc => ?_) (fun hc => ?_)) | refine goI ?_ | (refine Cw.k_cond ?_; first | (refine Cw.cond_dec rfl (fun hc => ?_) (fun hc => ?_) <;> try (exfalso; omega)) | refine Cw.cond_bool rfl (fun hc => ?_) (fun hc => ?_)) | (refine Ops.k_calla ?_; first | (refine Ops.k_callf 7 ?_; (refine Ops.callG (pick_gen (by repeat' (first | exact IsInts.nil | apply IsInts.cons)) (by simp)) (Evs.cons rfl (Evs.cons rfl Evs.nil)) goPk (by omega) rfl ?_; rintro r ⟨v, rfl, hv⟩; clear hv)) | (refine Ops.k_callf 23 ?_; (refine Ops.callG (next_gen _ (by first | omega | (simp; omega))) (Evs.cons rfl (Evs.cons rfl Evs.nil)) goPk (by omega) rfl ?_; rintro r ⟨v, rfl, hv⟩; unfold InRange at hv; try simp only [List.length_append, List.length_cons, List.length_nil] at hv; try simp only [List.length_append, List.length_cons, List.length_nil] at hc)) | (refine Ops.k_callf 22 ?_; (refine Ops.callG (flip_gen _ (by omega)) (Evs.cons rfl (Evs.cons rfl Evs.nil)) goPk (by omega) rfl ?_; rintro r ⟨v, rfl⟩))) | fail)
    all_goals first
      | (refine Fin.ret (Ent.trans (Ent.settle (s := 4) rfl goPk rfl) (Ent.strm_only goPk (by omega))) (Outs.one rfl rfl) ⟨rfl, _, congrArg (Tr.sl 1) (key _), ?_⟩; simp only [List.length_append, List.length_cons, List.length_nil]; omega)
      | (refine Fin.ret (Ent.trans (Ent.settle (s := 4) rfl goPk rfl) (Ent.strm_only goPk (by omega))) (Outs.one rfl rfl) ⟨rfl, _, rfl, ?_⟩; omega)
      | skip
    · rename_i i
      obtain ⟨y, hy⟩ : ∃ y, (intRows gs ++ [[Tr.int 1]])[i.toNat]? = some [Tr.int y] := by
        rw [key]
        exact ⟨_, intRows_get (by simp only [List.length_append, List.length_cons, List.length_nil]; omega)⟩
      have e : (intRows gs ++ [[Tr.int 1]]).set i.toNat [Tr.int v] = intRows ((gs ++ [1]).set i.toNat v) := by rw [key, intRows_setC]
      refine Ops.store_own1 rfl rfl goPk hy (by decide) ?_
      repeat' (first | refine goH ?_ | refine goV ?_ | refine goC (fun ad cap => ?_) | refine goG ?_ | (refine Ops.k_guard ?_; first | (refine Ops.guard_dec rfl rfl (fun hc => ?_) (fun hc => ?_) <;> try (exfalso; omega)) | refine Ops.guard_split rfl rfl (fun hc => ?_) (fun hc => ?_)) | refine goI ?_ | (refine Cw.k_cond ?_; first | (refine Cw.cond_dec rfl (fun hc => ?_) (fun hc => ?_) <;> try (exfalso; omega)) | refine Cw.cond_bool rfl (fun hc => ?_) (fun hc => ?_)) | fail)
      refine Fin.ret (Ent.trans (Ent.settle (s := 4) rfl goPk (by simp)) (Ent.strm_only goPk (by omega))) (Outs.one rfl rfl) ⟨rfl, _, congrArg (Tr.sl 1) e, ?_⟩
      simp only [List.length_set, List.length_append, List.length_cons, List.length_nil]; omega
    · rename_i i
      obtain ⟨y, hy⟩ : ∃ y, (intRows gs)[i.toNat]? = some [Tr.int y] := ⟨_, intRows_get (by omega)⟩
      have e : (intRows gs).set i.toNat [Tr.int v] = intRows (gs.set i.toNat v) := by rw [intRows_setC]
      refine Ops.store_own1 rfl rfl goPk hy (by decide) ?_
      repeat' (first | refine goH ?_ | refine goV ?_ | refine goC (fun ad cap => ?_) | refine goG ?_ | (refine Ops.k_guard ?_; first | (refine Ops.guard_dec rfl rfl (fun hc => ?_) (fun hc => ?_) <;> try (exfalso; omega)) | refine Ops.guard_split rfl rfl (fun hc => ?_) (fun hc => ?_)) | refine goI ?_ | (refine Cw.k_cond ?_; first | (refine Cw.cond_dec rfl (fun hc => ?_) (fun hc => ?_) <;> try (exfalso; omega)) | refine Cw.cond_bool rfl (fun hc => ?_) (fun hc => ?_)) | fail)
      refine Fin.ret (Ent.trans (Ent.settle (s := 4) rfl goPk (by simp)) (Ent.strm_only goPk (by omega))) (Outs.one rfl rfl) ⟨rfl, _, congrArg (Tr.sl 1) e, ?_⟩
      simp only [List.length_set]; omega
theorem cents_gen : Gen Try.prog 25 6 [] 20 (fun r => ∃ gs : List Int, r = .ints gs ∧ gs.length ≤ 6) := by
  unfold Gen
  intro b xs N hN
  refine Spec.body Try.func6 rfl rfl (Try.ntmps6) rfl fun w0 own0 M => ?_
  repeat' (first | refine goH ?_ | refine goV ?_ | refine goC (fun ad cap => ?_) | refine goI ?_ | (refine Cw.k_cond ?_; first | (refine Cw.cond_dec rfl (fun hc => ?_) (fun hc => ?_) <;> try (exfalso; omega)) | refine Cw.cond_bool rfl (fun hc => ?_) (fun hc => ?_)) | (refine Ops.k_calla ?_; first | (refine Ops.k_callf 23 ?_; (refine Ops.callG (next_gen _ (by omega)) (Evs.cons rfl (Evs.cons rfl Evs.nil)) goPk (by omega) rfl ?_; rintro r ⟨n, rfl, hn⟩; unfold InRange at hn))) | fail)
  refine Cw.loopI [(0, _), (5, _)] _ (fun q e cc => ∃ (k : Nat) (ad : Option Addr) (cap : Nat) (gs : List Int) (c : Nat), q = 20 - k ∧ ((k : Int) ≤ n ∧ gs.length = k ∧ c ≤ N + 1 + k) ∧ e = [(3, Tr.raw (.slice ad (intRows gs).length cap)), (6, .int k)] ∧ cc = [Chunk.own ad cap 1 3 (intRows gs), Chunk.strm 25 b (intRows xs) c])
    ⟨_, _, _, Ent.trans (Ent.nil 1 3) (Ent.mkP goSub goPm), 0, none, 0, [], N + 1, rfl, ⟨by omega, rfl, by omega⟩, rfl, rfl⟩ ?_
  rintro _ _ _ ⟨k, ad, cap, gs, c, rfl, ⟨hk, hlen, h3⟩, rfl, rfl⟩
  have hrl : (intRows gs).length = k := by rw [intRows_len, hlen]
  have key : ∀ a : Int, intRows gs ++ [[Tr.int a]] = intRows (gs ++ [a]) := by intro a; rw [intRows_app]; rfl
  by_cases hkl : (k : Int) < n
  · repeat' (first | refine goH ?_ | refine goV ?_ | refine goC (fun ad cap => ?_) | refine goI ?_ | (refine Cw.k_cond ?_; first | (refine Cw.cond_dec rfl (fun hc => ?_) (fun hc => ?_) <;> try (exfalso; omega)) | refine Cw.cond_bool rfl (fun hc => ?_) (fun hc => ?_)) | (refine Ops.k_calla ?_; first | (refine Ops.k_callf 7 ?_; (refine Ops.callG (pick_gen (by repeat' (first | exact IsInts.nil | apply IsInts.cons)) (by simp)) (Evs.cons rfl (Evs.cons rfl Evs.nil)) goPk (by omega) rfl ?_; rintro r ⟨v, rfl, hv⟩; clear hv))) | fail)
    rw [key]
    exact ⟨_, _, _, (Ent.mk goSub goTk), ⟨k + 1, _, _, gs ++ [v], _, rfl, ⟨by omega, by simp [hlen], by omega⟩, rfl, rfl⟩, by omega⟩
  · repeat' (first | refine goH ?_ | refine goV ?_ | refine goC (fun ad cap => ?_) | refine goI ?_ | (refine Cw.k_cond ?_; first | (refine Cw.cond_dec rfl (fun hc => ?_) (fun hc => ?_) <;> try (exfalso; omega)) | refine Cw.cond_bool rfl (fun hc => ?_) (fun hc => ?_)) | (refine Ops.k_calla ?_; first | (refine Ops.k_callf 7 ?_; (refine Ops.callG (pick_gen (by repeat' (first | exact IsInts.nil | apply IsInts.cons)) (by simp)) (Evs.cons rfl (Evs.cons rfl Evs.nil)) goPk (by omega) rfl ?_; rintro r ⟨v, rfl, hv⟩; clear hv)) | (refine Ops.k_callf 22 ?_; (refine Ops.callG (flip_gen _ (by omega)) (Evs.cons rfl (Evs.cons rfl Evs.nil)) goPk (by omega) rfl ?_; rintro r ⟨v, rfl⟩))) | fail)
    · refine Fin.ret (Ent.trans (Ent.settle (s := 2) rfl goPk rfl) (Ent.strm_only goPk (by omega))) (Outs.one rfl rfl) ⟨rfl, _, congrArg (Tr.sl 1) (key _), ?_⟩
      simp only [List.length_append, List.length_cons, List.length_nil]; omega
    · refine Fin.ret (Ent.trans (Ent.settle (s := 2) rfl goPk rfl) (Ent.strm_only goPk (by omega))) (Outs.one rfl rfl) ⟨rfl, _, rfl, ?_⟩
      omega
end Lg
end
