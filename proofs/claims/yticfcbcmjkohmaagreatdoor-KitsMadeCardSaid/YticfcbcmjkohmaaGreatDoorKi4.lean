/- A part of the proof of a law of this seat: it adds no condition. By an AI agent. -/
import Derived.Test.YticfcbcmjkohmaaGreatDoorSp6
section
set_option linter.all false
set_option maxRecDepth 100000
set_option maxHeartbeats 4000000
namespace Lg
open Go Go.Proofs

/-! ### needs: what is wrong with them -/
theorem cmpOrI_fn (l : List Int) (hl : l.length ≤ 1000) : PFn Tryz.prog 26 [.ints l] (· = .int (orI l)) := by
  refine PFn.mk (Spec.body Tryz.func26 rfl rfl (Tryz.ntmps26) rfl fun w0 own0 M => ?_)
  have hL := intRows_len l
  repeat' (first | refine goH ?_ | refine goV ?_ | refine goI ?_ | (refine Cw.k_cond ?_; first | (refine Cw.cond_dec rfl (fun hc => ?_) (fun hc => ?_) <;> try (exfalso; omega)) | refine Cw.cond_bool rfl (fun hc => ?_) (fun hc => ?_)) | fail)
  refine Cw.loop (ι := Nat) (fun k => k ≤ l.length ∧ orI (l.drop k) = orI l) (fun k => [(3, .int 0), (6, .ints l), (7, .int (intRows l).length), (8, .int k)]) (fun _ => []) (fun k => l.length - k) ⟨0, ⟨by omega, rfl⟩, (Ent.mk goSub goTk)⟩ ?_
  rintro k ⟨hk, h1⟩
  by_cases hkl : k < l.length
  · obtain ⟨x, hx⟩ := at_lt hkl
    have hrow := intRows_at hx
    rw [drop_at hx, orI_cons] at h1
    by_cases hz : x = 0
    · rw [if_neg (by omega)] at h1
      repeat' (first | refine goH ?_ | refine goV ?_ | refine goI ?_ | (refine Cw.k_cond ?_; first | (refine Cw.cond_dec rfl (fun hc => ?_) (fun hc => ?_) <;> try (exfalso; omega)) | refine Cw.cond_bool rfl (fun hc => ?_) (fun hc => ?_)) | fail)
      exact ⟨k + 1, ⟨by omega, h1⟩, by omega, (Ent.mk goSub goTk)⟩
    · rw [if_pos hz] at h1
      repeat' (first | refine goH ?_ | refine goV ?_ | refine goI ?_ | (refine Cw.k_cond ?_; first | (refine Cw.cond_dec rfl (fun hc => ?_) (fun hc => ?_) <;> try (exfalso; omega)) | refine Cw.cond_bool rfl (fun hc => ?_) (fun hc => ?_)) | fail)
      exact Fin.ret Ent.refl (Outs.one rfl rfl) ⟨rfl, congrArg Tr.int h1⟩
  · rw [List.drop_eq_nil_of_le (by omega), orI] at h1
    repeat' (first | refine goH ?_ | refine goV ?_ | refine goI ?_ | (refine Cw.k_cond ?_; first | (refine Cw.cond_dec rfl (fun hc => ?_) (fun hc => ?_) <;> try (exfalso; omega)) | refine Cw.cond_bool rfl (fun hc => ?_) (fun hc => ?_)) | fail)
    exact Fin.ret Ent.refl (Outs.one rfl rfl) ⟨rfl, congrArg Tr.int h1⟩
theorem cmpS_neg (a b : ByteArray) : cmpS b a = - cmpS a b := by
  unfold cmpS
  cases h1 : strLt a b
  · cases h2 : strLt b a <;> simp
  · rw [strLt_asymm h1]
    simp
theorem orI_neg (a b : Int) : orI [-a, -b] = - orI [a, b] := by
  simp only [orI]
  by_cases h : a = 0
  · subst h
    by_cases h : b = 0
    · subst h; simp
    · rw [if_neg (by omega), if_pos (by omega), if_neg (by omega), if_pos (by omega)]
  · rw [if_pos (by omega), if_pos (by omega)]
def ndLe (x y : Need) : Bool := decide (orI [cmpS x.pl y.pl, cmpS x.pr y.pr] ≤ 0)
def needE (l : List Need) (k : Nat) : Int := match l[k]? with
  | none => 0
  | some x => if isKey x.pl = false ∨ isKey x.pr = false then 5 else if prevB ndLe l k x then 7 else if x.many < 0 ∨ 100000 < x.many then 1 else 0
def needsErr (l : List Need) : Int := if l.length > 500 then 2 else firstE (needE l) 0 l.length
theorem checkNeeds_fn (l : List Need) (hl : l.length ≤ 1000000) : PFn Tryz.prog 8 [.needs l] (· = .int (needsErr l)) := by
  refine PFn.mk (Spec.body Tryz.func8 rfl rfl (Tryz.ntmps8) rfl fun w0 own0 M => ?_)
  have hL : (l.map Need.row).length = l.length := List.length_map _
  by_cases h500 : l.length > 500
  · repeat' (first | refine goH ?_ | refine goV ?_ | refine goB (fun b => ?_) | refine goG ?_ | (refine Ops.k_guard ?_; first | (refine Ops.guard_dec rfl rfl (fun hc => ?_) (fun hc => ?_) <;> try (exfalso; omega)) | refine Ops.guard_split rfl rfl (fun hc => ?_) (fun hc => ?_)) | refine goI ?_ | (refine Cw.k_cond ?_; first | (refine Cw.cond_dec rfl (fun hc => ?_) (fun hc => ?_) <;> try (exfalso; omega)) | refine Cw.cond_bool rfl (fun hc => ?_) (fun hc => ?_)) | refine goR ?_ | refine goP ?_ | apply PSeq.cons | apply PSeq.yes rfl rfl rfl | exact goW | fail)
    refine Fin.ret (Ent.take goTk) (Outs.one rfl rfl) ⟨rfl, congrArg Tr.int ?_⟩
    unfold needsErr
    rw [if_pos h500]
  have hV0 : needsErr l = firstE (needE l) 0 (l.length - 0) := by unfold needsErr; rw [if_neg h500]; rfl
  repeat' (first | refine goH ?_ | refine goV ?_ | refine goB (fun b => ?_) | refine goG ?_ | (refine Ops.k_guard ?_; first | (refine Ops.guard_dec rfl rfl (fun hc => ?_) (fun hc => ?_) <;> try (exfalso; omega)) | refine Ops.guard_split rfl rfl (fun hc => ?_) (fun hc => ?_)) | refine goI ?_ | (refine Cw.k_cond ?_; first | (refine Cw.cond_dec rfl (fun hc => ?_) (fun hc => ?_) <;> try (exfalso; omega)) | refine Cw.cond_bool rfl (fun hc => ?_) (fun hc => ?_)) | refine goR ?_ | refine goP ?_ | apply PSeq.cons | apply PSeq.yes rfl rfl rfl | exact goW | fail)
  refine Cw.loopI [(0, _), (8, _), (9, _)] _ (fun n e c => ∃ k : Nat, n = l.length - k ∧ (k ≤ l.length ∧ needsErr l = firstE (needE l) k (l.length - k)) ∧ e = [(10, .int k)] ∧ c = []) ⟨_, _, _, (Ent.mkP goSub goPm), 0, rfl, ⟨by omega, hV0⟩, rfl, rfl⟩ ?_
  rintro _ _ _ ⟨k, rfl, ⟨hk, hV⟩, rfl, rfl⟩
  by_cases hkl : k < l.length
  · obtain ⟨x, hx⟩ := at_lt hkl
    have hrow : (l.map Need.row)[k]? = some [.str x.pl, .str x.pr, .int x.many] := rows_at hx
    have k1 := key_fn x.pl
    have k2 := key_fn x.pr
    have ko := out_fn x.many 0 100000
    rw [show outB x.many 0 100000 = decide (x.many < 0 ∨ 100000 < x.many) by simp [outB]] at ko
    generalize hq1 : isKey x.pl = q1 at *
    generalize hq2 : isKey x.pr = q2 at *
    obtain ⟨q3, hq3⟩ : ∃ q3, q3 = decide (x.many < 0 ∨ 100000 < x.many) := ⟨_, rfl⟩
    rw [← hq3] at ko
    cases k with
    | zero =>
      have he : needE l 0 = if q1 = false ∨ q2 = false then 5 else if x.many < 0 ∨ 100000 < x.many then 1 else 0 := by simp [needE, hx, prevB, hq1, hq2]
      cases q1 <;> cases q2 <;> cases q3 <;> first | have hq3 := of_decide_eq_false hq3.symm | have hq3 := of_decide_eq_true hq3.symm
      all_goals repeat' (first | refine goH ?_ | refine goV ?_ | refine goB (fun b => ?_) | refine goG ?_ | (refine Ops.k_guard ?_; first | (refine Ops.guard_dec rfl rfl (fun hc => ?_) (fun hc => ?_) <;> try (exfalso; omega)) | refine Ops.guard_split rfl rfl (fun hc => ?_) (fun hc => ?_)) | refine goI ?_ | (refine Cw.k_cond ?_; first | (refine Cw.cond_dec rfl (fun hc => ?_) (fun hc => ?_) <;> try (exfalso; omega)) | refine Cw.cond_bool rfl (fun hc => ?_) (fun hc => ?_)) | (refine Ops.k_calla ?_; first | (refine Ops.k_callf 25 ?_; refine Ops.callV k1 (Evs.cons rfl Evs.nil) rfl ?_) | (refine Ops.k_callf 25 ?_; refine Ops.callV k2 (Evs.cons rfl Evs.nil) rfl ?_) | (refine Ops.k_callf 28 ?_; refine Ops.callV ko (Evs.cons rfl (Evs.cons rfl (Evs.cons rfl Evs.nil))) rfl ?_)) | (apply OpW.k_call; first | (apply OpW.k_callf 25; exact OpW.callV k1 (Evs.cons rfl Evs.nil)) | (apply OpW.k_callf 25; exact OpW.callV k2 (Evs.cons rfl Evs.nil)) | (apply OpW.k_callf 28; exact OpW.callV ko (Evs.cons rfl (Evs.cons rfl (Evs.cons rfl Evs.nil))))) | refine goR ?_ | refine goP ?_ | apply PSeq.cons | apply PSeq.yes rfl rfl rfl | exact goW | fail)
      all_goals first | (exfalso; omega) | (refine Fin.ret (Ent.take goTk) (Outs.one rfl rfl) ⟨rfl, congrArg Tr.int ?_⟩; exact (hV.trans (firstE_bad hkl (by rw [he]; first | rfl | (rw [if_neg (by simp), if_pos (by omega)])) (by decide))).symm) | exact ⟨_, _, _, (Ent.mk goSub goTk), ⟨_, rfl, ⟨by omega, hV.trans (firstE_ok hkl (by rw [he, if_neg (by simp), if_neg (by omega)]))⟩, rfl, rfl⟩, by omega⟩
    | succ j =>
      obtain ⟨y, hy⟩ := at_lt (l := l) (k := j) (by omega)
      have hrow2 : (l.map Need.row)[(((j + 1 : Nat) : Int) - 1).toNat]? = some [.str y.pl, .str y.pr, .int y.many] := by rw [show (((j + 1 : Nat) : Int) - 1).toNat = j by omega]; exact rows_at hy
      have c1 := compareS_fn x.pl y.pl
      have c2 := compareS_fn x.pr y.pr
      have co := cmpOrI_fn [cmpS x.pl y.pl, cmpS x.pr y.pr] (by simp)
      have hle : ndLe x y = decide (orI [cmpS x.pl y.pl, cmpS x.pr y.pr] ≤ 0) := by
        unfold ndLe
        first | rfl | (rw [cmpS_neg x.pl, cmpS_neg x.pr, orI_neg, Bool.eq_iff_iff, decide_eq_true_iff, decide_eq_true_iff]; omega)
      have he : needE l (j + 1) = if q1 = false ∨ q2 = false then 5 else if ndLe x y = true then 7 else if x.many < 0 ∨ 100000 < x.many then 1 else 0 := by simp [needE, hx, hy, prevB, hq1, hq2]
      rw [hle] at he
      generalize orI [cmpS x.pl y.pl, cmpS x.pr y.pr] = o at *
      clear hle
      cases q1 <;> cases q2 <;> cases q3 <;> first | have hq3 := of_decide_eq_false hq3.symm | have hq3 := of_decide_eq_true hq3.symm
      all_goals repeat' (first | refine goH ?_ | refine goV ?_ | refine goB (fun b => ?_) | refine goG ?_ | (refine Ops.k_guard ?_; first | (refine Ops.guard_dec rfl rfl (fun hc => ?_) (fun hc => ?_) <;> try (exfalso; omega)) | refine Ops.guard_split rfl rfl (fun hc => ?_) (fun hc => ?_)) | refine goI ?_ | (refine Cw.k_cond ?_; first | (refine Cw.cond_dec rfl (fun hc => ?_) (fun hc => ?_) <;> try (exfalso; omega)) | refine Cw.cond_bool rfl (fun hc => ?_) (fun hc => ?_)) | (refine Ops.k_calla ?_; first | (refine Ops.k_callf 25 ?_; refine Ops.callV k1 (Evs.cons rfl Evs.nil) rfl ?_) | (refine Ops.k_callf 25 ?_; refine Ops.callV k2 (Evs.cons rfl Evs.nil) rfl ?_) | (refine Ops.k_callf 28 ?_; refine Ops.callV ko (Evs.cons rfl (Evs.cons rfl (Evs.cons rfl Evs.nil))) rfl ?_) | (refine Ops.k_callf 27 ?_; refine Ops.callV c1 (Evs.cons rfl (Evs.cons rfl Evs.nil)) rfl ?_) | (refine Ops.k_callf 27 ?_; refine Ops.callV c2 (Evs.cons rfl (Evs.cons rfl Evs.nil)) rfl ?_) | (refine Ops.k_callf 26 ?_; refine Ops.callV co (Evs.cons rfl Evs.nil) rfl ?_)) | (apply OpW.k_call; first | (apply OpW.k_callf 25; exact OpW.callV k1 (Evs.cons rfl Evs.nil)) | (apply OpW.k_callf 25; exact OpW.callV k2 (Evs.cons rfl Evs.nil)) | (apply OpW.k_callf 28; exact OpW.callV ko (Evs.cons rfl (Evs.cons rfl (Evs.cons rfl Evs.nil)))) | (apply OpW.k_callf 27; exact OpW.callV c1 (Evs.cons rfl (Evs.cons rfl Evs.nil))) | (apply OpW.k_callf 27; exact OpW.callV c2 (Evs.cons rfl (Evs.cons rfl Evs.nil))) | (apply OpW.k_callf 26; exact OpW.callV co (Evs.cons rfl Evs.nil))) | refine goR ?_ | refine goP ?_ | apply PSeq.cons | apply PSeq.yes rfl rfl rfl | exact goW | fail)
      all_goals first | (exfalso; omega) | (refine Fin.ret (Ent.take goTk) (Outs.one rfl rfl) ⟨rfl, congrArg Tr.int ?_⟩; exact (hV.trans (firstE_bad hkl (by rw [he]; first | rfl | (rw [if_neg (by simp), if_pos (decide_eq_true (by omega))]) | (rw [if_neg (by simp), if_neg (fun h => by have := of_decide_eq_true h; omega), if_pos (by omega)])) (by decide))).symm) | exact ⟨_, _, _, (Ent.mk goSub goTk), ⟨_, rfl, ⟨by omega, hV.trans (firstE_ok hkl (by rw [he, if_neg (by simp), if_neg (fun h => by have := of_decide_eq_true h; omega), if_neg (by omega)]))⟩, rfl, rfl⟩, by omega⟩
  · repeat' (first | refine goH ?_ | refine goV ?_ | refine goB (fun b => ?_) | refine goG ?_ | (refine Ops.k_guard ?_; first | (refine Ops.guard_dec rfl rfl (fun hc => ?_) (fun hc => ?_) <;> try (exfalso; omega)) | refine Ops.guard_split rfl rfl (fun hc => ?_) (fun hc => ?_)) | refine goI ?_ | (refine Cw.k_cond ?_; first | (refine Cw.cond_dec rfl (fun hc => ?_) (fun hc => ?_) <;> try (exfalso; omega)) | refine Cw.cond_bool rfl (fun hc => ?_) (fun hc => ?_)) | refine goR ?_ | refine goP ?_ | apply PSeq.cons | apply PSeq.yes rfl rfl rfl | exact goW | fail)
    refine Fin.ret (Ent.take goTk) (Outs.one rfl rfl) ⟨rfl, congrArg Tr.int ?_⟩
    rw [hV, firstE_end hkl]
theorem needsFault_fn (l : List Need) (hl : l.length ≤ 1000000) : PFn Tryz.prog 9 [.needs l] (· = .int (needsErr l)) := by
  refine PFn.mk (Spec.body Tryz.func9 rfl rfl (Tryz.ntmps9) rfl fun w0 own0 M => ?_)
  have hL : (l.map Need.row).length = l.length := List.length_map _
  by_cases h500 : l.length > 500
  · repeat' (first | refine goH ?_ | refine goV ?_ | refine goB (fun b => ?_) | refine goG ?_ | (refine Ops.k_guard ?_; first | (refine Ops.guard_dec rfl rfl (fun hc => ?_) (fun hc => ?_) <;> try (exfalso; omega)) | refine Ops.guard_split rfl rfl (fun hc => ?_) (fun hc => ?_)) | refine goI ?_ | (refine Cw.k_cond ?_; first | (refine Cw.cond_dec rfl (fun hc => ?_) (fun hc => ?_) <;> try (exfalso; omega)) | refine Cw.cond_bool rfl (fun hc => ?_) (fun hc => ?_)) | refine goR ?_ | refine goP ?_ | apply PSeq.cons | apply PSeq.yes rfl rfl rfl | exact goW | fail)
    refine Fin.ret (Ent.take goTk) (Outs.one rfl rfl) ⟨rfl, congrArg Tr.int ?_⟩
    unfold needsErr
    rw [if_pos h500]
  have hV0 : needsErr l = firstE (needE l) 0 (l.length - 0) := by unfold needsErr; rw [if_neg h500]; rfl
  repeat' (first | refine goH ?_ | refine goV ?_ | refine goB (fun b => ?_) | refine goG ?_ | (refine Ops.k_guard ?_; first | (refine Ops.guard_dec rfl rfl (fun hc => ?_) (fun hc => ?_) <;> try (exfalso; omega)) | refine Ops.guard_split rfl rfl (fun hc => ?_) (fun hc => ?_)) | refine goI ?_ | (refine Cw.k_cond ?_; first | (refine Cw.cond_dec rfl (fun hc => ?_) (fun hc => ?_) <;> try (exfalso; omega)) | refine Cw.cond_bool rfl (fun hc => ?_) (fun hc => ?_)) | refine goR ?_ | refine goP ?_ | apply PSeq.cons | apply PSeq.yes rfl rfl rfl | exact goW | fail)
  refine Cw.loopI [(0, _), (8, _), (9, _)] _ (fun n e c => ∃ k : Nat, n = l.length - k ∧ (k ≤ l.length ∧ needsErr l = firstE (needE l) k (l.length - k)) ∧ e = [(10, .int k)] ∧ c = []) ⟨_, _, _, (Ent.mkP goSub goPm), 0, rfl, ⟨by omega, hV0⟩, rfl, rfl⟩ ?_
  rintro _ _ _ ⟨k, rfl, ⟨hk, hV⟩, rfl, rfl⟩
  by_cases hkl : k < l.length
  · obtain ⟨x, hx⟩ := at_lt hkl
    have hrow : (l.map Need.row)[k]? = some [.str x.pl, .str x.pr, .int x.many] := rows_at hx
    have k1 := keyOf_fn x.pl
    have k2 := keyOf_fn x.pr
    have ko := out_fn x.many 0 100000
    rw [show outB x.many 0 100000 = decide (x.many < 0 ∨ 100000 < x.many) by simp [outB]] at ko
    generalize hq1 : isKey x.pl = q1 at *
    generalize hq2 : isKey x.pr = q2 at *
    obtain ⟨q3, hq3⟩ : ∃ q3, q3 = decide (x.many < 0 ∨ 100000 < x.many) := ⟨_, rfl⟩
    rw [← hq3] at ko
    cases k with
    | zero =>
      have he : needE l 0 = if q1 = false ∨ q2 = false then 5 else if x.many < 0 ∨ 100000 < x.many then 1 else 0 := by simp [needE, hx, prevB, hq1, hq2]
      cases q1 <;> cases q2 <;> cases q3 <;> first | have hq3 := of_decide_eq_false hq3.symm | have hq3 := of_decide_eq_true hq3.symm
      all_goals repeat' (first | refine goH ?_ | refine goV ?_ | refine goB (fun b => ?_) | refine goG ?_ | (refine Ops.k_guard ?_; first | (refine Ops.guard_dec rfl rfl (fun hc => ?_) (fun hc => ?_) <;> try (exfalso; omega)) | refine Ops.guard_split rfl rfl (fun hc => ?_) (fun hc => ?_)) | refine goI ?_ | (refine Cw.k_cond ?_; first | (refine Cw.cond_dec rfl (fun hc => ?_) (fun hc => ?_) <;> try (exfalso; omega)) | refine Cw.cond_bool rfl (fun hc => ?_) (fun hc => ?_)) | (refine Ops.k_calla ?_; first | (refine Ops.k_callf 29 ?_; refine Ops.callV k1 (Evs.cons rfl Evs.nil) rfl ?_) | (refine Ops.k_callf 29 ?_; refine Ops.callV k2 (Evs.cons rfl Evs.nil) rfl ?_) | (refine Ops.k_callf 28 ?_; refine Ops.callV ko (Evs.cons rfl (Evs.cons rfl (Evs.cons rfl Evs.nil))) rfl ?_)) | (apply OpW.k_call; first | (apply OpW.k_callf 29; exact OpW.callV k1 (Evs.cons rfl Evs.nil)) | (apply OpW.k_callf 29; exact OpW.callV k2 (Evs.cons rfl Evs.nil)) | (apply OpW.k_callf 28; exact OpW.callV ko (Evs.cons rfl (Evs.cons rfl (Evs.cons rfl Evs.nil))))) | refine goR ?_ | refine goP ?_ | apply PSeq.cons | apply PSeq.yes rfl rfl rfl | exact goW | fail)
      all_goals first | (exfalso; omega) | (refine Fin.ret (Ent.take goTk) (Outs.one rfl rfl) ⟨rfl, congrArg Tr.int ?_⟩; exact (hV.trans (firstE_bad hkl (by rw [he]; first | rfl | (rw [if_neg (by simp), if_pos (by omega)])) (by decide))).symm) | exact ⟨_, _, _, (Ent.mk goSub goTk), ⟨_, rfl, ⟨by omega, hV.trans (firstE_ok hkl (by rw [he, if_neg (by simp), if_neg (by omega)]))⟩, rfl, rfl⟩, by omega⟩
    | succ j =>
      obtain ⟨y, hy⟩ := at_lt (l := l) (k := j) (by omega)
      have hrow2 : (l.map Need.row)[(((j + 1 : Nat) : Int) - 1).toNat]? = some [.str y.pl, .str y.pr, .int y.many] := by rw [show (((j + 1 : Nat) : Int) - 1).toNat = j by omega]; exact rows_at hy
      have c1 := compareS_fn y.pl x.pl
      have c2 := compareS_fn y.pr x.pr
      have co := cmpOrI_fn [cmpS y.pl x.pl, cmpS y.pr x.pr] (by simp)
      have hle : ndLe x y = decide (orI [cmpS y.pl x.pl, cmpS y.pr x.pr] ≥ 0) := by
        unfold ndLe
        first | rfl | (rw [cmpS_neg x.pl, cmpS_neg x.pr, orI_neg, Bool.eq_iff_iff, decide_eq_true_iff, decide_eq_true_iff]; omega)
      have he : needE l (j + 1) = if q1 = false ∨ q2 = false then 5 else if ndLe x y = true then 7 else if x.many < 0 ∨ 100000 < x.many then 1 else 0 := by simp [needE, hx, hy, prevB, hq1, hq2]
      rw [hle] at he
      generalize orI [cmpS y.pl x.pl, cmpS y.pr x.pr] = o at *
      clear hle
      cases q1 <;> cases q2 <;> cases q3 <;> first | have hq3 := of_decide_eq_false hq3.symm | have hq3 := of_decide_eq_true hq3.symm
      all_goals repeat' (first | refine goH ?_ | refine goV ?_ | refine goB (fun b => ?_) | refine goG ?_ | (refine Ops.k_guard ?_; first | (refine Ops.guard_dec rfl rfl (fun hc => ?_) (fun hc => ?_) <;> try (exfalso; omega)) | refine Ops.guard_split rfl rfl (fun hc => ?_) (fun hc => ?_)) | refine goI ?_ | (refine Cw.k_cond ?_; first | (refine Cw.cond_dec rfl (fun hc => ?_) (fun hc => ?_) <;> try (exfalso; omega)) | refine Cw.cond_bool rfl (fun hc => ?_) (fun hc => ?_)) | (refine Ops.k_calla ?_; first | (refine Ops.k_callf 29 ?_; refine Ops.callV k1 (Evs.cons rfl Evs.nil) rfl ?_) | (refine Ops.k_callf 29 ?_; refine Ops.callV k2 (Evs.cons rfl Evs.nil) rfl ?_) | (refine Ops.k_callf 28 ?_; refine Ops.callV ko (Evs.cons rfl (Evs.cons rfl (Evs.cons rfl Evs.nil))) rfl ?_) | (refine Ops.k_callf 27 ?_; refine Ops.callV c1 (Evs.cons rfl (Evs.cons rfl Evs.nil)) rfl ?_) | (refine Ops.k_callf 27 ?_; refine Ops.callV c2 (Evs.cons rfl (Evs.cons rfl Evs.nil)) rfl ?_) | (refine Ops.k_callf 26 ?_; refine Ops.callV co (Evs.cons rfl Evs.nil) rfl ?_)) | (apply OpW.k_call; first | (apply OpW.k_callf 29; exact OpW.callV k1 (Evs.cons rfl Evs.nil)) | (apply OpW.k_callf 29; exact OpW.callV k2 (Evs.cons rfl Evs.nil)) | (apply OpW.k_callf 28; exact OpW.callV ko (Evs.cons rfl (Evs.cons rfl (Evs.cons rfl Evs.nil)))) | (apply OpW.k_callf 27; exact OpW.callV c1 (Evs.cons rfl (Evs.cons rfl Evs.nil))) | (apply OpW.k_callf 27; exact OpW.callV c2 (Evs.cons rfl (Evs.cons rfl Evs.nil))) | (apply OpW.k_callf 26; exact OpW.callV co (Evs.cons rfl Evs.nil))) | refine goR ?_ | refine goP ?_ | apply PSeq.cons | apply PSeq.yes rfl rfl rfl | exact goW | fail)
      all_goals first | (exfalso; omega) | (refine Fin.ret (Ent.take goTk) (Outs.one rfl rfl) ⟨rfl, congrArg Tr.int ?_⟩; exact (hV.trans (firstE_bad hkl (by rw [he]; first | rfl | (rw [if_neg (by simp), if_pos (decide_eq_true (by omega))]) | (rw [if_neg (by simp), if_neg (fun h => by have := of_decide_eq_true h; omega), if_pos (by omega)])) (by decide))).symm) | exact ⟨_, _, _, (Ent.mk goSub goTk), ⟨_, rfl, ⟨by omega, hV.trans (firstE_ok hkl (by rw [he, if_neg (by simp), if_neg (fun h => by have := of_decide_eq_true h; omega), if_neg (by omega)]))⟩, rfl, rfl⟩, by omega⟩
  · repeat' (first | refine goH ?_ | refine goV ?_ | refine goB (fun b => ?_) | refine goG ?_ | (refine Ops.k_guard ?_; first | (refine Ops.guard_dec rfl rfl (fun hc => ?_) (fun hc => ?_) <;> try (exfalso; omega)) | refine Ops.guard_split rfl rfl (fun hc => ?_) (fun hc => ?_)) | refine goI ?_ | (refine Cw.k_cond ?_; first | (refine Cw.cond_dec rfl (fun hc => ?_) (fun hc => ?_) <;> try (exfalso; omega)) | refine Cw.cond_bool rfl (fun hc => ?_) (fun hc => ?_)) | refine goR ?_ | refine goP ?_ | apply PSeq.cons | apply PSeq.yes rfl rfl rfl | exact goW | fail)
    refine Fin.ret (Ent.take goTk) (Outs.one rfl rfl) ⟨rfl, congrArg Tr.int ?_⟩
    rw [hV, firstE_end hkl]
theorem needsErr_ok {l : List Need} (h : needsErr l = 0) : ∀ x ∈ l, 0 ≤ x.many ∧ x.many ≤ 100000 := by
  intro x hx
  unfold needsErr at h
  split at h
  · cases h
  · obtain ⟨i, hi⟩ := List.getElem?_of_mem hx
    have hlt := (List.getElem?_eq_some_iff.1 hi).1
    have := firstE_zero h i (Nat.zero_le _) (by omega)
    unfold needE at this
    rw [hi] at this
    simp only at this
    split at this
    · cases this
    · split at this
      · cases this
      · split at this
        · cases this
        · omega
end Lg
end
section
set_option linter.all false
set_option maxRecDepth 100000
set_option maxHeartbeats 4000000
namespace Lg
open Go Go.Proofs

/-! ### how much of each product is needed -/
def ndF (m : List (ByteArray × Int)) : List Need → List (ByteArray × Int)
  | [] => m
  | c :: l => ndF (mAdd c.pr c.many m) l
def ndM (l : List Need) : List (ByteArray × Int) := ndF [] l
theorem wts_cons (p : ByteArray) (c : Need) (l : List Need) : wts p (c :: l) = (if c.pr = p then [c.many] else []) ++ wts p l := by
  rw [show c :: l = [c] ++ l from rfl, wts_app, wts_one]
theorem ndF_get (p : ByteArray) : ∀ (l : List Need) (m : List (ByteArray × Int)), mI p (ndF m l) = mI p m + sumL (wts p l)
  | [], m => by simp [ndF, wts, sumL_nil]
  | c :: l, m => by
    rw [ndF, ndF_get p l, mAdd, mI_up, wts_cons, sumL_app]
    by_cases h : c.pr = p
    · subst h
      rw [if_pos rfl, if_pos rfl, sumL_cons, sumL_nil]
      omega
    · rw [if_neg (fun e => h e.symm), if_neg h, sumL_nil]
      omega
theorem ndF_nodup : ∀ (l : List Need) {m : List (ByteArray × Int)}, (m.map Prod.fst).Nodup → ((ndF m l).map Prod.fst).Nodup
  | [], m, h => h
  | c :: l, m, h => ndF_nodup l (mUp_nodup h)
theorem ndF_len : ∀ (l : List Need) (m : List (ByteArray × Int)), (ndF m l).length ≤ m.length + l.length
  | [], m => Nat.le_refl _
  | c :: l, m => by
    have h1 := ndF_len l (mAdd c.pr c.many m)
    have h2 := mUp_len c.pr (mI c.pr m + c.many) m
    rw [ndF, List.length_cons]
    unfold mAdd at h1 ⊢
    omega
theorem ndF_key (p : ByteArray) : ∀ (l : List Need) (m : List (ByteArray × Int)), p ∈ (ndF m l).map Prod.fst ↔ p ∈ m.map Prod.fst ∨ ∃ x ∈ l, x.pr = p
  | [], m => by simp [ndF]
  | c :: l, m => by
    rw [ndF, ndF_key p l, mAdd, mUp_keys]
    constructor
    · rintro (h | ⟨x, hx, rfl⟩)
      · split at h
        · exact .inl h
        · rcases List.mem_append.1 h with h | h
          · exact .inl h
          · exact .inr ⟨c, by simp, (List.mem_singleton.1 h).symm⟩
      · exact .inr ⟨x, by simp [hx], rfl⟩
    · rintro (h | ⟨x, hx, rfl⟩)
      · refine .inl ?_
        split
        · exact h
        · exact List.mem_append.2 (.inl h)
      · rcases List.mem_cons.1 hx with rfl | hx
        · refine .inl ?_
          split
          · assumption
          · exact List.mem_append.2 (.inr (by simp))
        · exact .inr ⟨x, hx, rfl⟩
theorem ndM_nodup (l : List Need) : ((ndM l).map Prod.fst).Nodup := ndF_nodup l List.nodup_nil
theorem ndM_len (l : List Need) : (ndM l).length ≤ l.length := by
  have := ndF_len l []
  rw [List.length_nil, Nat.zero_add] at this
  exact this
theorem ndM_val {l : List Need} {p : ByteArray} {v : Int} (h : (p, v) ∈ ndM l) : v = sumL (wts p l) := by
  have h1 := mI_mem (ndM_nodup l) h
  have h2 := ndF_get p l []
  rw [← h1, ndM, h2]
  simp [mI]
theorem ndM_key {l : List Need} (p : ByteArray) : p ∈ (ndM l).map Prod.fst ↔ ∃ x ∈ l, x.pr = p := by
  unfold ndM
  rw [ndF_key]
  simp
theorem ndM_bd {l : List Need} (hn : NOk l) {q : ByteArray × Int} (h : q ∈ ndM l) : 0 ≤ q.2 ∧ q.2 ≤ 1000000 := by
  rw [ndM_val (p := q.1) (v := q.2) h]
  exact (hn.wts q.1).2.2

instance : TyMap Tryz.prog 64 9 3 (.int .i64 0) := ⟨Tryz.underlying64, ⟨_, rfl, rfl⟩⟩
instance : KeyTy Tryz.prog 9 Value.string := KeyTy.str Tryz.underlying9
theorem nd_step {m : List (ByteArray × Int)} {k : Nat} (h : ∀ a, 0 ≤ mI a m ∧ mI a m ≤ (k : Int) * 100000) {x : Need} (hx : 0 ≤ x.many ∧ x.many ≤ 100000) : ∀ a, 0 ≤ mI a (mUp x.pr (mI x.pr m + x.many) m) ∧ mI a (mUp x.pr (mI x.pr m + x.many) m) ≤ ((k + 1 : Nat) : Int) * 100000 := by
  intro a
  have h1 := h a
  have h2 := h x.pr
  rw [mI_up]
  split <;> omega
theorem needed_fn (l : List Need) (hn : NOk l) : Spec Tryz.prog 39 [.needs l] [] (fun r cs => ∃ b, r = .raw (.map (some b)) ∧ cs = [Chunk.mp Value.string b (tkv (ndM l))]) := by
  have hL : (l.map Need.row).length = l.length := List.length_map _
  have h10 := hn.len
  refine Spec.body Tryz.func39 rfl rfl (Tryz.ntmps39) rfl fun w0 own0 M => ?_
  repeat' (first | refine goH ?_ | (refine Ops.k_makeMap ?_; first | (refine Ops.makeMap Value.string rfl (fun b => ?_))) | refine goV ?_ | refine goB (fun b => ?_) | refine goI ?_ | (refine Cw.k_cond ?_; first | (refine Cw.cond_dec rfl (fun hc => ?_) (fun hc => ?_) <;> try (exfalso; omega)) | refine Cw.cond_bool rfl (fun hc => ?_) (fun hc => ?_)) | fail)
  refine Cw.loopI [(3, _), (7, _), (8, _)] _ (fun q e c => ∃ (k : Nat) (m : List (ByteArray × Int)), q = l.length - k ∧ (k ≤ l.length ∧ ndM l = ndF m (l.drop k) ∧ ∀ a, 0 ≤ mI a m ∧ mI a m ≤ (k : Int) * 100000) ∧ e = [(9, .int k)] ∧ c = [Chunk.mp Value.string b (tkv m)])
    ⟨_, _, _, (Ent.mkP goSub goPm), 0, [], rfl, ⟨by omega, rfl, fun a => ⟨Int.le_refl _, Int.le_refl _⟩⟩, rfl, rfl⟩ ?_
  rintro _ _ _ ⟨k, m, rfl, ⟨hk, hV, hm⟩, rfl, rfl⟩
  by_cases hkl : k < l.length
  · obtain ⟨x, hx⟩ := at_lt hkl
    have hrow : (l.map Need.row)[k]? = some [.str x.pl, .str x.pr, .int x.many] := rows_at hx
    have hxm := hn.many x (List.mem_of_getElem? hx)
    rw [drop_at hx, ndF, mAdd] at hV
    have hadd := nd_step hm hxm
    have hvv := hm x.pr
    clear hm hx
    repeat' (first | refine goH ?_ | (refine Ops.k_lookup ?_; first | (refine Ops.lookup rfl rfl goPk rfl ?_; rw [tkv_read])) | (refine Ops.k_mapUpdate ?_; first | (refine Ops.mapUpdate rfl rfl rfl goPk ?_; rw [tkv_set])) | refine goV ?_ | refine goB (fun b => ?_) | refine goI ?_ | (refine Cw.k_cond ?_; first | (refine Cw.cond_dec rfl (fun hc => ?_) (fun hc => ?_) <;> try (exfalso; omega)) | refine Cw.cond_bool rfl (fun hc => ?_) (fun hc => ?_)) | fail)
    exact ⟨_, _, _, (Ent.mk goSub goTk), ⟨k + 1, _, rfl, ⟨by omega, hV, hadd⟩, rfl, rfl⟩, by omega⟩
  · rw [List.drop_of_length_le (by omega), ndF] at hV
    rw [hV]
    repeat' (first | refine goH ?_ | refine goV ?_ | refine goB (fun b => ?_) | refine goI ?_ | (refine Cw.k_cond ?_; first | (refine Cw.cond_dec rfl (fun hc => ?_) (fun hc => ?_) <;> try (exfalso; omega)) | refine Cw.cond_bool rfl (fun hc => ?_) (fun hc => ?_)) | fail)
    exact Fin.ret (Ent.take goTk) (Outs.one rfl rfl) ⟨_, rfl, rfl⟩
/-- what is wrong with lots, needs and days -/
def wantE (x : List Lot) (l : List Need) (day left : Int) : Int := if lotsErr x ≠ 0 then lotsErr x else if needsErr l ≠ 0 then needsErr l else daysE day left
theorem wantedE_fn (x : List Lot) (hx : x.length ≤ 1000000) (l : List Need) (hl : l.length ≤ 1000000) (day left : Int) (h : wantE x l day left ≠ 0) : PFn Tryz.prog 30 [.lots x, .needs l, .int day, .int left] (· = .tup [.raw (.map none), .int (wantE x l day left)]) := by
  have k1 := checkLots_fn x hx
  have k2 := checkNeeds_fn l hl
  have k3 := day_fn day
  have k4 := day_fn left
  refine PFn.mk (Spec.body Tryz.func30 rfl rfl (Tryz.ntmps30) rfl fun w0 own0 M => ?_)
  unfold wantE at h ⊢
  by_cases h1 : lotsErr x ≠ 0
  · rw [if_pos h1]
    repeat' (first | refine goH ?_ | refine goV ?_ | refine goB (fun b => ?_) | refine goG ?_ | (refine Ops.k_guard ?_; first | (refine Ops.guard_dec rfl rfl (fun hc => ?_) (fun hc => ?_) <;> try (exfalso; omega)) | refine Ops.guard_split rfl rfl (fun hc => ?_) (fun hc => ?_)) | refine goI ?_ | (refine Cw.k_cond ?_; first | (refine Cw.cond_dec rfl (fun hc => ?_) (fun hc => ?_) <;> try (exfalso; omega)) | refine Cw.cond_bool rfl (fun hc => ?_) (fun hc => ?_)) | (refine Ops.k_calla ?_; first | (refine Ops.k_callf 51 ?_; refine Ops.callV k1 (Evs.cons rfl Evs.nil) rfl ?_)) | fail)
    refine Fin.ret (Ent.take goTk) (Outs.many rfl (OutL.cons goOe (OutL.cons goOe OutL.nil)) rfl) ⟨rfl, rfl⟩
  rw [if_neg h1] at h ⊢
  by_cases h2 : needsErr l ≠ 0
  · rw [if_pos h2]
    repeat' (first | refine goH ?_ | refine goV ?_ | refine goB (fun b => ?_) | refine goG ?_ | (refine Ops.k_guard ?_; first | (refine Ops.guard_dec rfl rfl (fun hc => ?_) (fun hc => ?_) <;> try (exfalso; omega)) | refine Ops.guard_split rfl rfl (fun hc => ?_) (fun hc => ?_)) | refine goI ?_ | (refine Cw.k_cond ?_; first | (refine Cw.cond_dec rfl (fun hc => ?_) (fun hc => ?_) <;> try (exfalso; omega)) | refine Cw.cond_bool rfl (fun hc => ?_) (fun hc => ?_)) | (refine Ops.k_calla ?_; first | (refine Ops.k_callf 51 ?_; refine Ops.callV k1 (Evs.cons rfl Evs.nil) rfl ?_) | (refine Ops.k_callf 8 ?_; refine Ops.callV k2 (Evs.cons rfl Evs.nil) rfl ?_)) | fail)
    refine Fin.ret (Ent.take goTk) (Outs.many rfl (OutL.cons goOe (OutL.cons goOe OutL.nil)) rfl) ⟨rfl, rfl⟩
  rw [if_neg h2] at h ⊢
  unfold daysE at h ⊢
  generalize dayB day = q1 at *
  generalize dayB left = q2 at *
  cases q1 <;> cases q2 <;> first | exact absurd rfl h | skip
  all_goals repeat' (first | refine goH ?_ | refine goV ?_ | refine goB (fun b => ?_) | refine goG ?_ | (refine Ops.k_guard ?_; first | (refine Ops.guard_dec rfl rfl (fun hc => ?_) (fun hc => ?_) <;> try (exfalso; omega)) | refine Ops.guard_split rfl rfl (fun hc => ?_) (fun hc => ?_)) | refine goI ?_ | (refine Cw.k_cond ?_; first | (refine Cw.cond_dec rfl (fun hc => ?_) (fun hc => ?_) <;> try (exfalso; omega)) | refine Cw.cond_bool rfl (fun hc => ?_) (fun hc => ?_)) | (refine Ops.k_calla ?_; first | (refine Ops.k_callf 51 ?_; refine Ops.callV k1 (Evs.cons rfl Evs.nil) rfl ?_) | (refine Ops.k_callf 8 ?_; refine Ops.callV k2 (Evs.cons rfl Evs.nil) rfl ?_) | (refine Ops.k_callf 52 ?_; refine Ops.callV k3 (Evs.cons rfl Evs.nil) rfl ?_) | (refine Ops.k_callf 52 ?_; refine Ops.callV k4 (Evs.cons rfl Evs.nil) rfl ?_)) | fail)
  all_goals refine Fin.ret (Ent.take goTk) (Outs.many rfl (OutL.cons goOe (OutL.cons goOe OutL.nil)) rfl) ⟨rfl, rfl⟩
end Lg
end
section
set_option linter.all false
set_option maxRecDepth 100000
set_option maxHeartbeats 4000000
namespace Lg
open Go Go.Proofs

theorem wantE_ok {x : List Lot} {l : List Need} {day left : Int} (h : wantE x l day left = 0) : lotsErr x = 0 ∧ needsErr l = 0 ∧ dayB day = true ∧ dayB left = true := by
  unfold wantE daysE at h
  split at h
  · contradiction
  split at h
  · contradiction
  rename_i h1 h2
  refine ⟨by omega, by omega, ?_⟩
  cases h3 : dayB day <;> cases h4 : dayB left <;> rw [h3, h4] at h <;> simp at h ⊢
theorem wanted_fn (x : List Lot) (hx : x.length ≤ 1000000) (l : List Need) (hl : l.length ≤ 10) (day left : Int) (h : wantE x l day left = 0) : Spec Tryz.prog 30 [.lots x, .needs l, .int day, .int left] [] (fun r cs => ∃ b, r = .tup [.raw (.map (some b)), .int 0] ∧ cs = [Chunk.mp Value.string b (tkv (ndM l))]) := by
  have k1 := checkLots_fn x hx
  have k2 := checkNeeds_fn l (by omega)
  have k3 := day_fn day
  have k4 := day_fn left
  obtain ⟨w1, w2, w3, w4⟩ := wantE_ok h
  have hn : NOk l := ⟨hl, needsErr_ok w2⟩
  rw [w1] at k1
  rw [w2] at k2
  rw [w3] at k3
  rw [w4] at k4
  have hL : (l.map Need.row).length = l.length := List.length_map _
  have hbd := @ndM_bd l hn
  refine Spec.body Tryz.func30 rfl rfl (Tryz.ntmps30) rfl fun w0 own0 M => ?_
  repeat' (first | refine goH ?_ | (refine Ops.k_makeMap ?_; first | (refine Ops.makeMap Value.string rfl (fun b => ?_))) | refine goV ?_ | refine goB (fun b => ?_) | refine goG ?_ | (refine Ops.k_guard ?_; first | (refine Ops.guard_dec rfl rfl (fun hc => ?_) (fun hc => ?_) <;> try (exfalso; omega)) | refine Ops.guard_split rfl rfl (fun hc => ?_) (fun hc => ?_)) | refine goI ?_ | (refine Cw.k_cond ?_; first | (refine Cw.cond_dec rfl (fun hc => ?_) (fun hc => ?_) <;> try (exfalso; omega)) | refine Cw.cond_bool rfl (fun hc => ?_) (fun hc => ?_)) | (refine Ops.k_calla ?_; first | (refine Ops.k_callf 51 ?_; refine Ops.callV k1 (Evs.cons rfl Evs.nil) rfl ?_) | (refine Ops.k_callf 8 ?_; refine Ops.callV k2 (Evs.cons rfl Evs.nil) rfl ?_) | (refine Ops.k_callf 52 ?_; refine Ops.callV k3 (Evs.cons rfl Evs.nil) rfl ?_) | (refine Ops.k_callf 52 ?_; refine Ops.callV k4 (Evs.cons rfl Evs.nil) rfl ?_)) | fail)
  refine Cw.loopI [(12, _), (36, _), (37, _)] _ (fun q e c => ∃ (k : Nat) (m : List (ByteArray × Int)), q = l.length - k ∧ (k ≤ l.length ∧ ndM l = ndF m (l.drop k) ∧ ∀ a, 0 ≤ mI a m ∧ mI a m ≤ (k : Int) * 100000) ∧ e = [(38, .int k)] ∧ c = [Chunk.mp Value.string b (tkv m)])
    ⟨_, _, _, (Ent.mkP goSub goPm), 0, [], rfl, ⟨by omega, rfl, fun a => ⟨Int.le_refl _, Int.le_refl _⟩⟩, rfl, rfl⟩ ?_
  rintro _ _ _ ⟨k, m, rfl, ⟨hk, hV, hm⟩, rfl, rfl⟩
  by_cases hkl : k < l.length
  · obtain ⟨z, hz⟩ := at_lt hkl
    have hrow : (l.map Need.row)[k]? = some [.str z.pl, .str z.pr, .int z.many] := rows_at hz
    have hxm := hn.many z (List.mem_of_getElem? hz)
    rw [drop_at hz, ndF, mAdd] at hV
    have hadd := nd_step hm hxm
    have hvv := hm z.pr
    clear hm hz
    repeat' (first | refine goH ?_ | (refine Ops.k_lookup ?_; first | (refine Ops.lookup rfl rfl goPk rfl ?_; rw [tkv_read])) | (refine Ops.k_mapUpdate ?_; first | (refine Ops.mapUpdate rfl rfl rfl goPk ?_; rw [tkv_set])) | refine goV ?_ | refine goB (fun b => ?_) | refine goG ?_ | (refine Ops.k_guard ?_; first | (refine Ops.guard_dec rfl rfl (fun hc => ?_) (fun hc => ?_) <;> try (exfalso; omega)) | refine Ops.guard_split rfl rfl (fun hc => ?_) (fun hc => ?_)) | refine goI ?_ | (refine Cw.k_cond ?_; first | (refine Cw.cond_dec rfl (fun hc => ?_) (fun hc => ?_) <;> try (exfalso; omega)) | refine Cw.cond_bool rfl (fun hc => ?_) (fun hc => ?_)) | fail)
    exact ⟨_, _, _, (Ent.mk goSub goTk), ⟨k + 1, _, rfl, ⟨by omega, hV, hadd⟩, rfl, rfl⟩, by omega⟩
  · rw [List.drop_of_length_le (by omega), ndF] at hV
    rw [← hV]
    clear hV hm
    repeat' (first | refine goH ?_ | (refine Ops.k_range ?_; first | (refine Ops.range rfl goPk rfl (fun r => ?_))) | refine goV ?_ | refine goB (fun b => ?_) | refine goG ?_ | (refine Ops.k_guard ?_; first | (refine Ops.guard_dec rfl rfl (fun hc => ?_) (fun hc => ?_) <;> try (exfalso; omega)) | refine Ops.guard_split rfl rfl (fun hc => ?_) (fun hc => ?_)) | refine goI ?_ | (refine Cw.k_cond ?_; first | (refine Cw.cond_dec rfl (fun hc => ?_) (fun hc => ?_) <;> try (exfalso; omega)) | refine Cw.cond_bool rfl (fun hc => ?_) (fun hc => ?_)) | fail)
    refine Cw.loopI [(12, _), (51, _)] _ (fun q e c => ∃ (lf : List (ByteArray × Int)), q = lf.length ∧ (∀ q ∈ lf, q ∈ ndM l) ∧ e = [] ∧ c = [Chunk.rg Value.string b r (tkv (ndM l)) (tkv lf)])
      ⟨_, _, _, (Ent.mkP goSub goPm), ndM l, rfl, fun q h => h, rfl, rfl⟩ ?_
    rintro _ _ _ ⟨lf, rfl, hlf, rfl, rfl⟩
    repeat' (first | refine goH ?_ | ((fail_if_success refine Ops.k_next ?_); refine goV ?_) | ((fail_if_success refine Ops.k_next ?_); refine goB (fun b => ?_)) | refine goG ?_ | (refine Ops.k_guard ?_; first | (refine Ops.guard_dec rfl rfl (fun hc => ?_) (fun hc => ?_) <;> try (exfalso; omega)) | refine Ops.guard_split rfl rfl (fun hc => ?_) (fun hc => ?_)) | refine goI ?_ | (refine Cw.k_cond ?_; first | (refine Cw.cond_dec rfl (fun hc => ?_) (fun hc => ?_) <;> try (exfalso; omega)) | refine Cw.cond_bool rfl (fun hc => ?_) (fun hc => ?_)) | fail)
    refine Ops.k_next ?_
    refine Ops.nextC rfl goPk rfl (fun hl0 => ?_) (fun j a t hj => ?_)
    · repeat' (first | refine goH ?_ | refine goV ?_ | refine goB (fun b => ?_) | refine goG ?_ | (refine Ops.k_guard ?_; first | (refine Ops.guard_dec rfl rfl (fun hc => ?_) (fun hc => ?_) <;> try (exfalso; omega)) | refine Ops.guard_split rfl rfl (fun hc => ?_) (fun hc => ?_)) | refine goI ?_ | (refine Cw.k_cond ?_; first | (refine Cw.cond_dec rfl (fun hc => ?_) (fun hc => ?_) <;> try (exfalso; omega)) | refine Cw.cond_bool rfl (fun hc => ?_) (fun hc => ?_)) | fail)
      refine Fin.ret (Ent.take goTk) (Outs.many rfl (OutL.cons goOe (OutL.cons goOe OutL.nil)) rfl) ⟨_, rfl, rfl⟩
    · obtain ⟨v, hjv, rfl⟩ := tkv_at hj
      rw [tkv_erase]
      have hlen := eraseIdx_len hjv
      have hmem := hbd (hlf _ (List.mem_of_getElem? hjv))
      simp only at hmem
      repeat' (first | refine goH ?_ | (refine Ops.k_entry ?_; first | (refine Ops.entry rfl goPk rfl ?_)) | refine goV ?_ | refine goB (fun b => ?_) | refine goG ?_ | (refine Ops.k_guard ?_; first | (refine Ops.guard_dec rfl rfl (fun hc => ?_) (fun hc => ?_) <;> try (exfalso; omega)) | refine Ops.guard_split rfl rfl (fun hc => ?_) (fun hc => ?_)) | refine goI ?_ | (refine Cw.k_cond ?_; first | (refine Cw.cond_dec rfl (fun hc => ?_) (fun hc => ?_) <;> try (exfalso; omega)) | refine Cw.cond_bool rfl (fun hc => ?_) (fun hc => ?_)) | fail)
      all_goals first | exact ⟨_, _, _, (Ent.mk goSub goTk), ⟨lf.eraseIdx j, rfl, fun q h => hlf q (List.mem_of_mem_eraseIdx h), rfl, rfl⟩, by omega⟩ | (exfalso; omega)
/-- KitFault -/
def kitE (l : List Need) (day left : Int) : Int := if needsErr l ≠ 0 then needsErr l else daysE day left
theorem kitFault_fn (l : List Need) (hl : l.length ≤ 10) (day left : Int) : PFn Tryz.prog 14 [.needs l, .int day, .int left] (· = .int (kitE l day left)) := by
  have k1 := needsFault_fn l (by omega)
  have k2 := dayFault_fn [day, left] (by simp)
  have k3 := cmpOr_fn [needsErr l, if [day, left].any (fun n => !dayB n) then 1 else 0] (by simp)
  have e : orI [needsErr l, if [day, left].any (fun n => !dayB n) then 1 else 0] = kitE l day left := by
    unfold kitE daysE
    simp only [orI, List.any_cons, List.any_nil, Bool.or_false]
    split
    · rfl
    · cases dayB day <;> cases dayB left <;> rfl
  rw [e] at k3
  refine PFn.mk (Spec.body Tryz.func14 rfl rfl (Tryz.ntmps14) rfl fun w0 own0 M => ?_)
  by_cases h : kitE l day left = 0
  · rw [h] at k3 ⊢
    have hn : NOk l := ⟨hl, needsErr_ok (by unfold kitE at h; split at h <;> omega)⟩
    have kN := needed_fn l hn
    have hbd := @ndM_bd l hn
    repeat' (first | refine goH ?_ | (refine Ops.k_range ?_; first | (refine Ops.range rfl goPk rfl (fun r => ?_))) | refine goV ?_ | refine goI ?_ | (refine Cw.k_cond ?_; first | (refine Cw.cond_dec rfl (fun hc => ?_) (fun hc => ?_) <;> try (exfalso; omega)) | refine Cw.cond_bool rfl (fun hc => ?_) (fun hc => ?_)) | (refine Ops.k_calla ?_; first | (refine Ops.k_callf 9 ?_; refine Ops.callV k1 (Evs.cons rfl Evs.nil) rfl ?_) | (refine Ops.k_callf 38 ?_; refine Ops.callV k2 (Evs.cons rfl Evs.nil) rfl ?_) | (refine Ops.k_callf 12 ?_; refine Ops.callV k3 (Evs.cons rfl Evs.nil) rfl ?_) | (refine Ops.k_callf 39 ?_; (refine Ops.call kN (Evs.cons rfl Evs.nil) goPm rfl ?_; rintro r cs' ⟨b, rfl, rfl⟩))) | fail)
    refine Cw.loopI [(23, _)] _ (fun q e c => ∃ (lf : List (ByteArray × Int)), q = lf.length ∧ (∀ q ∈ lf, q ∈ ndM l) ∧ e = [] ∧ c = [Chunk.rg Value.string b r (tkv (ndM l)) (tkv lf)])
      ⟨_, _, _, (Ent.mkP goSub goPm), ndM l, rfl, fun q h => h, rfl, rfl⟩ ?_
    rintro _ _ _ ⟨lf, rfl, hlf, rfl, rfl⟩
    repeat' (first | refine goH ?_ | ((fail_if_success refine Ops.k_next ?_); refine goV ?_) | refine goI ?_ | (refine Cw.k_cond ?_; first | (refine Cw.cond_dec rfl (fun hc => ?_) (fun hc => ?_) <;> try (exfalso; omega)) | refine Cw.cond_bool rfl (fun hc => ?_) (fun hc => ?_)) | fail)
    refine Ops.k_next ?_
    refine Ops.nextC rfl goPk rfl (fun hl0 => ?_) (fun j a t hj => ?_)
    · repeat' (first | refine goH ?_ | refine goV ?_ | refine goI ?_ | (refine Cw.k_cond ?_; first | (refine Cw.cond_dec rfl (fun hc => ?_) (fun hc => ?_) <;> try (exfalso; omega)) | refine Cw.cond_bool rfl (fun hc => ?_) (fun hc => ?_)) | fail)
      refine Fin.ret (Ent.take goTk) (Outs.sole rfl goOe) ⟨rfl, rfl⟩
    · obtain ⟨v, hjv, rfl⟩ := tkv_at hj
      rw [tkv_erase]
      have hlen := eraseIdx_len hjv
      have hmem := hbd (hlf _ (List.mem_of_getElem? hjv))
      simp only at hmem
      repeat' (first | refine goH ?_ | (refine Ops.k_entry ?_; first | (refine Ops.entry rfl goPk rfl ?_)) | refine goV ?_ | refine goI ?_ | (refine Cw.k_cond ?_; first | (refine Cw.cond_dec rfl (fun hc => ?_) (fun hc => ?_) <;> try (exfalso; omega)) | refine Cw.cond_bool rfl (fun hc => ?_) (fun hc => ?_)) | fail)
      all_goals first | exact ⟨_, _, _, (Ent.mk goSub goTk), ⟨lf.eraseIdx j, rfl, fun q h => hlf q (List.mem_of_mem_eraseIdx h), rfl, rfl⟩, by omega⟩ | (exfalso; omega)
  · repeat' (first | refine goH ?_ | refine goV ?_ | refine goI ?_ | (refine Cw.k_cond ?_; first | (refine Cw.cond_dec rfl (fun hc => ?_) (fun hc => ?_) <;> try (exfalso; omega)) | refine Cw.cond_bool rfl (fun hc => ?_) (fun hc => ?_)) | (refine Ops.k_calla ?_; first | (refine Ops.k_callf 9 ?_; refine Ops.callV k1 (Evs.cons rfl Evs.nil) rfl ?_) | (refine Ops.k_callf 38 ?_; refine Ops.callV k2 (Evs.cons rfl Evs.nil) rfl ?_) | (refine Ops.k_callf 12 ?_; refine Ops.callV k3 (Evs.cons rfl Evs.nil) rfl ?_)) | fail)
    refine Fin.ret (Ent.take goTk) (Outs.sole rfl goOe) ⟨rfl, rfl⟩
end Lg
end
