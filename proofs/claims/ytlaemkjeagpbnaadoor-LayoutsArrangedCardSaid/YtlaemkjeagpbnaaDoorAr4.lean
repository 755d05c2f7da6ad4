/- A part of the proof of a law of this seat: it adds no condition. By an AI agent. -/
import Derived.Test.YtlaemkjeagpbnaaDoorAr2
section
set_option linter.all false
set_option maxRecDepth 100000
set_option maxHeartbeats 8000000
namespace Lg
open Go Go.Proofs

theorem strRows_snoc (l : List ByteArray) (x : ByteArray) : strRows l ++ [[Tr.str x]] = strRows (l ++ [x]) := by rw [strRows_app]; rfl
attribute [local irreducible] intRows strRows filP hatedB
theorem put_goodA (bp : Nat) (R C : Nat) (hC : 1 ≤ C ∧ C ≤ 10) (l : List Offer) (hl : OBd l) (old : List ByteArray) (ho : old.length ≤ 100) (ad2 : Option Addr) (cap2 : Nat) (n : Nat) (ih : FillS bp R C l old ad2 cap2 n)
    (pre : List ByteArray) (key : ByteArray) (L : List Int) (e d : Int) (B : List ByteArray) (m : Int) (ad : Option Addr) (cap : Nat) (hn : pre.length + (n + 1) = old.length) (hL : L.length = l.length) (hLb : ∀ v ∈ L, 0 ≤ v ∧ v ≤ 1000) (he : 0 ≤ e ∧ e ≤ 1000) (hd : 0 ≤ d ∧ d ≤ pre.length)
    (hc0 : ¬ (0 ≤ m ∧ m ≤ d + dif1 old pre.length key)) (hb : badC l C pre key = false) (hA : C ≤ pre.length) :
    Spec Tryd.prog 77 [Tr.raw (.pointer (some ⟨bp, 0, none⟩)), .str key, .int d] (plC bp R C l old ad cap ad2 cap2 pre L e B m)
      (fun r cs => r = .tup [] ∧ ∃ ad' cap', cs = plC bp R C l old ad' cap' ad2 cap2 pre L e (filP (keysL l) old (badC l C) n (pre ++ [key]) (e :: L) (d + dif1 old pre.length key) (B, m)).1 (filP (keysL l) old (badC l C) n (pre ++ [key]) (e :: L) (d + dif1 old pre.length key) (B, m)).2) := by
  have hpl := strRows_len pre
  have hoR := strRows_len old
  obtain ⟨o, hold⟩ := at_lt (l := old) (k := pre.length) (by omega)
  have r1 := strRows_at hold
  have hdv : dif1 old pre.length key = if key = o then 0 else 1 := by
    unfold dif1
    rw [List.getD_eq_getElem?_getD, hold]
    rfl
  obtain ⟨q, hq⟩ : ∃ q : Int, q = d + (if key = o then 0 else 1) := ⟨_, rfl⟩
  have hqb : 0 ≤ q ∧ q ≤ pre.length + 1 := by
    rw [hq]
    split <;> omega
  rw [hdv, ← hq] at hc0
  rw [hdv, ← hq]
  clear hdv hold
  have hpl4 : (pre ++ [key]).length = pre.length + 1 := by simp
  have kI := fun (ad : Option Addr) (cap : Nat) => ih (pre ++ [key]) L e q B m ad cap (by omega) hL hLb he (by omega)
  obtain ⟨B4, m4, hst4⟩ : ∃ B4 m4, filP (keysL l) old (badC l C) n (pre ++ [key]) (e :: L) q (B, m) = (B4, m4) := ⟨_, _, rfl⟩
  simp only [hst4, plC] at kI
  rw [hst4]
  clear hst4 ih
  have hpl3 := strRows_len (pre ++ [key])
  have ht3 : (strRows (pre ++ [key])).take pre.length = strRows pre := by
    rw [← strRows_snoc, List.take_left' hpl]
  have hsp := fun (j : Nat) (hj : j < pre.length) => strRows_at (l := pre) (j := j) (x := pre.getD j eS) (by rw [List.getD_eq_getElem?_getD, List.getElem?_eq_getElem hj]; rfl)
  have hr2 : C ≤ pre.length → (strRows pre)[((pre.length : Int) - (C : Int)).toNat]? = some [.str (pre.getD (pre.length - C) eS)] := by
    intro h
    rw [show ((pre.length : Int) - (C : Int)).toNat = pre.length - C by omega]
    exact hsp _ (by omega)
  have hmod : ((pre.length % C : Nat) : Int) = (pre.length : Int) % (C : Int) := Int.natCast_emod _ _
  have hmp : 0 < pre.length % C → 0 < pre.length := by
    intro h
    rcases Nat.eq_zero_or_pos pre.length with e | e
    · rw [e, Nat.zero_mod] at h; omega
    · exact e
  have hr3 : 0 < pre.length % C → (strRows pre)[((pre.length : Int) - 1).toNat]? = some [.str (pre.getD (pre.length - 1) eS)] := by
    intro h
    have := hmp h
    rw [show ((pre.length : Int) - 1).toNat = pre.length - 1 by omega]
    exact hsp _ (by omega)
  have hK1 := hated_fn l hl (pre.getD (pre.length - C) eS) key
  have hK2 := hated_fn l hl (pre.getD (pre.length - 1) eS) key
  have hbd : badC l C pre key = ((decide (C ≤ pre.length) && hatedB l (pre.getD (pre.length - C) eS) key) || (decide (0 < pre.length % C) && hatedB l (pre.getD (pre.length - 1) eS) key)) := rfl
  rw [hbd, Bool.or_eq_false_iff, Bool.and_eq_false_imp, Bool.and_eq_false_imp, decide_eq_true_iff, decide_eq_true_iff] at hb
  clear hbd hsp
  generalize pre.getD (pre.length - C) eS = u at *
  generalize pre.getD (pre.length - 1) eS = u2 at *
  obtain ⟨z, hz⟩ : ∃ z : Int, z = (pre.length : Int) % (C : Int) := ⟨_, rfl⟩
  have hS : (0 < pre.length % C ∧ 0 < z) ∨ (¬ 0 < pre.length % C ∧ z = 0) := by omega
  obtain ⟨hb1, hb2⟩ := hb
  have hK1 := fun h => hb1 h ▸ hK1
  have hK2 := fun h => hb2 h ▸ hK2
  clear hb1 hb2
  refine Spec.body Tryd.func77 rfl rfl (Tryd.ntmps77) rfl fun w0 own0 M => ?_
  have r2 := hr2 hA
  have hK1 := hK1 hA
  clear hr2
  by_cases hS0 : 0 < pre.length % C
  · have r3 := hr3 hS0
    have hp0 := hmp hS0
    have hK2 := hK2 hS0
    have hz0 : 0 < z := by omega
    clear hr3 hmp hS
    by_cases hk : key = o
    · rw [if_pos hk] at hq
      have hqd : q = d := by omega
      clear hq
      subst hqd
      repeat' (first | refine goH ?_ | (refine Ops.k_b_neq ?_; first | (refine Ops.val' rfl (OpV.neqS_f rfl rfl hk) ?_)) | refine goV ?_ | refine goC (fun ad cap => ?_) | refine goG ?_ | (refine Ops.k_guard ?_; first | (refine Ops.guard_dec rfl rfl (fun hc => ?_) (fun hc => ?_) <;> try (exfalso; omega)) | refine Ops.guard_split rfl rfl (fun hc => ?_) (fun hc => ?_)) | refine goI ?_ | (refine Cw.k_cond ?_; first | (refine Cw.cond_dec rfl (fun hc => ?_) (fun hc => ?_) <;> try (exfalso; omega)) | refine Cw.cond_bool rfl (fun hc => ?_) (fun hc => ?_)) | exact OpW.callV hK1 (Evs.cons rfl (Evs.cons rfl (Evs.cons rfl Evs.nil))) | exact OpW.callV hK2 (Evs.cons rfl (Evs.cons rfl (Evs.cons rfl Evs.nil))) | refine goR ?_ | refine goP ?_ | apply PSeq.cons | apply PSeq.yes rfl rfl rfl | exact goW | fail)
      all_goals
        rw [strRows_snoc, strRows_len]
        refine Ops.call (kI ad cap) (Evs.cons rfl (Evs.cons rfl Evs.nil)) goPm rfl ?_
        rintro r cs' ⟨rfl, ad', cap', rfl⟩
        clear kI
        repeat' (first | refine goH ?_ | (refine Ops.k_slice ?_; first | (refine Ops.slice_own_hP rfl rfl goPk (by omega) (by omega) rfl ?_)) | refine goV ?_ | refine goC (fun ad cap => ?_) | refine goG ?_ | (refine Ops.k_guard ?_; first | (refine Ops.guard_dec rfl rfl (fun hc => ?_) (fun hc => ?_) <;> try (exfalso; omega)) | refine Ops.guard_split rfl rfl (fun hc => ?_) (fun hc => ?_)) | refine goI ?_ | (refine Cw.k_cond ?_; first | (refine Cw.cond_dec rfl (fun hc => ?_) (fun hc => ?_) <;> try (exfalso; omega)) | refine Cw.cond_bool rfl (fun hc => ?_) (fun hc => ?_)) | refine goR ?_ | refine goP ?_ | apply PSeq.cons | apply PSeq.yes rfl rfl rfl | exact goW | fail)
        rw [Int.toNat_natCast]
        exact Fin.norm (Ent.trans (Ent.own_head pre.length ht3 goPk (by omega)) (Ent.take goTk)) (Outs.zero rfl) ⟨rfl, ad', cap', rfl⟩
    · rw [if_neg hk] at hq
      subst hq
      repeat' (first | refine goH ?_ | (refine Ops.k_b_neq ?_; first | (refine Ops.val' rfl (OpV.neqS_t rfl rfl hk) ?_)) | refine goV ?_ | refine goC (fun ad cap => ?_) | refine goG ?_ | (refine Ops.k_guard ?_; first | (refine Ops.guard_dec rfl rfl (fun hc => ?_) (fun hc => ?_) <;> try (exfalso; omega)) | refine Ops.guard_split rfl rfl (fun hc => ?_) (fun hc => ?_)) | refine goI ?_ | (refine Cw.k_cond ?_; first | (refine Cw.cond_dec rfl (fun hc => ?_) (fun hc => ?_) <;> try (exfalso; omega)) | refine Cw.cond_bool rfl (fun hc => ?_) (fun hc => ?_)) | exact OpW.callV hK1 (Evs.cons rfl (Evs.cons rfl (Evs.cons rfl Evs.nil))) | exact OpW.callV hK2 (Evs.cons rfl (Evs.cons rfl (Evs.cons rfl Evs.nil))) | refine goR ?_ | refine goP ?_ | apply PSeq.cons | apply PSeq.yes rfl rfl rfl | exact goW | fail)
      all_goals
        rw [strRows_snoc, strRows_len]
        refine Ops.call (kI ad cap) (Evs.cons rfl (Evs.cons rfl Evs.nil)) goPm rfl ?_
        rintro r cs' ⟨rfl, ad', cap', rfl⟩
        clear kI
        repeat' (first | refine goH ?_ | (refine Ops.k_slice ?_; first | (refine Ops.slice_own_hP rfl rfl goPk (by omega) (by omega) rfl ?_)) | refine goV ?_ | refine goC (fun ad cap => ?_) | refine goG ?_ | (refine Ops.k_guard ?_; first | (refine Ops.guard_dec rfl rfl (fun hc => ?_) (fun hc => ?_) <;> try (exfalso; omega)) | refine Ops.guard_split rfl rfl (fun hc => ?_) (fun hc => ?_)) | refine goI ?_ | (refine Cw.k_cond ?_; first | (refine Cw.cond_dec rfl (fun hc => ?_) (fun hc => ?_) <;> try (exfalso; omega)) | refine Cw.cond_bool rfl (fun hc => ?_) (fun hc => ?_)) | refine goR ?_ | refine goP ?_ | apply PSeq.cons | apply PSeq.yes rfl rfl rfl | exact goW | fail)
        rw [Int.toNat_natCast]
        exact Fin.norm (Ent.trans (Ent.own_head pre.length ht3 goPk (by omega)) (Ent.take goTk)) (Outs.zero rfl) ⟨rfl, ad', cap', rfl⟩
  · have hz0 : z = 0 := by omega
    clear hr3 hmp hS hK2
    by_cases hk : key = o
    · rw [if_pos hk] at hq
      have hqd : q = d := by omega
      clear hq
      subst hqd
      repeat' (first | refine goH ?_ | (refine Ops.k_b_neq ?_; first | (refine Ops.val' rfl (OpV.neqS_f rfl rfl hk) ?_)) | refine goV ?_ | refine goC (fun ad cap => ?_) | refine goG ?_ | (refine Ops.k_guard ?_; first | (refine Ops.guard_dec rfl rfl (fun hc => ?_) (fun hc => ?_) <;> try (exfalso; omega)) | refine Ops.guard_split rfl rfl (fun hc => ?_) (fun hc => ?_)) | refine goI ?_ | (refine Cw.k_cond ?_; first | (refine Cw.cond_dec rfl (fun hc => ?_) (fun hc => ?_) <;> try (exfalso; omega)) | refine Cw.cond_bool rfl (fun hc => ?_) (fun hc => ?_)) | exact OpW.callV hK1 (Evs.cons rfl (Evs.cons rfl (Evs.cons rfl Evs.nil))) | refine goR ?_ | refine goP ?_ | apply PSeq.cons | apply PSeq.yes rfl rfl rfl | exact goW | fail)
      all_goals
        rw [strRows_snoc, strRows_len]
        refine Ops.call (kI ad cap) (Evs.cons rfl (Evs.cons rfl Evs.nil)) goPm rfl ?_
        rintro r cs' ⟨rfl, ad', cap', rfl⟩
        clear kI
        repeat' (first | refine goH ?_ | (refine Ops.k_slice ?_; first | (refine Ops.slice_own_hP rfl rfl goPk (by omega) (by omega) rfl ?_)) | refine goV ?_ | refine goC (fun ad cap => ?_) | refine goG ?_ | (refine Ops.k_guard ?_; first | (refine Ops.guard_dec rfl rfl (fun hc => ?_) (fun hc => ?_) <;> try (exfalso; omega)) | refine Ops.guard_split rfl rfl (fun hc => ?_) (fun hc => ?_)) | refine goI ?_ | (refine Cw.k_cond ?_; first | (refine Cw.cond_dec rfl (fun hc => ?_) (fun hc => ?_) <;> try (exfalso; omega)) | refine Cw.cond_bool rfl (fun hc => ?_) (fun hc => ?_)) | refine goR ?_ | refine goP ?_ | apply PSeq.cons | apply PSeq.yes rfl rfl rfl | exact goW | fail)
        rw [Int.toNat_natCast]
        exact Fin.norm (Ent.trans (Ent.own_head pre.length ht3 goPk (by omega)) (Ent.take goTk)) (Outs.zero rfl) ⟨rfl, ad', cap', rfl⟩
    · rw [if_neg hk] at hq
      subst hq
      repeat' (first | refine goH ?_ | (refine Ops.k_b_neq ?_; first | (refine Ops.val' rfl (OpV.neqS_t rfl rfl hk) ?_)) | refine goV ?_ | refine goC (fun ad cap => ?_) | refine goG ?_ | (refine Ops.k_guard ?_; first | (refine Ops.guard_dec rfl rfl (fun hc => ?_) (fun hc => ?_) <;> try (exfalso; omega)) | refine Ops.guard_split rfl rfl (fun hc => ?_) (fun hc => ?_)) | refine goI ?_ | (refine Cw.k_cond ?_; first | (refine Cw.cond_dec rfl (fun hc => ?_) (fun hc => ?_) <;> try (exfalso; omega)) | refine Cw.cond_bool rfl (fun hc => ?_) (fun hc => ?_)) | exact OpW.callV hK1 (Evs.cons rfl (Evs.cons rfl (Evs.cons rfl Evs.nil))) | refine goR ?_ | refine goP ?_ | apply PSeq.cons | apply PSeq.yes rfl rfl rfl | exact goW | fail)
      all_goals
        rw [strRows_snoc, strRows_len]
        refine Ops.call (kI ad cap) (Evs.cons rfl (Evs.cons rfl Evs.nil)) goPm rfl ?_
        rintro r cs' ⟨rfl, ad', cap', rfl⟩
        clear kI
        repeat' (first | refine goH ?_ | (refine Ops.k_slice ?_; first | (refine Ops.slice_own_hP rfl rfl goPk (by omega) (by omega) rfl ?_)) | refine goV ?_ | refine goC (fun ad cap => ?_) | refine goG ?_ | (refine Ops.k_guard ?_; first | (refine Ops.guard_dec rfl rfl (fun hc => ?_) (fun hc => ?_) <;> try (exfalso; omega)) | refine Ops.guard_split rfl rfl (fun hc => ?_) (fun hc => ?_)) | refine goI ?_ | (refine Cw.k_cond ?_; first | (refine Cw.cond_dec rfl (fun hc => ?_) (fun hc => ?_) <;> try (exfalso; omega)) | refine Cw.cond_bool rfl (fun hc => ?_) (fun hc => ?_)) | refine goR ?_ | refine goP ?_ | apply PSeq.cons | apply PSeq.yes rfl rfl rfl | exact goW | fail)
        rw [Int.toNat_natCast]
        exact Fin.norm (Ent.trans (Ent.own_head pre.length ht3 goPk (by omega)) (Ent.take goTk)) (Outs.zero rfl) ⟨rfl, ad', cap', rfl⟩
end Lg
end
section
set_option linter.all false
set_option maxRecDepth 100000
set_option maxHeartbeats 8000000
namespace Lg
open Go Go.Proofs

attribute [local irreducible] intRows strRows filP hatedB
theorem put_goodB (bp : Nat) (R C : Nat) (hC : 1 ≤ C ∧ C ≤ 10) (l : List Offer) (hl : OBd l) (old : List ByteArray) (ho : old.length ≤ 100) (ad2 : Option Addr) (cap2 : Nat) (n : Nat) (ih : FillS bp R C l old ad2 cap2 n)
    (pre : List ByteArray) (key : ByteArray) (L : List Int) (e d : Int) (B : List ByteArray) (m : Int) (ad : Option Addr) (cap : Nat) (hn : pre.length + (n + 1) = old.length) (hL : L.length = l.length) (hLb : ∀ v ∈ L, 0 ≤ v ∧ v ≤ 1000) (he : 0 ≤ e ∧ e ≤ 1000) (hd : 0 ≤ d ∧ d ≤ pre.length)
    (hc0 : ¬ (0 ≤ m ∧ m ≤ d + dif1 old pre.length key)) (hb : badC l C pre key = false) (hA : ¬ C ≤ pre.length) :
    Spec Tryd.prog 77 [Tr.raw (.pointer (some ⟨bp, 0, none⟩)), .str key, .int d] (plC bp R C l old ad cap ad2 cap2 pre L e B m)
      (fun r cs => r = .tup [] ∧ ∃ ad' cap', cs = plC bp R C l old ad' cap' ad2 cap2 pre L e (filP (keysL l) old (badC l C) n (pre ++ [key]) (e :: L) (d + dif1 old pre.length key) (B, m)).1 (filP (keysL l) old (badC l C) n (pre ++ [key]) (e :: L) (d + dif1 old pre.length key) (B, m)).2) := by
  have hpl := strRows_len pre
  have hoR := strRows_len old
  obtain ⟨o, hold⟩ := at_lt (l := old) (k := pre.length) (by omega)
  have r1 := strRows_at hold
  have hdv : dif1 old pre.length key = if key = o then 0 else 1 := by
    unfold dif1
    rw [List.getD_eq_getElem?_getD, hold]
    rfl
  obtain ⟨q, hq⟩ : ∃ q : Int, q = d + (if key = o then 0 else 1) := ⟨_, rfl⟩
  have hqb : 0 ≤ q ∧ q ≤ pre.length + 1 := by
    rw [hq]
    split <;> omega
  rw [hdv, ← hq] at hc0
  rw [hdv, ← hq]
  clear hdv hold
  have hpl4 : (pre ++ [key]).length = pre.length + 1 := by simp
  have kI := fun (ad : Option Addr) (cap : Nat) => ih (pre ++ [key]) L e q B m ad cap (by omega) hL hLb he (by omega)
  obtain ⟨B4, m4, hst4⟩ : ∃ B4 m4, filP (keysL l) old (badC l C) n (pre ++ [key]) (e :: L) q (B, m) = (B4, m4) := ⟨_, _, rfl⟩
  simp only [hst4, plC] at kI
  rw [hst4]
  clear hst4 ih
  have hpl3 := strRows_len (pre ++ [key])
  have ht3 : (strRows (pre ++ [key])).take pre.length = strRows pre := by
    rw [← strRows_snoc, List.take_left' hpl]
  have hsp := fun (j : Nat) (hj : j < pre.length) => strRows_at (l := pre) (j := j) (x := pre.getD j eS) (by rw [List.getD_eq_getElem?_getD, List.getElem?_eq_getElem hj]; rfl)
  have hr2 : C ≤ pre.length → (strRows pre)[((pre.length : Int) - (C : Int)).toNat]? = some [.str (pre.getD (pre.length - C) eS)] := by
    intro h
    rw [show ((pre.length : Int) - (C : Int)).toNat = pre.length - C by omega]
    exact hsp _ (by omega)
  have hmod : ((pre.length % C : Nat) : Int) = (pre.length : Int) % (C : Int) := Int.natCast_emod _ _
  have hmp : 0 < pre.length % C → 0 < pre.length := by
    intro h
    rcases Nat.eq_zero_or_pos pre.length with e | e
    · rw [e, Nat.zero_mod] at h; omega
    · exact e
  have hr3 : 0 < pre.length % C → (strRows pre)[((pre.length : Int) - 1).toNat]? = some [.str (pre.getD (pre.length - 1) eS)] := by
    intro h
    have := hmp h
    rw [show ((pre.length : Int) - 1).toNat = pre.length - 1 by omega]
    exact hsp _ (by omega)
  have hK1 := hated_fn l hl (pre.getD (pre.length - C) eS) key
  have hK2 := hated_fn l hl (pre.getD (pre.length - 1) eS) key
  have hbd : badC l C pre key = ((decide (C ≤ pre.length) && hatedB l (pre.getD (pre.length - C) eS) key) || (decide (0 < pre.length % C) && hatedB l (pre.getD (pre.length - 1) eS) key)) := rfl
  rw [hbd, Bool.or_eq_false_iff, Bool.and_eq_false_imp, Bool.and_eq_false_imp, decide_eq_true_iff, decide_eq_true_iff] at hb
  clear hbd hsp
  generalize pre.getD (pre.length - C) eS = u at *
  generalize pre.getD (pre.length - 1) eS = u2 at *
  obtain ⟨z, hz⟩ : ∃ z : Int, z = (pre.length : Int) % (C : Int) := ⟨_, rfl⟩
  have hS : (0 < pre.length % C ∧ 0 < z) ∨ (¬ 0 < pre.length % C ∧ z = 0) := by omega
  obtain ⟨hb1, hb2⟩ := hb
  have hK1 := fun h => hb1 h ▸ hK1
  have hK2 := fun h => hb2 h ▸ hK2
  clear hb1 hb2
  refine Spec.body Tryd.func77 rfl rfl (Tryd.ntmps77) rfl fun w0 own0 M => ?_
  clear hr2 hK1
  by_cases hS0 : 0 < pre.length % C
  · have r3 := hr3 hS0
    have hp0 := hmp hS0
    have hK2 := hK2 hS0
    have hz0 : 0 < z := by omega
    clear hr3 hmp hS
    by_cases hk : key = o
    · rw [if_pos hk] at hq
      have hqd : q = d := by omega
      clear hq
      subst hqd
      repeat' (first | refine goH ?_ | (refine Ops.k_b_neq ?_; first | (refine Ops.val' rfl (OpV.neqS_f rfl rfl hk) ?_)) | refine goV ?_ | refine goC (fun ad cap => ?_) | refine goG ?_ | (refine Ops.k_guard ?_; first | (refine Ops.guard_dec rfl rfl (fun hc => ?_) (fun hc => ?_) <;> try (exfalso; omega)) | refine Ops.guard_split rfl rfl (fun hc => ?_) (fun hc => ?_)) | refine goI ?_ | (refine Cw.k_cond ?_; first | (refine Cw.cond_dec rfl (fun hc => ?_) (fun hc => ?_) <;> try (exfalso; omega)) | refine Cw.cond_bool rfl (fun hc => ?_) (fun hc => ?_)) | exact OpW.callV hK2 (Evs.cons rfl (Evs.cons rfl (Evs.cons rfl Evs.nil))) | refine goR ?_ | refine goP ?_ | apply PSeq.cons | apply PSeq.yes rfl rfl rfl | exact goW | fail)
      all_goals
        rw [strRows_snoc, strRows_len]
        refine Ops.call (kI ad cap) (Evs.cons rfl (Evs.cons rfl Evs.nil)) goPm rfl ?_
        rintro r cs' ⟨rfl, ad', cap', rfl⟩
        clear kI
        repeat' (first | refine goH ?_ | (refine Ops.k_slice ?_; first | (refine Ops.slice_own_hP rfl rfl goPk (by omega) (by omega) rfl ?_)) | refine goV ?_ | refine goC (fun ad cap => ?_) | refine goG ?_ | (refine Ops.k_guard ?_; first | (refine Ops.guard_dec rfl rfl (fun hc => ?_) (fun hc => ?_) <;> try (exfalso; omega)) | refine Ops.guard_split rfl rfl (fun hc => ?_) (fun hc => ?_)) | refine goI ?_ | (refine Cw.k_cond ?_; first | (refine Cw.cond_dec rfl (fun hc => ?_) (fun hc => ?_) <;> try (exfalso; omega)) | refine Cw.cond_bool rfl (fun hc => ?_) (fun hc => ?_)) | refine goR ?_ | refine goP ?_ | apply PSeq.cons | apply PSeq.yes rfl rfl rfl | exact goW | fail)
        rw [Int.toNat_natCast]
        exact Fin.norm (Ent.trans (Ent.own_head pre.length ht3 goPk (by omega)) (Ent.take goTk)) (Outs.zero rfl) ⟨rfl, ad', cap', rfl⟩
    · rw [if_neg hk] at hq
      subst hq
      repeat' (first | refine goH ?_ | (refine Ops.k_b_neq ?_; first | (refine Ops.val' rfl (OpV.neqS_t rfl rfl hk) ?_)) | refine goV ?_ | refine goC (fun ad cap => ?_) | refine goG ?_ | (refine Ops.k_guard ?_; first | (refine Ops.guard_dec rfl rfl (fun hc => ?_) (fun hc => ?_) <;> try (exfalso; omega)) | refine Ops.guard_split rfl rfl (fun hc => ?_) (fun hc => ?_)) | refine goI ?_ | (refine Cw.k_cond ?_; first | (refine Cw.cond_dec rfl (fun hc => ?_) (fun hc => ?_) <;> try (exfalso; omega)) | refine Cw.cond_bool rfl (fun hc => ?_) (fun hc => ?_)) | exact OpW.callV hK2 (Evs.cons rfl (Evs.cons rfl (Evs.cons rfl Evs.nil))) | refine goR ?_ | refine goP ?_ | apply PSeq.cons | apply PSeq.yes rfl rfl rfl | exact goW | fail)
      all_goals
        rw [strRows_snoc, strRows_len]
        refine Ops.call (kI ad cap) (Evs.cons rfl (Evs.cons rfl Evs.nil)) goPm rfl ?_
        rintro r cs' ⟨rfl, ad', cap', rfl⟩
        clear kI
        repeat' (first | refine goH ?_ | (refine Ops.k_slice ?_; first | (refine Ops.slice_own_hP rfl rfl goPk (by omega) (by omega) rfl ?_)) | refine goV ?_ | refine goC (fun ad cap => ?_) | refine goG ?_ | (refine Ops.k_guard ?_; first | (refine Ops.guard_dec rfl rfl (fun hc => ?_) (fun hc => ?_) <;> try (exfalso; omega)) | refine Ops.guard_split rfl rfl (fun hc => ?_) (fun hc => ?_)) | refine goI ?_ | (refine Cw.k_cond ?_; first | (refine Cw.cond_dec rfl (fun hc => ?_) (fun hc => ?_) <;> try (exfalso; omega)) | refine Cw.cond_bool rfl (fun hc => ?_) (fun hc => ?_)) | refine goR ?_ | refine goP ?_ | apply PSeq.cons | apply PSeq.yes rfl rfl rfl | exact goW | fail)
        rw [Int.toNat_natCast]
        exact Fin.norm (Ent.trans (Ent.own_head pre.length ht3 goPk (by omega)) (Ent.take goTk)) (Outs.zero rfl) ⟨rfl, ad', cap', rfl⟩
  · have hz0 : z = 0 := by omega
    clear hr3 hmp hS hK2
    by_cases hk : key = o
    · rw [if_pos hk] at hq
      have hqd : q = d := by omega
      clear hq
      subst hqd
      repeat' (first | refine goH ?_ | (refine Ops.k_b_neq ?_; first | (refine Ops.val' rfl (OpV.neqS_f rfl rfl hk) ?_)) | refine goV ?_ | refine goC (fun ad cap => ?_) | refine goG ?_ | (refine Ops.k_guard ?_; first | (refine Ops.guard_dec rfl rfl (fun hc => ?_) (fun hc => ?_) <;> try (exfalso; omega)) | refine Ops.guard_split rfl rfl (fun hc => ?_) (fun hc => ?_)) | refine goI ?_ | (refine Cw.k_cond ?_; first | (refine Cw.cond_dec rfl (fun hc => ?_) (fun hc => ?_) <;> try (exfalso; omega)) | refine Cw.cond_bool rfl (fun hc => ?_) (fun hc => ?_)) | refine goR ?_ | refine goP ?_ | apply PSeq.cons | apply PSeq.yes rfl rfl rfl | exact goW | fail)
      all_goals
        rw [strRows_snoc, strRows_len]
        refine Ops.call (kI ad cap) (Evs.cons rfl (Evs.cons rfl Evs.nil)) goPm rfl ?_
        rintro r cs' ⟨rfl, ad', cap', rfl⟩
        clear kI
        repeat' (first | refine goH ?_ | (refine Ops.k_slice ?_; first | (refine Ops.slice_own_hP rfl rfl goPk (by omega) (by omega) rfl ?_)) | refine goV ?_ | refine goC (fun ad cap => ?_) | refine goG ?_ | (refine Ops.k_guard ?_; first | (refine Ops.guard_dec rfl rfl (fun hc => ?_) (fun hc => ?_) <;> try (exfalso; omega)) | refine Ops.guard_split rfl rfl (fun hc => ?_) (fun hc => ?_)) | refine goI ?_ | (refine Cw.k_cond ?_; first | (refine Cw.cond_dec rfl (fun hc => ?_) (fun hc => ?_) <;> try (exfalso; omega)) | refine Cw.cond_bool rfl (fun hc => ?_) (fun hc => ?_)) | refine goR ?_ | refine goP ?_ | apply PSeq.cons | apply PSeq.yes rfl rfl rfl | exact goW | fail)
        rw [Int.toNat_natCast]
        exact Fin.norm (Ent.trans (Ent.own_head pre.length ht3 goPk (by omega)) (Ent.take goTk)) (Outs.zero rfl) ⟨rfl, ad', cap', rfl⟩
    · rw [if_neg hk] at hq
      subst hq
      repeat' (first | refine goH ?_ | (refine Ops.k_b_neq ?_; first | (refine Ops.val' rfl (OpV.neqS_t rfl rfl hk) ?_)) | refine goV ?_ | refine goC (fun ad cap => ?_) | refine goG ?_ | (refine Ops.k_guard ?_; first | (refine Ops.guard_dec rfl rfl (fun hc => ?_) (fun hc => ?_) <;> try (exfalso; omega)) | refine Ops.guard_split rfl rfl (fun hc => ?_) (fun hc => ?_)) | refine goI ?_ | (refine Cw.k_cond ?_; first | (refine Cw.cond_dec rfl (fun hc => ?_) (fun hc => ?_) <;> try (exfalso; omega)) | refine Cw.cond_bool rfl (fun hc => ?_) (fun hc => ?_)) | refine goR ?_ | refine goP ?_ | apply PSeq.cons | apply PSeq.yes rfl rfl rfl | exact goW | fail)
      all_goals
        rw [strRows_snoc, strRows_len]
        refine Ops.call (kI ad cap) (Evs.cons rfl (Evs.cons rfl Evs.nil)) goPm rfl ?_
        rintro r cs' ⟨rfl, ad', cap', rfl⟩
        clear kI
        repeat' (first | refine goH ?_ | (refine Ops.k_slice ?_; first | (refine Ops.slice_own_hP rfl rfl goPk (by omega) (by omega) rfl ?_)) | refine goV ?_ | refine goC (fun ad cap => ?_) | refine goG ?_ | (refine Ops.k_guard ?_; first | (refine Ops.guard_dec rfl rfl (fun hc => ?_) (fun hc => ?_) <;> try (exfalso; omega)) | refine Ops.guard_split rfl rfl (fun hc => ?_) (fun hc => ?_)) | refine goI ?_ | (refine Cw.k_cond ?_; first | (refine Cw.cond_dec rfl (fun hc => ?_) (fun hc => ?_) <;> try (exfalso; omega)) | refine Cw.cond_bool rfl (fun hc => ?_) (fun hc => ?_)) | refine goR ?_ | refine goP ?_ | apply PSeq.cons | apply PSeq.yes rfl rfl rfl | exact goW | fail)
        rw [Int.toNat_natCast]
        exact Fin.norm (Ent.trans (Ent.own_head pre.length ht3 goPk (by omega)) (Ent.take goTk)) (Outs.zero rfl) ⟨rfl, ad', cap', rfl⟩
end Lg
end
