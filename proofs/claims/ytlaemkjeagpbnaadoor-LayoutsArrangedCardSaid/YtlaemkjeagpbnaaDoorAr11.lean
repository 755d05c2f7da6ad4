/- A part of the proof of a law of this seat: it adds no condition. By an AI agent. -/
import Derived.Test.YtlaemkjeagpbnaaDoorAr10
set_option linter.all false
set_option maxRecDepth 100000
set_option maxHeartbeats 8000000
namespace Lg
open Go Go.Proofs

theorem empL_at {xs : List ByteArray} {k : Nat} {x : ByteArray} (hx : xs[k]? = some x) : empL xs (k + 1) = if x = eS then empL xs k ++ [(k : Int)] else empL xs k := by
  rw [empL_succ, emS, hx]
theorem intRowsA (a b : List Int) : intRows a ++ intRows b = intRows (a ++ b) := (intRows_app a b).symm
theorem empL_zero (xs : List ByteArray) : empL xs 0 = [] := rfl
attribute [local irreducible] intRows strRows sumL arS emS arO arT empL arr1
theorem arrangeOf_fn (l : List Offer) (hl : OBd l) (xs : List ByteArray) (c : List Int) (hc : c.length ≤ 1000) (h10 : cnt1E l xs = 0) (h30 : cntsE l c = 0) (h4 : ¬ (xs.length : Int) < sumL c) : PFn Tryd.prog 26 [.offers l, .strs xs, .ints c] (· = .sl 1 (strRows (arrL l xs c))) := by
  have hoR := strRows_len xs
  have hlR : (l.map Offer.row).length = l.length := List.length_map _
  obtain ⟨ho, hx60, hodd⟩ := cnt1E_ok h10
  obtain ⟨hnl, hl30, hnb⟩ := cnts_bd ho h30
  have hsb := sumL_pos hnb
  have kC := clone_int (intRows c) (intRows_k c) (by rw [intRows_len]; omega)
  obtain ⟨lkT, outT, lostT, hT⟩ : ∃ a b d, arr1 l xs c = ⟨a, b, d⟩ := ⟨_, _, _, rfl⟩
  have hT1 : itF (arS l xs) 0 (xs.length - 0) ⟨c, List.replicate xs.length eS, []⟩ = ⟨lkT, outT, lostT⟩ := by
    rw [← hT, Nat.sub_zero]
    all_goals with_unfolding_all rfl
  obtain ⟨S, hS⟩ : ∃ S, S = arrL l xs c := ⟨_, rfl⟩
  rw [← hS]
  have hS1 : S = (itF (arO l lkT) 0 (lkT.length - 0) (outT, lostT ++ empL xs xs.length)).1 := by
    rw [hS]
    unfold arrL arrFr
    rw [hT, Nat.sub_zero]
    all_goals with_unfolding_all rfl
  have hI0 := ArI.zero l xs hnb
  have hcR := intRows_len c
  refine PFn.mk (Spec.body Tryd.func26 rfl rfl (Tryd.ntmps26) rfl fun w0 own0 M => ?_)
  repeat' (first | refine goH ?_ | refine goV ?_ | refine goC (fun ad cap => ?_) | refine goI ?_ | (refine Cw.k_cond ?_; first | (refine Cw.cond_dec rfl (fun hc => ?_) (fun hc => ?_) <;> try (exfalso; omega)) | refine Cw.cond_bool rfl (fun hc => ?_) (fun hc => ?_)) | (refine Ops.k_calla ?_; first | (refine Ops.k_callf 48 ?_; (refine Ops.callO kC (Evs.cons rfl Evs.nil) rfl (fun adK capK rows hr => ?_); subst hr))) | refine goR ?_ | refine goP ?_ | apply PSeq.cons | apply PSeq.yes rfl rfl rfl | exact goW | fail)
  rw [hoR, Int.toNat_natCast]
  erw [strRows_rep]
  rw [hcR, hnl]
  generalize ad = adO
  generalize cap = capO
  refine Cw.loopI [(0, _), (7, _), (8, _), (22, _), (23, _)] _ (fun z e cc => ∃ (k : Nat) (lk : List Int) (out : List ByteArray) (lost : List Int) (adF : Option Addr) (capF : Nat) (rf : List (List Tr)) (ep : List Int) (adE : Option Addr) (capE : Nat) (re : List (List Tr)), z = xs.length - k ∧ (k ≤ xs.length ∧ rf = intRows lost ∧ re = intRows ep ∧ ep = empL xs k ∧ itF (arS l xs) k (xs.length - k) ⟨lk, out, lost⟩ = ⟨lkT, outT, lostT⟩ ∧ ArI l xs c k ⟨lk, out, lost⟩) ∧ e = [(9, Tr.raw (.slice adF lost.length capF)), (10, Tr.raw (.slice adE ep.length capE)), (24, .int k)] ∧ cc = [Chunk.own adK capK 1 3 (intRows lk), Chunk.own adO capO 1 9 (strRows out), Chunk.own adF capF 1 3 rf, Chunk.own adE capE 1 3 re])
    ⟨_, _, _, Ent.trans (Ent.nil 1 3) (Ent.trans (Ent.nil 1 3) (Ent.mkP goSub goPm)), 0, c, _, [], none, 0, [], [], none, 0, [], rfl, ⟨by omega, intRowsN, intRowsN, (empL_zero xs).symm, hT1, hI0⟩, rfl, rfl⟩ ?_
  clear hT1 hI0 hS kC hT
  rintro _ _ _ ⟨k, lk, out, lost, adF, capF, _, ep, adE, capE, _, rfl, ⟨hk, rfl, rfl, hep, hV, hI⟩, rfl, rfl⟩
  have hlkR := (intRows_len lk).trans (hI.lkl.trans hnl)
  have houR := (strRows_len out).trans hI.outl
  have hloR := intRows_len lost
  have hloL := hI.lostl
  have hepR := intRows_len ep
  have hepl : ep.length ≤ k := by rw [hep]; exact (empL_rg xs k hk).1
  simp only at hlkR houR hloR hloL
  by_cases hkl : k < xs.length
  · obtain ⟨x, hx1⟩ := at_lt hkl
    have hrow : (strRows xs)[k]? = some [.str x] := strRows_at hx1
    have hox := any_odd hodd x (List.mem_of_getElem? hx1)
    have hI2 := hI.step hkl
    rw [itF_step hkl] at hV
    have hes := empL_at hx1
    rw [← hep] at hes
    by_cases he : x = eS
    · rw [arS_emp hx1 he] at hV hI2
      rw [if_pos he] at hes
      have k3 := offerOf_fn l (by omega) x
      have e1 := intRowsS ep (k : Int)
      repeat' (first | refine goH ?_ | (refine Ops.k_b_eql ?_; first | (refine Ops.val' rfl (OpV.eqlS_t rfl rfl he) ?_)) | refine goV ?_ | refine goC (fun ad cap => ?_) | refine goI ?_ | (refine Cw.k_cond ?_; first | (refine Cw.cond_dec rfl (fun hc => ?_) (fun hc => ?_) <;> try (exfalso; omega)) | refine Cw.cond_bool rfl (fun hc => ?_) (fun hc => ?_)) | (refine Ops.k_calla ?_; first | (refine Ops.k_callf 58 ?_; refine Ops.callV k3 (Evs.cons rfl (Evs.cons rfl Evs.nil)) rfl ?_)) | (apply OpW.k_call; first | (apply OpW.k_callf 58; exact OpW.callV k3 (Evs.cons rfl (Evs.cons rfl Evs.nil)))) | refine goR ?_ | refine goP ?_ | apply PSeq.cons | apply PSeq.yes rfl rfl rfl | exact goW | fail)
      rw [e1, intRows_len]
      exact ⟨_, _, _, (Ent.mk goSub goTk), ⟨k + 1, lk, out, lost, _, _, _, _, _, _, _, rfl, ⟨by omega, rfl, rfl, hes.symm, hV, hI2⟩, rfl, rfl⟩, by omega⟩
    · obtain ⟨j, o, hj, hoj, hjl⟩ := oddB_ok hox he
      have k3 := offerOf_fn l (by omega) x
      rw [hj] at k3
      obtain ⟨v, hv⟩ := at_lt (l := lk) (k := j) (by have := hI.lkl; simp only at this; omega)
      have hvb := hI.lkb v (List.mem_of_getElem? hv)
      have hrv : (intRows lk)[j]? = some [.int v] := intRows_at hv
      rw [arS_put hx1 he hj hv] at hV hI2
      rw [if_neg he] at hes
      obtain ⟨y0, hy0⟩ := at_lt (l := out) (k := k) (by have := hI.outl; simp only at this; omega)
      have rN := strRows_at hy0
      clear hy0 hI hv hx1
      by_cases hv0 : 0 < v
      · rw [if_pos hv0] at hV hI2
        have e1 := int_setR lk j (v - 1)
        have e2 := strRows_setR out k x
        repeat' (first | refine goH ?_ | (refine Ops.k_b_eql ?_; first | (refine Ops.val' rfl (OpV.eqlS_f rfl rfl he) ?_)) | refine goV ?_ | refine goC (fun ad cap => ?_) | refine goI ?_ | (refine Cw.k_cond ?_; first | (refine Cw.cond_dec rfl (fun hc => ?_) (fun hc => ?_) <;> try (exfalso; omega)) | refine Cw.cond_bool rfl (fun hc => ?_) (fun hc => ?_)) | (refine Ops.k_calla ?_; first | (refine Ops.k_callf 58 ?_; refine Ops.callV k3 (Evs.cons rfl (Evs.cons rfl Evs.nil)) rfl ?_)) | (apply OpW.k_call; first | (apply OpW.k_callf 58; exact OpW.callV k3 (Evs.cons rfl (Evs.cons rfl Evs.nil)))) | refine goR ?_ | refine goP ?_ | apply PSeq.cons | apply PSeq.yes rfl rfl rfl | exact goW | fail)
        erw [e1, e2]
        exact ⟨_, _, _, (Ent.mk goSub goTk), ⟨k + 1, _, _, lost, _, _, _, ep, _, _, _, rfl, ⟨by omega, rfl, rfl, hes.symm, hV, hI2⟩, rfl, rfl⟩, by omega⟩
      · rw [if_neg hv0] at hV hI2
        have e1 := intRowsS lost (k : Int)
        repeat' (first | refine goH ?_ | (refine Ops.k_b_eql ?_; first | (refine Ops.val' rfl (OpV.eqlS_f rfl rfl he) ?_)) | refine goV ?_ | refine goC (fun ad cap => ?_) | refine goI ?_ | (refine Cw.k_cond ?_; first | (refine Cw.cond_dec rfl (fun hc => ?_) (fun hc => ?_) <;> try (exfalso; omega)) | refine Cw.cond_bool rfl (fun hc => ?_) (fun hc => ?_)) | (refine Ops.k_calla ?_; first | (refine Ops.k_callf 58 ?_; refine Ops.callV k3 (Evs.cons rfl (Evs.cons rfl Evs.nil)) rfl ?_)) | (apply OpW.k_call; first | (apply OpW.k_callf 58; exact OpW.callV k3 (Evs.cons rfl (Evs.cons rfl Evs.nil)))) | refine goR ?_ | refine goP ?_ | apply PSeq.cons | apply PSeq.yes rfl rfl rfl | exact goW | fail)
        rw [e1, intRows_len]
        exact ⟨_, _, _, (Ent.mk goSub goTk), ⟨k + 1, lk, out, _, _, _, _, ep, _, _, _, rfl, ⟨by omega, rfl, rfl, hes.symm, hV, hI2⟩, rfl, rfl⟩, by omega⟩
  rw [itF_end hkl] at hV
  obtain ⟨rfl, rfl, rfl⟩ : lk = lkT ∧ out = outT ∧ lost = lostT := by cases hV; exact ⟨rfl, rfl, rfl⟩
  have hk2 : k = xs.length := by omega
  subst hk2
  rw [← hep] at hS1
  obtain ⟨hem, hemb⟩ := empL_rg xs xs.length (Nat.le_refl _)
  rw [← hep] at hem hemb
  have hsum := hI.sum
  rw [← hep] at hsum
  have hlkl := hI.lkl
  have hlkb := hI.lkb
  have houl := hI.outl
  have hlob := hI.lostb
  simp only at hsum hlkl hlkb houl hlob
  obtain ⟨FR, hFR⟩ : ∃ FR, FR = lost ++ ep := ⟨_, rfl⟩
  have hFRl : FR.length = lost.length + ep.length := by rw [hFR, List.length_append]
  have hFRb : ∀ y ∈ FR, 0 ≤ y ∧ y < (xs.length : Int) := by
    rw [hFR]
    intro y hy
    rcases List.mem_append.1 hy with h | h
    · exact hlob y h
    · exact hemb y h
  rw [← hFR] at hS1
  have hlop : lost.length ≤ 60 := by omega
  have hepp : ep.length ≤ 60 := by omega
  clear hI hV hlob hemb hkl
  repeat' (first | refine goH ?_ | refine goV ?_ | refine goC (fun ad cap => ?_) | refine goI ?_ | (refine Cw.k_cond ?_; first | (refine Cw.cond_dec rfl (fun hc => ?_) (fun hc => ?_) <;> try (exfalso; omega)) | refine Cw.cond_bool rfl (fun hc => ?_) (fun hc => ?_)) | refine goP ?_ | apply PSeq.cons | apply PSeq.yes rfl rfl rfl | exact goW | fail)
  refine Ops.ent (Ent.settle (s := 61) rfl goPk hepR.symm) ?_
  repeat' (first | refine goH ?_ | refine goV ?_ | refine goC (fun ad cap => ?_) | refine goI ?_ | (refine Cw.k_cond ?_; first | (refine Cw.cond_dec rfl (fun hc => ?_) (fun hc => ?_) <;> try (exfalso; omega)) | refine Cw.cond_bool rfl (fun hc => ?_) (fun hc => ?_)) | refine goP ?_ | apply PSeq.cons | apply PSeq.yes rfl rfl rfl | exact goW | fail)
  rw [intRowsA, ← hFR, intRows_len]
  refine Cw.ent (Ent.settle (s := 14) rfl goPk (intRows_len FR).symm) ?_
  have hs0 : sumL (lk.drop 0) ≤ FR.length := by
    rw [List.drop_zero]
    omega
  refine Cw.loopI [(0, _), (7, _), (63, _), (64, _)] _ (fun z e cc => ∃ (k : Nat) (out : List ByteArray) (fr : List Int) (rf : List (List Tr)), z = l.length - k ∧ (k ≤ l.length ∧ rf = intRows fr ∧ out.length = xs.length ∧ (∀ y ∈ fr, 0 ≤ y ∧ y < (xs.length : Int)) ∧ sumL (lk.drop k) ≤ fr.length ∧ S = (itF (arO l lk) k (lk.length - k) (out, fr)).1) ∧ e = [(14, .sl 1 rf), (65, .int k)] ∧ cc = [Chunk.own adO capO 1 9 (strRows out)])
    ⟨_, _, _, (Ent.mkP goSub goPm), 0, out, FR, _, rfl, ⟨by omega, rfl, houl, hFRb, hs0, hS1⟩, rfl, rfl⟩ ?_
  clear hS1 hs0 houR houl hFRb hFRl hsum hk hem
  rintro _ _ _ ⟨k, out, fr, _, rfl, ⟨hk, rfl, houl, hfb, hsu, hV⟩, rfl, rfl⟩
  have houR := (strRows_len out).trans houl
  by_cases hkl : k < l.length
  rotate_left
  · rw [itF_end (by omega)] at hV
    simp only at hV
    subst hV
    repeat' (first | refine goH ?_ | refine goV ?_ | refine goC (fun ad cap => ?_) | refine goI ?_ | (refine Cw.k_cond ?_; first | (refine Cw.cond_dec rfl (fun hc => ?_) (fun hc => ?_) <;> try (exfalso; omega)) | refine Cw.cond_bool rfl (fun hc => ?_) (fun hc => ?_)) | refine goR ?_ | refine goP ?_ | apply PSeq.cons | apply PSeq.yes rfl rfl rfl | exact goW | fail)
    rw [← houR]
    refine Fin.ret (Ent.trans (Ent.settle (s := 6) rfl goPk rfl) (Ent.take goTk)) (Outs.sole rfl goOe) ⟨rfl, rfl⟩
  obtain ⟨v, hv⟩ := at_lt (l := lk) (k := k) (by omega)
  obtain ⟨o, hoo⟩ := at_lt (l := l) (k := k) hkl
  have hvb := hlkb v (List.mem_of_getElem? hv)
  have r1 := intRows_at hv
  have r2 : (l.map Offer.row)[k]? = some [.str o.key, .str o.group, .ints o.pr, .strs o.has, .strs o.hates] := rows_at hoo
  obtain ⟨n, rfl⟩ : ∃ n : Nat, v = n := ⟨v.toNat, by omega⟩
  have hoE : arO l lk k (out, fr) = itF (arT o.key) 0 (n - 0) (out, fr) := by
    have : arO l lk k (out, fr) = (match lk[k]?, l[k]? with
      | some v, some o => itF (arT o.key) 0 v.toNat (out, fr)
      | _, _ => (out, fr)) := by with_unfolding_all rfl
    rw [this, hv, hoo]
    rfl
  rw [itF_step (by omega), hoE] at hV
  rw [sumL_drop hv] at hsu
  obtain ⟨T, hT⟩ : ∃ T, T = itF (arT o.key) 0 (n - 0) (out, fr) := ⟨_, rfl⟩
  rw [← hT] at hV
  have hsp : 0 ≤ sumL (lk.drop (k + 1)) := (sumL_pos (b := 10) fun y hy => hlkb y (List.mem_of_mem_drop hy)).1
  obtain ⟨Z, hZ⟩ : ∃ Z, Z = sumL (lk.drop (k + 1)) := ⟨_, rfl⟩
  rw [← hZ] at hsu hsp
  clear hoE hv hoo
  repeat' (first | refine goH ?_ | refine goV ?_ | refine goC (fun ad cap => ?_) | refine goI ?_ | (refine Cw.k_cond ?_; first | (refine Cw.cond_dec rfl (fun hc => ?_) (fun hc => ?_) <;> try (exfalso; omega)) | refine Cw.cond_bool rfl (fun hc => ?_) (fun hc => ?_)) | refine goR ?_ | refine goP ?_ | apply PSeq.cons | apply PSeq.yes rfl rfl rfl | exact goW | fail)
  refine Cw.loopI [(0, _), (7, _), (15, _), (63, _), (64, _), (65, _), (70, _)] _ (fun z e cc => ∃ (t : Nat) (out2 : List ByteArray) (fr2 : List Int) (rf : List (List Tr)), z = n - t ∧ (t ≤ n ∧ rf = intRows fr2 ∧ out2.length = xs.length ∧ (∀ y ∈ fr2, 0 ≤ y ∧ y < (xs.length : Int)) ∧ (n : Int) - t + Z ≤ fr2.length ∧ T = itF (arT o.key) t (n - t) (out2, fr2)) ∧ e = [(14, .sl 1 rf), (71, .int t)] ∧ cc = [Chunk.own adO capO 1 9 (strRows out2)])
    ⟨_, _, _, (Ent.mkP goSub goPm), 0, out, fr, _, rfl, ⟨by omega, rfl, houl, hfb, by omega, hT⟩, rfl, rfl⟩ ?_
  clear hT hsu hfb houl houR r1
  rintro _ _ _ ⟨t, out2, fr2, _, rfl, ⟨ht, rfl, houl, hfb, hsu, hW⟩, rfl, rfl⟩
  have houR := (strRows_len out2).trans houl
  by_cases htn : t < n
  rotate_left
  · rw [itF_end htn] at hW
    subst hW
    repeat' (first | refine goH ?_ | refine goV ?_ | refine goC (fun ad cap => ?_) | refine goI ?_ | (refine Cw.k_cond ?_; first | (refine Cw.cond_dec rfl (fun hc => ?_) (fun hc => ?_) <;> try (exfalso; omega)) | refine Cw.cond_bool rfl (fun hc => ?_) (fun hc => ?_)) | refine goR ?_ | refine goP ?_ | apply PSeq.cons | apply PSeq.yes rfl rfl rfl | exact goW | fail)
    exact ⟨_, _, _, (Ent.mk goSub goTk), ⟨k + 1, out2, fr2, _, rfl, ⟨by omega, rfl, houl, hfb, by rw [← hZ]; omega, hV⟩, rfl, rfl⟩, by omega⟩
  cases fr2 with
  | nil => simp at hsu; omega
  | cons f fr3 =>
    rw [itF_step htn, arT_cons] at hW
    have hfR := intRows_len (f :: fr3)
    rw [List.length_cons] at hsu hfR
    have hf := hfb f (by simp)
    have rF : (intRows (f :: fr3))[0]? = some [Tr.int f] := intRows_at rfl
    obtain ⟨y0, hy0⟩ := at_lt (l := out2) (k := f.toNat) (by omega)
    have rN := strRows_at hy0
    have e2 := strRows_setR out2 f.toNat o.key
    have e3 := intRowsD f fr3
    clear hy0
    repeat' (first | refine goH ?_ | refine goV ?_ | refine goC (fun ad cap => ?_) | refine goI ?_ | (refine Cw.k_cond ?_; first | (refine Cw.cond_dec rfl (fun hc => ?_) (fun hc => ?_) <;> try (exfalso; omega)) | refine Cw.cond_bool rfl (fun hc => ?_) (fun hc => ?_)) | refine goR ?_ | refine goP ?_ | apply PSeq.cons | apply PSeq.yes rfl rfl rfl | exact goW | fail)
    erw [e2, e3]
    exact ⟨_, _, _, (Ent.mk goSub goTk), ⟨t + 1, _, fr3, _, rfl, ⟨by omega, rfl, by rw [List.length_set]; exact houl, fun y hy => hfb y (List.mem_cons_of_mem _ hy), by omega, hW⟩, rfl, rfl⟩, by omega⟩
end Lg
