/- A part of the proof of a law of this seat: it adds no condition. By an AI agent. -/
import Derived.Test.YtlaemkjeagpbnaaDoorAr9
set_option linter.all false
set_option maxRecDepth 100000
set_option maxHeartbeats 8000000
namespace Lg
open Go Go.Proofs

theorem intRowsN : ([] : List (List Tr)) = intRows [] := rfl
theorem intRowsS (l : List Int) (x : Int) : intRows l ++ [[Tr.int x]] = intRows (l ++ [x]) := by
  rw [intRows_app]
  rfl
theorem intRowsD (x : Int) (l : List Int) : (intRows (x :: l)).drop 1 = intRows l := rfl
def arrE (l : List Offer) (xs : List ByteArray) (c : List Int) : Int := if cnt1E l xs ≠ 0 then cnt1E l xs else if cntsE l c ≠ 0 then cntsE l c else if (xs.length : Int) < sumL c then 12 else 0
theorem cnt1E_ok {l : List Offer} {xs : List ByteArray} (h : cnt1E l xs = 0) : offersE l = 0 ∧ xs.length ≤ 60 ∧ xs.any (oddB l) = false := by
  unfold cnt1E at h
  by_cases h1 : offersE l ≠ 0
  · rw [if_pos h1] at h; exact absurd h h1
  rw [if_neg h1] at h
  unfold listE at h
  by_cases h2 : xs.length > 60
  · rw [if_pos h2] at h; exact absurd h (by decide)
  rw [if_neg h2] at h
  by_cases h3 : xs.any (oddB l) = true
  · rw [if_pos h3] at h; exact absurd h (by decide)
  exact ⟨by omega, by omega, by simpa using h3⟩
attribute [local irreducible] intRows strRows sumL arS emS arO arT empL arr1
theorem arrange_fn (l : List Offer) (hl : OBd l) (xs : List ByteArray) (hx : xs.length ≤ 1000) (c : List Int) (hc : c.length ≤ 1000) : PFn Tryd.prog 22 [.offers l, .strs xs, .ints c] (· = .tup [.sl 1 (if arrE l xs c ≠ 0 then [] else strRows (arrL l xs c)), .int (arrE l xs c)]) := by
  have k1 := counts_fn l hl xs hx
  have k2 := countsFault_fn l hl c hc
  have hoR := strRows_len xs
  have hlR : (l.map Offer.row).length = l.length := List.length_map _
  unfold arrE
  by_cases h1 : cnt1E l xs ≠ 0
  · rw [if_pos h1, if_pos h1]
    rw [if_pos h1] at k1
    generalize cnt1E l xs = E at *
    refine PFn.mk (Spec.body Tryd.func22 rfl rfl (Tryd.ntmps22) rfl fun w0 own0 M => ?_)
    repeat' (first | refine goH ?_ | refine goV ?_ | refine goC (fun ad cap => ?_) | refine goI ?_ | (refine Cw.k_cond ?_; first | (refine Cw.cond_dec rfl (fun hc => ?_) (fun hc => ?_) <;> try (exfalso; omega)) | refine Cw.cond_bool rfl (fun hc => ?_) (fun hc => ?_)) | (refine Ops.k_calla ?_; first | (refine Ops.k_callf 45 ?_; refine Ops.callV k1 (Evs.cons rfl (Evs.cons rfl Evs.nil)) rfl ?_)) | (apply OpW.k_call; first | (apply OpW.k_callf 45; exact OpW.callV k1 (Evs.cons rfl (Evs.cons rfl Evs.nil)))) | refine goR ?_ | refine goP ?_ | apply PSeq.cons | apply PSeq.yes rfl rfl rfl | exact goW | fail)
    refine Fin.ret (Ent.trans (Ent.nilsl 1 (s := 6) rfl) (Ent.take goTk)) (Outs.many rfl (OutL.cons goOe (OutL.cons goOe OutL.nil)) rfl) ⟨rfl, rfl⟩
  rw [if_neg h1]
  rw [if_neg h1] at k1
  have h10 : cnt1E l xs = 0 := by omega
  rw [h10] at k1
  obtain ⟨ho, hx60, hodd⟩ := cnt1E_ok h10
  by_cases h3 : cntsE l c ≠ 0
  · rw [if_pos h3, if_pos h3]
    generalize cntsE l c = E at *
    refine PFn.mk (Spec.body Tryd.func22 rfl rfl (Tryd.ntmps22) rfl fun w0 own0 M => ?_)
    repeat' (first | refine goH ?_ | refine goV ?_ | refine goC (fun ad cap => ?_) | refine goI ?_ | (refine Cw.k_cond ?_; first | (refine Cw.cond_dec rfl (fun hc => ?_) (fun hc => ?_) <;> try (exfalso; omega)) | refine Cw.cond_bool rfl (fun hc => ?_) (fun hc => ?_)) | (refine Ops.k_calla ?_; first | (refine Ops.k_callf 45 ?_; refine Ops.callV k1 (Evs.cons rfl (Evs.cons rfl Evs.nil)) rfl ?_) | (refine Ops.k_callf 46 ?_; refine Ops.callV k2 (Evs.cons rfl (Evs.cons rfl Evs.nil)) rfl ?_)) | (apply OpW.k_call; first | (apply OpW.k_callf 45; exact OpW.callV k1 (Evs.cons rfl (Evs.cons rfl Evs.nil))) | (apply OpW.k_callf 46; exact OpW.callV k2 (Evs.cons rfl (Evs.cons rfl Evs.nil)))) | refine goR ?_ | refine goP ?_ | apply PSeq.cons | apply PSeq.yes rfl rfl rfl | exact goW | fail)
    refine Fin.ret (Ent.trans (Ent.nilsl 1 (s := 6) rfl) (Ent.take goTk)) (Outs.many rfl (OutL.cons goOe (OutL.cons goOe OutL.nil)) rfl) ⟨rfl, rfl⟩
  rw [if_neg h3]
  have h30 : cntsE l c = 0 := by omega
  rw [h30] at k2
  obtain ⟨hnl, hl30, hnb⟩ := cnts_bd ho h30
  have hsb := sumL_pos hnb
  have k3 := total_fn c hc (fun v hv => by have := hnb v hv; omega)
  by_cases h4 : (xs.length : Int) < sumL c
  · rw [if_pos h4, if_pos (by decide)]
    generalize sumL c = s at *
    refine PFn.mk (Spec.body Tryd.func22 rfl rfl (Tryd.ntmps22) rfl fun w0 own0 M => ?_)
    repeat' (first | refine goH ?_ | refine goV ?_ | refine goC (fun ad cap => ?_) | refine goI ?_ | (refine Cw.k_cond ?_; first | (refine Cw.cond_dec rfl (fun hc => ?_) (fun hc => ?_) <;> try (exfalso; omega)) | refine Cw.cond_bool rfl (fun hc => ?_) (fun hc => ?_)) | (refine Ops.k_calla ?_; first | (refine Ops.k_callf 45 ?_; refine Ops.callV k1 (Evs.cons rfl (Evs.cons rfl Evs.nil)) rfl ?_) | (refine Ops.k_callf 46 ?_; refine Ops.callV k2 (Evs.cons rfl (Evs.cons rfl Evs.nil)) rfl ?_) | (refine Ops.k_callf 47 ?_; refine Ops.callV k3 (Evs.cons rfl Evs.nil) rfl ?_)) | (apply OpW.k_call; first | (apply OpW.k_callf 45; exact OpW.callV k1 (Evs.cons rfl (Evs.cons rfl Evs.nil))) | (apply OpW.k_callf 46; exact OpW.callV k2 (Evs.cons rfl (Evs.cons rfl Evs.nil))) | (apply OpW.k_callf 47; exact OpW.callV k3 (Evs.cons rfl Evs.nil))) | refine goR ?_ | refine goP ?_ | apply PSeq.cons | apply PSeq.yes rfl rfl rfl | exact goW | fail)
    refine Fin.ret (Ent.trans (Ent.nilsl 1 (s := 6) rfl) (Ent.take goTk)) (Outs.many rfl (OutL.cons goOe (OutL.cons goOe OutL.nil)) rfl) ⟨rfl, rfl⟩
  rw [if_neg h4, if_neg (by decide)]
  have kC := clone_int (intRows c) (intRows_k c) (by rw [intRows_len]; omega)
  obtain ⟨lkT, outT, lostT, hT⟩ : ∃ a b d, arr1 l xs c = ⟨a, b, d⟩ := ⟨_, _, _, rfl⟩
  have hT1 : itF (arS l xs) 0 (xs.length - 0) ⟨c, List.replicate xs.length eS, []⟩ = ⟨lkT, outT, lostT⟩ := by
    rw [← hT, Nat.sub_zero]
    all_goals with_unfolding_all rfl
  obtain ⟨S, hS⟩ : ∃ S, S = arrL l xs c := ⟨_, rfl⟩
  rw [← hS]
  have hS1 : S = (itF (arO l lkT) 0 (lkT.length - 0) (outT, lostT ++ empL xs xs.length)).1 := by
    rw [hS]
    unfold arrL arrFr
    rw [hT, Nat.sub_zero]
    all_goals with_unfolding_all rfl
  have hI0 := ArI.zero l xs hnb
  have hcR := intRows_len c
  refine PFn.mk (Spec.body Tryd.func22 rfl rfl (Tryd.ntmps22) rfl fun w0 own0 M => ?_)
  repeat' (first | refine goH ?_ | refine goV ?_ | refine goC (fun ad cap => ?_) | refine goI ?_ | (refine Cw.k_cond ?_; first | (refine Cw.cond_dec rfl (fun hc => ?_) (fun hc => ?_) <;> try (exfalso; omega)) | refine Cw.cond_bool rfl (fun hc => ?_) (fun hc => ?_)) | (refine Ops.k_calla ?_; first | (refine Ops.k_callf 45 ?_; refine Ops.callV k1 (Evs.cons rfl (Evs.cons rfl Evs.nil)) rfl ?_) | (refine Ops.k_callf 46 ?_; refine Ops.callV k2 (Evs.cons rfl (Evs.cons rfl Evs.nil)) rfl ?_) | (refine Ops.k_callf 47 ?_; refine Ops.callV k3 (Evs.cons rfl Evs.nil) rfl ?_) | (refine Ops.k_callf 48 ?_; (refine Ops.callO kC (Evs.cons rfl Evs.nil) rfl (fun adK capK rows hr => ?_); subst hr))) | (apply OpW.k_call; first | (apply OpW.k_callf 45; exact OpW.callV k1 (Evs.cons rfl (Evs.cons rfl Evs.nil))) | (apply OpW.k_callf 46; exact OpW.callV k2 (Evs.cons rfl (Evs.cons rfl Evs.nil))) | (apply OpW.k_callf 47; exact OpW.callV k3 (Evs.cons rfl Evs.nil))) | refine goR ?_ | refine goP ?_ | apply PSeq.cons | apply PSeq.yes rfl rfl rfl | exact goW | fail)
  rw [hoR, Int.toNat_natCast]
  erw [strRows_rep]
  rw [hcR, hnl]
  refine Cw.loopI [(0, _), (1, _), (11, _), (12, _), (46, _), (47, _)] _ (fun z e cc => ∃ (k : Nat) (lk : List Int) (out : List ByteArray) (lost : List Int) (adF : Option Addr) (capF : Nat) (rf : List (List Tr)), z = xs.length - k ∧ (k ≤ xs.length ∧ rf = intRows lost ∧ itF (arS l xs) k (xs.length - k) ⟨lk, out, lost⟩ = ⟨lkT, outT, lostT⟩ ∧ ArI l xs c k ⟨lk, out, lost⟩) ∧ e = [(13, Tr.raw (.slice adF lost.length capF)), (48, .int k)] ∧ cc = [Chunk.own adK capK 1 3 (intRows lk), Chunk.own ad cap 1 9 (strRows out), Chunk.own adF capF 1 3 rf])
    ⟨_, _, _, Ent.trans (Ent.nil 1 3) (Ent.mkP goSub goPm), 0, c, _, [], none, 0, [], rfl, ⟨by omega, intRowsN, hT1, hI0⟩, rfl, rfl⟩ ?_
  clear hT1 hI0 hS k1 k2 k3 kC hT
  rintro _ _ _ ⟨k, lk, out, lost, adF, capF, _, rfl, ⟨hk, rfl, hV, hI⟩, rfl, rfl⟩
  have hlkR := (intRows_len lk).trans (hI.lkl.trans hnl)
  have houR := (strRows_len out).trans hI.outl
  have hloR := intRows_len lost
  have hloL := hI.lostl
  simp only at hlkR houR hloR hloL
  by_cases hkl : k < xs.length
  · obtain ⟨x, hx1⟩ := at_lt hkl
    have hrow : (strRows xs)[k]? = some [.str x] := strRows_at hx1
    have hox := any_odd hodd x (List.mem_of_getElem? hx1)
    have hI2 := hI.step hkl
    rw [itF_step hkl] at hV
    by_cases he : x = eS
    · rw [arS_emp hx1 he] at hV hI2
      repeat' (first | refine goH ?_ | (refine Ops.k_b_eql ?_; first | (refine Ops.val' rfl (OpV.eqlS_t rfl rfl he) ?_)) | refine goV ?_ | refine goC (fun ad cap => ?_) | refine goI ?_ | (refine Cw.k_cond ?_; first | (refine Cw.cond_dec rfl (fun hc => ?_) (fun hc => ?_) <;> try (exfalso; omega)) | refine Cw.cond_bool rfl (fun hc => ?_) (fun hc => ?_)) | refine goR ?_ | refine goP ?_ | apply PSeq.cons | apply PSeq.yes rfl rfl rfl | exact goW | fail)
      exact ⟨_, _, _, (Ent.mk goSub goTk), ⟨k + 1, lk, out, lost, _, _, _, rfl, ⟨by omega, rfl, hV, hI2⟩, rfl, rfl⟩, by omega⟩
    · obtain ⟨j, o, hj, hoj, hjl⟩ := oddB_ok hox he
      have k3 := offer_fn l (by omega) x
      rw [hj] at k3
      obtain ⟨v, hv⟩ := at_lt (l := lk) (k := j) (by have := hI.lkl; simp only at this; omega)
      have hvb := hI.lkb v (List.mem_of_getElem? hv)
      have hrv : (intRows lk)[j]? = some [.int v] := intRows_at hv
      rw [arS_put hx1 he hj hv] at hV hI2
      obtain ⟨y0, hy0⟩ := at_lt (l := out) (k := k) (by have := hI.outl; simp only at this; omega)
      have rN := strRows_at hy0
      clear hy0 hI hv hx1
      by_cases hv0 : 0 < v
      · rw [if_pos hv0] at hV hI2
        have e1 := int_setR lk j (v - 1)
        have e2 := strRows_setR out k x
        repeat' (first | refine goH ?_ | (refine Ops.k_b_eql ?_; first | (refine Ops.val' rfl (OpV.eqlS_f rfl rfl he) ?_)) | refine goV ?_ | refine goC (fun ad cap => ?_) | refine goI ?_ | (refine Cw.k_cond ?_; first | (refine Cw.cond_dec rfl (fun hc => ?_) (fun hc => ?_) <;> try (exfalso; omega)) | refine Cw.cond_bool rfl (fun hc => ?_) (fun hc => ?_)) | (refine Ops.k_calla ?_; first | (refine Ops.k_callf 49 ?_; refine Ops.callV k3 (Evs.cons rfl (Evs.cons rfl Evs.nil)) rfl ?_)) | (apply OpW.k_call; first | (apply OpW.k_callf 49; exact OpW.callV k3 (Evs.cons rfl (Evs.cons rfl Evs.nil)))) | refine goR ?_ | refine goP ?_ | apply PSeq.cons | apply PSeq.yes rfl rfl rfl | exact goW | fail)
        erw [e1, e2]
        exact ⟨_, _, _, (Ent.mk goSub goTk), ⟨k + 1, _, _, lost, _, _, _, rfl, ⟨by omega, rfl, hV, hI2⟩, rfl, rfl⟩, by omega⟩
      · rw [if_neg hv0] at hV hI2
        have e1 := intRowsS lost (k : Int)
        repeat' (first | refine goH ?_ | (refine Ops.k_b_eql ?_; first | (refine Ops.val' rfl (OpV.eqlS_f rfl rfl he) ?_)) | refine goV ?_ | refine goC (fun ad cap => ?_) | refine goI ?_ | (refine Cw.k_cond ?_; first | (refine Cw.cond_dec rfl (fun hc => ?_) (fun hc => ?_) <;> try (exfalso; omega)) | refine Cw.cond_bool rfl (fun hc => ?_) (fun hc => ?_)) | (refine Ops.k_calla ?_; first | (refine Ops.k_callf 49 ?_; refine Ops.callV k3 (Evs.cons rfl (Evs.cons rfl Evs.nil)) rfl ?_)) | (apply OpW.k_call; first | (apply OpW.k_callf 49; exact OpW.callV k3 (Evs.cons rfl (Evs.cons rfl Evs.nil)))) | refine goR ?_ | refine goP ?_ | apply PSeq.cons | apply PSeq.yes rfl rfl rfl | exact goW | fail)
        rw [e1, intRows_len]
        exact ⟨_, _, _, (Ent.mk goSub goTk), ⟨k + 1, lk, out, _, _, _, _, rfl, ⟨by omega, rfl, hV, hI2⟩, rfl, rfl⟩, by omega⟩
  rw [itF_end hkl] at hV
  obtain ⟨rfl, rfl, rfl⟩ : lk = lkT ∧ out = outT ∧ lost = lostT := by cases hV; exact ⟨rfl, rfl, rfl⟩
  have hk2 : k = xs.length := by omega
  subst hk2
  obtain ⟨hem, hemb⟩ := empL_rg xs xs.length (Nat.le_refl _)
  have hsum := hI.sum
  have hlkl := hI.lkl
  have hlkb := hI.lkb
  have houl := hI.outl
  have hlob := hI.lostb
  simp only at hsum hlkl hlkb houl hlob
  have hE0 : itF (emS xs) 0 (xs.length - 0) lost = lost ++ empL xs xs.length := by
    have := emS_app xs xs.length 0 lost []
    rw [List.append_nil] at this
    rw [Nat.sub_zero, this]
    all_goals with_unfolding_all rfl
  obtain ⟨FR, hFR⟩ : ∃ FR, FR = lost ++ empL xs xs.length := ⟨_, rfl⟩
  have hFRl : FR.length = lost.length + (empL xs xs.length).length := by rw [hFR, List.length_append]
  have hFRb : ∀ y ∈ FR, 0 ≤ y ∧ y < (xs.length : Int) := by
    rw [hFR]
    intro y hy
    rcases List.mem_append.1 hy with h | h
    · exact hlob y h
    · exact hemb y h
  rw [← hFR] at hE0 hS1
  clear hI hV hlob hemb hFR hkl
  repeat' (first | refine goH ?_ | refine goV ?_ | refine goC (fun ad cap => ?_) | refine goI ?_ | (refine Cw.k_cond ?_; first | (refine Cw.cond_dec rfl (fun hc => ?_) (fun hc => ?_) <;> try (exfalso; omega)) | refine Cw.cond_bool rfl (fun hc => ?_) (fun hc => ?_)) | refine goR ?_ | refine goP ?_ | apply PSeq.cons | apply PSeq.yes rfl rfl rfl | exact goW | fail)
  refine Cw.loopI [(0, _), (11, _), (12, _), (78, _), (79, _)] _ (fun z e cc => ∃ (k : Nat) (fr : List Int) (adF : Option Addr) (capF : Nat) (rf : List (List Tr)), z = xs.length - k ∧ (k ≤ xs.length ∧ rf = intRows fr ∧ fr.length ≤ 60 + k ∧ itF (emS xs) k (xs.length - k) fr = FR) ∧ e = [(13, Tr.raw (.slice adF fr.length capF)), (80, .int k)] ∧ cc = [Chunk.own adF capF 1 3 rf])
    ⟨_, _, _, (Ent.mkP goSub goPm), 0, lost, _, _, _, rfl, ⟨by omega, rfl, by omega, hE0⟩, rfl, rfl⟩ ?_
  clear hE0 hloR adF capF
  rintro _ _ _ ⟨k, fr, adF, capF, _, rfl, ⟨hk, rfl, hfl, hV⟩, rfl, rfl⟩
  have hfR := intRows_len fr
  by_cases hkl : k < xs.length
  · obtain ⟨x, hx1⟩ := at_lt hkl
    have hrow : (strRows xs)[k]? = some [.str x] := strRows_at hx1
    have hes : emS xs k fr = if x = eS then fr ++ [(k : Int)] else fr := by
      have : emS xs k fr = (match xs[k]? with
        | none => fr
        | some x => if x = eS then fr ++ [(k : Int)] else fr) := by with_unfolding_all rfl
      rw [this, hx1]
    rw [itF_step hkl, hes] at hV
    clear hes
    by_cases he : x = eS
    · rw [if_pos he] at hV
      have e1 := intRowsS fr (k : Int)
      repeat' (first | refine goH ?_ | (refine Ops.k_b_eql ?_; first | (refine Ops.val' rfl (OpV.eqlS_t rfl rfl he) ?_)) | refine goV ?_ | refine goC (fun ad cap => ?_) | refine goI ?_ | (refine Cw.k_cond ?_; first | (refine Cw.cond_dec rfl (fun hc => ?_) (fun hc => ?_) <;> try (exfalso; omega)) | refine Cw.cond_bool rfl (fun hc => ?_) (fun hc => ?_)) | refine goR ?_ | refine goP ?_ | apply PSeq.cons | apply PSeq.yes rfl rfl rfl | exact goW | fail)
      rw [e1, intRows_len]
      exact ⟨_, _, _, (Ent.mk goSub goTk), ⟨k + 1, _, _, _, _, rfl, ⟨by omega, rfl, by rw [List.length_append, List.length_singleton]; omega, hV⟩, rfl, rfl⟩, by omega⟩
    · rw [if_neg he] at hV
      repeat' (first | refine goH ?_ | (refine Ops.k_b_eql ?_; first | (refine Ops.val' rfl (OpV.eqlS_f rfl rfl he) ?_)) | refine goV ?_ | refine goC (fun ad cap => ?_) | refine goI ?_ | (refine Cw.k_cond ?_; first | (refine Cw.cond_dec rfl (fun hc => ?_) (fun hc => ?_) <;> try (exfalso; omega)) | refine Cw.cond_bool rfl (fun hc => ?_) (fun hc => ?_)) | refine goR ?_ | refine goP ?_ | apply PSeq.cons | apply PSeq.yes rfl rfl rfl | exact goW | fail)
      exact ⟨_, _, _, (Ent.mk goSub goTk), ⟨k + 1, fr, _, _, _, rfl, ⟨by omega, rfl, by omega, hV⟩, rfl, rfl⟩, by omega⟩
  rw [itF_end hkl] at hV
  subst hV
  repeat' (first | refine goH ?_ | refine goV ?_ | refine goC (fun ad cap => ?_) | refine goI ?_ | (refine Cw.k_cond ?_; first | (refine Cw.cond_dec rfl (fun hc => ?_) (fun hc => ?_) <;> try (exfalso; omega)) | refine Cw.cond_bool rfl (fun hc => ?_) (fun hc => ?_)) | refine goP ?_ | apply PSeq.cons | apply PSeq.yes rfl rfl rfl | exact goW | fail)
  refine Cw.ent (Ent.settle (s := 13) rfl goPk hfR.symm) ?_
  repeat' (first | refine goH ?_ | refine goV ?_ | refine goC (fun ad cap => ?_) | refine goI ?_ | (refine Cw.k_cond ?_; first | (refine Cw.cond_dec rfl (fun hc => ?_) (fun hc => ?_) <;> try (exfalso; omega)) | refine Cw.cond_bool rfl (fun hc => ?_) (fun hc => ?_)) | refine goR ?_ | refine goP ?_ | apply PSeq.cons | apply PSeq.yes rfl rfl rfl | exact goW | fail)
  have hs0 : sumL (lk.drop 0) ≤ fr.length := by
    rw [List.drop_zero]
    omega
  refine Cw.loopI [(0, _), (12, _), (92, _), (93, _)] _ (fun z e cc => ∃ (k : Nat) (out : List ByteArray) (fr : List Int) (rf : List (List Tr)), z = l.length - k ∧ (k ≤ l.length ∧ rf = intRows fr ∧ out.length = xs.length ∧ (∀ y ∈ fr, 0 ≤ y ∧ y < (xs.length : Int)) ∧ sumL (lk.drop k) ≤ fr.length ∧ S = (itF (arO l lk) k (lk.length - k) (out, fr)).1) ∧ e = [(13, .sl 1 rf), (94, .int k)] ∧ cc = [Chunk.own ad cap 1 9 (strRows out)])
    ⟨_, _, _, (Ent.mkP goSub goPm), 0, out, fr, _, rfl, ⟨by omega, rfl, houl, hFRb, hs0, hS1⟩, rfl, rfl⟩ ?_
  clear hS1 hs0 houR houl hFRb hFRl hfR hfl hsum hk hkl hem
  rintro _ _ _ ⟨k, out, fr, _, rfl, ⟨hk, rfl, houl, hfb, hsu, hV⟩, rfl, rfl⟩
  have houR := (strRows_len out).trans houl
  by_cases hkl : k < l.length
  rotate_left
  · rw [itF_end (by omega)] at hV
    simp only at hV
    subst hV
    repeat' (first | refine goH ?_ | refine goV ?_ | refine goC (fun ad cap => ?_) | refine goI ?_ | (refine Cw.k_cond ?_; first | (refine Cw.cond_dec rfl (fun hc => ?_) (fun hc => ?_) <;> try (exfalso; omega)) | refine Cw.cond_bool rfl (fun hc => ?_) (fun hc => ?_)) | refine goR ?_ | refine goP ?_ | apply PSeq.cons | apply PSeq.yes rfl rfl rfl | exact goW | fail)
    rw [← houR]
    refine Fin.ret (Ent.trans (Ent.settle (s := 6) rfl goPk rfl) (Ent.take goTk)) (Outs.many rfl (OutL.cons goOe (OutL.cons goOe OutL.nil)) rfl) ⟨rfl, rfl⟩
  obtain ⟨v, hv⟩ := at_lt (l := lk) (k := k) (by omega)
  obtain ⟨o, hoo⟩ := at_lt (l := l) (k := k) hkl
  have hvb := hlkb v (List.mem_of_getElem? hv)
  have r1 := intRows_at hv
  have r2 : (l.map Offer.row)[k]? = some [.str o.key, .str o.group, .ints o.pr, .strs o.has, .strs o.hates] := rows_at hoo
  obtain ⟨n, rfl⟩ : ∃ n : Nat, v = n := ⟨v.toNat, by omega⟩
  have hoE : arO l lk k (out, fr) = itF (arT o.key) 0 (n - 0) (out, fr) := by
    have : arO l lk k (out, fr) = (match lk[k]?, l[k]? with
      | some v, some o => itF (arT o.key) 0 v.toNat (out, fr)
      | _, _ => (out, fr)) := by with_unfolding_all rfl
    rw [this, hv, hoo]
    rfl
  rw [itF_step (by omega), hoE] at hV
  rw [sumL_drop hv] at hsu
  obtain ⟨T, hT⟩ : ∃ T, T = itF (arT o.key) 0 (n - 0) (out, fr) := ⟨_, rfl⟩
  rw [← hT] at hV
  have hsp : 0 ≤ sumL (lk.drop (k + 1)) := (sumL_pos (b := 10) fun y hy => hlkb y (List.mem_of_mem_drop hy)).1
  obtain ⟨Z, hZ⟩ : ∃ Z, Z = sumL (lk.drop (k + 1)) := ⟨_, rfl⟩
  rw [← hZ] at hsu hsp
  clear hoE hv hoo
  repeat' (first | refine goH ?_ | refine goV ?_ | refine goC (fun ad cap => ?_) | refine goI ?_ | (refine Cw.k_cond ?_; first | (refine Cw.cond_dec rfl (fun hc => ?_) (fun hc => ?_) <;> try (exfalso; omega)) | refine Cw.cond_bool rfl (fun hc => ?_) (fun hc => ?_)) | refine goR ?_ | refine goP ?_ | apply PSeq.cons | apply PSeq.yes rfl rfl rfl | exact goW | fail)
  refine Cw.loopI [(0, _), (12, _), (19, _), (92, _), (93, _), (94, _), (99, _)] _ (fun z e cc => ∃ (t : Nat) (out2 : List ByteArray) (fr2 : List Int) (rf : List (List Tr)), z = n - t ∧ (t ≤ n ∧ rf = intRows fr2 ∧ out2.length = xs.length ∧ (∀ y ∈ fr2, 0 ≤ y ∧ y < (xs.length : Int)) ∧ (n : Int) - t + Z ≤ fr2.length ∧ T = itF (arT o.key) t (n - t) (out2, fr2)) ∧ e = [(13, .sl 1 rf), (100, .int t)] ∧ cc = [Chunk.own ad cap 1 9 (strRows out2)])
    ⟨_, _, _, (Ent.mkP goSub goPm), 0, out, fr, _, rfl, ⟨by omega, rfl, houl, hfb, by omega, hT⟩, rfl, rfl⟩ ?_
  clear hT hsu hfb houl houR r1
  rintro _ _ _ ⟨t, out2, fr2, _, rfl, ⟨ht, rfl, houl, hfb, hsu, hW⟩, rfl, rfl⟩
  have houR := (strRows_len out2).trans houl
  by_cases htn : t < n
  rotate_left
  · rw [itF_end htn] at hW
    subst hW
    repeat' (first | refine goH ?_ | refine goV ?_ | refine goC (fun ad cap => ?_) | refine goI ?_ | (refine Cw.k_cond ?_; first | (refine Cw.cond_dec rfl (fun hc => ?_) (fun hc => ?_) <;> try (exfalso; omega)) | refine Cw.cond_bool rfl (fun hc => ?_) (fun hc => ?_)) | refine goR ?_ | refine goP ?_ | apply PSeq.cons | apply PSeq.yes rfl rfl rfl | exact goW | fail)
    exact ⟨_, _, _, (Ent.mk goSub goTk), ⟨k + 1, out2, fr2, _, rfl, ⟨by omega, rfl, houl, hfb, by rw [← hZ]; omega, hV⟩, rfl, rfl⟩, by omega⟩
  cases fr2 with
  | nil => simp at hsu; omega
  | cons f fr3 =>
    rw [itF_step htn, arT_cons] at hW
    have hfR := intRows_len (f :: fr3)
    rw [List.length_cons] at hsu hfR
    have hf := hfb f (by simp)
    have rF : (intRows (f :: fr3))[0]? = some [Tr.int f] := intRows_at rfl
    obtain ⟨y0, hy0⟩ := at_lt (l := out2) (k := f.toNat) (by omega)
    have rN := strRows_at hy0
    have e2 := strRows_setR out2 f.toNat o.key
    have e3 := intRowsD f fr3
    clear hy0
    repeat' (first | refine goH ?_ | refine goV ?_ | refine goC (fun ad cap => ?_) | refine goI ?_ | (refine Cw.k_cond ?_; first | (refine Cw.cond_dec rfl (fun hc => ?_) (fun hc => ?_) <;> try (exfalso; omega)) | refine Cw.cond_bool rfl (fun hc => ?_) (fun hc => ?_)) | refine goR ?_ | refine goP ?_ | apply PSeq.cons | apply PSeq.yes rfl rfl rfl | exact goW | fail)
    erw [e2, e3]
    exact ⟨_, _, _, (Ent.mk goSub goTk), ⟨t + 1, _, fr3, _, rfl, ⟨by omega, rfl, by rw [List.length_set]; exact houl, fun y hy => hfb y (List.mem_cons_of_mem _ hy), by omega, hW⟩, rfl, rfl⟩, by omega⟩
end Lg
