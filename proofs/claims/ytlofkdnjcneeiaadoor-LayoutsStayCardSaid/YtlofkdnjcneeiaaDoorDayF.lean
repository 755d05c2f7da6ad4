/- A part of the proof of a law of this seat: it adds no condition. By an AI agent. -/
import Derived.Test.YtlofkdnjcneeiaaDoorLgY
import Derived.Test.YtlofkdnjcneeiaaDoorOff2
section
set_option linter.all false
set_option maxRecDepth 100000
set_option maxHeartbeats 4000000
namespace Lg
open Go Go.Proofs

theorem offersE_len {l : List Offer} (h : offersE l = 0) : l.length ≤ 30 := by
  unfold offersE at h
  split at h
  · omega
  · omega
theorem offersE_at {l : List Offer} (h : offersE l = 0) {k : Nat} {x : Offer} (hx : l[k]? = some x) : isKey x.key = true ∧ isKey x.group = true ∧ prE x.pr = 0 := by
  unfold offersE at h
  split at h
  · omega
  · have hk := (List.getElem?_eq_some_iff.1 hx).1
    have h2 := firstE_zero h k (Nat.zero_le _) (by omega)
    unfold offerE at h2
    rw [hx] at h2
    simp only at h2
    split at h2
    · omega
    · rename_i g1
      split at h2
      · omega
      · split at h2
        · omega
        · rename_i g2
          split at h2
          · omega
          · exact ⟨by simpa using g1, by simpa using g2, by omega⟩
theorem prE_ok {l : List Int} (h : prE l = 0) : (1 ≤ l.length ∧ l.length ≤ 10) ∧ ∀ n ∈ l, -1000000 ≤ n ∧ n ≤ 1000000 := by
  unfold prE at h
  split at h
  · omega
  · split at h
    · omega
    · split at h
      · omega
      · rename_i h3
        refine ⟨by omega, fun n hn => ?_⟩
        have : prBad n = false := by
          cases h4 : prBad n
          · rfl
          · exact absurd (List.any_eq_true.2 ⟨n, hn, h4⟩) h3
        simp [prBad] at this
        omega
theorem findO_nil {l : List Offer} (h : offersE l = 0) : findO l ⟨#[]⟩ = none := by
  unfold findO
  rw [List.find?_eq_none]
  intro x hx
  obtain ⟨k, hk⟩ := List.getElem?_of_mem hx
  have h1 := (offersE_at h hk).1
  intro e
  have e : x.key = ⟨#[]⟩ := by simpa using e
  rw [e] at h1
  have h2 : isKey ⟨#[]⟩ = false := by decide +kernel
  rw [h2] at h1
  cases h1

def cE (l : List Offer) (c : List Int) (i : Nat) : Int := match c[i]?, l[i]? with
  | some n, some o => if n < 0 ∨ (o.pr.length : Int) < n then 1 else 0
  | _, _ => 0
def cntsE (l : List Offer) (c : List Int) : Int := if c.length ≠ l.length then 3 else firstE (cE l c) 0 c.length

theorem countsFault_fn (l : List Offer) (hl : OBd l) (c : List Int) (hc : c.length ≤ 1000) : PFn Tryd.prog 39 [.offers l, .ints c] (· = .int (cntsE l c)) := by
  have hL : (l.map Offer.row).length = l.length := List.length_map _
  have hC := intRows_len c
  refine PFn.mk (Spec.body Tryd.func39 rfl rfl (Tryd.ntmps39) rfl fun w0 own0 M => ?_)
  by_cases h1 : c.length = l.length
  rotate_left
  · have e : cntsE l c = 3 := by unfold cntsE; rw [if_pos h1]
    repeat' (first | refine goH ?_ | refine goV ?_ | refine goI ?_ | (refine Cw.k_cond ?_; first | (refine Cw.cond_dec rfl (fun hc => ?_) (fun hc => ?_) <;> try (exfalso; omega)) | refine Cw.cond_bool rfl (fun hc => ?_) (fun hc => ?_)) | fail)
    exact Fin.ret Ent.refl (Outs.one rfl rfl) ⟨rfl, congrArg Tr.int e.symm⟩
  have hV0 : cntsE l c = firstE (cE l c) 0 (c.length - 0) := by unfold cntsE; rw [if_neg (by omega)]; rfl
  repeat' (first | refine goH ?_ | refine goV ?_ | refine goI ?_ | (refine Cw.k_cond ?_; first | (refine Cw.cond_dec rfl (fun hc => ?_) (fun hc => ?_) <;> try (exfalso; omega)) | refine Cw.cond_bool rfl (fun hc => ?_) (fun hc => ?_)) | fail)
  refine Cw.loopI [(0, _), (12, _), (13, _)] _ (fun n e cc => ∃ k : Nat, n = c.length - k ∧ (k ≤ c.length ∧ cntsE l c = firstE (cE l c) k (c.length - k)) ∧ e = [(14, .int k)] ∧ cc = []) ⟨_, _, _, (Ent.mkP goSub goPm), 0, rfl, ⟨by omega, hV0⟩, rfl, rfl⟩ ?_
  rintro _ _ _ ⟨k, rfl, ⟨hk, hV⟩, rfl, rfl⟩
  by_cases hkl : k < c.length
  · obtain ⟨n, hn⟩ := at_lt hkl
    obtain ⟨o, ho⟩ := at_lt (l := l) (k := k) (by omega)
    have hrow := intRows_at hn
    have hrow2 : (l.map Offer.row)[((k : Nat) : Int).toNat]? = some [.str o.key, .str o.group, .ints o.pr, .strs o.has, .strs o.hates] := rows_at ho
    have hP := intRows_len o.pr
    have hob := (hl.2 o (List.mem_of_getElem? ho)).1
    have he : cE l c k = if n < 0 ∨ (o.pr.length : Int) < n then 1 else 0 := by unfold cE; rw [hn, ho]
    by_cases hb : n < 0 ∨ (o.pr.length : Int) < n
    · rw [if_pos hb] at he
      have hfin := hV.trans (firstE_bad hkl he (by decide))
      by_cases hb2 : n < 0
      · repeat' (first | refine goH ?_ | refine goV ?_ | refine goI ?_ | (refine Cw.k_cond ?_; first | (refine Cw.cond_dec rfl (fun hc => ?_) (fun hc => ?_) <;> try (exfalso; omega)) | refine Cw.cond_bool rfl (fun hc => ?_) (fun hc => ?_)) | (refine Ops.k_calla ?_; first | (refine Ops.k_callf 26 ?_; refine Ops.callV (out_t n 0 (intRows o.pr).length (by omega)) (Evs.cons rfl (Evs.cons rfl (Evs.cons rfl Evs.nil))) rfl ?_)) | fail)
        exact Fin.ret Ent.refl (Outs.one rfl rfl) ⟨rfl, congrArg Tr.int hfin.symm⟩
      · have hb3 : (o.pr.length : Int) < n := by omega
        repeat' (first | refine goH ?_ | refine goV ?_ | refine goI ?_ | (refine Cw.k_cond ?_; first | (refine Cw.cond_dec rfl (fun hc => ?_) (fun hc => ?_) <;> try (exfalso; omega)) | refine Cw.cond_bool rfl (fun hc => ?_) (fun hc => ?_)) | (refine Ops.k_calla ?_; first | (refine Ops.k_callf 26 ?_; refine Ops.callV (out_t n 0 (intRows o.pr).length (by omega)) (Evs.cons rfl (Evs.cons rfl (Evs.cons rfl Evs.nil))) rfl ?_)) | fail)
        exact Fin.ret Ent.refl (Outs.one rfl rfl) ⟨rfl, congrArg Tr.int hfin.symm⟩
    · rw [if_neg hb] at he
      repeat' (first | refine goH ?_ | refine goV ?_ | refine goI ?_ | (refine Cw.k_cond ?_; first | (refine Cw.cond_dec rfl (fun hc => ?_) (fun hc => ?_) <;> try (exfalso; omega)) | refine Cw.cond_bool rfl (fun hc => ?_) (fun hc => ?_)) | (refine Ops.k_calla ?_; first | (refine Ops.k_callf 26 ?_; refine Ops.callV (out_f n 0 (intRows o.pr).length (by omega)) (Evs.cons rfl (Evs.cons rfl (Evs.cons rfl Evs.nil))) rfl ?_)) | fail)
      exact ⟨_, _, _, (Ent.mk goSub goTk), ⟨k + 1, rfl, ⟨by omega, hV.trans (firstE_ok hkl he)⟩, rfl, rfl⟩, by omega⟩
  · repeat' (first | refine goH ?_ | refine goV ?_ | refine goI ?_ | (refine Cw.k_cond ?_; first | (refine Cw.cond_dec rfl (fun hc => ?_) (fun hc => ?_) <;> try (exfalso; omega)) | refine Cw.cond_bool rfl (fun hc => ?_) (fun hc => ?_)) | fail)
    refine Fin.ret Ent.refl (Outs.one rfl rfl) ⟨rfl, congrArg Tr.int ?_⟩
    rw [hV, firstE_end hkl]

def sumL (l : List Int) : Int := sumF (fun x => x) l
theorem sumL_bd {l : List Int} (h : ∀ n ∈ l, -1000000 ≤ n ∧ n ≤ 1000000) : -(1000000 * (l.length : Int)) ≤ sumL l ∧ sumL l ≤ 1000000 * (l.length : Int) := by
  induction l with
  | nil => simp [sumL, sumF]
  | cons x l ih =>
    have h1 := h x (by simp)
    have h2 := ih fun n hn => h n (List.mem_cons_of_mem _ hn)
    unfold sumL at *
    rw [sumF_cons, List.length_cons]
    omega
theorem intRows_take (l : List Int) (n : Nat) : (intRows l).take n = intRows (l.take n) := by unfold intRows; rw [List.map_take]
theorem used_fn (o : Offer) (n : Nat) (hn : n ≤ o.pr.length) (hl : o.pr.length ≤ 1000) (hb : ∀ n ∈ o.pr, -1000000 ≤ n ∧ n ≤ 1000000) : PFn Tryd.prog 40 [.agg o.row, .int n] (· = .int (sumL (o.pr.take n))) := by
  have hP := intRows_len o.pr
  have ht := intRows_take o.pr n
  refine PFn.mk (Spec.body Tryd.func40 rfl rfl (Tryd.ntmps40) rfl fun w0 own0 M => ?_)
  unfold Offer.row
  repeat' (first | refine goH ?_ | refine goV ?_ | refine goB (fun b => ?_) | refine goI ?_ | (refine Cw.k_cond ?_; first | (refine Cw.cond_dec rfl (fun hc => ?_) (fun hc => ?_) <;> try (exfalso; omega)) | refine Cw.cond_bool rfl (fun hc => ?_) (fun hc => ?_)) | fail)
  rw [Int.toNat_natCast, ht]
  have hb' : ∀ x ∈ o.pr.take n, -1000000 ≤ x ∧ x ≤ 1000000 := fun x hx => hb x (List.mem_of_mem_take hx)
  have hT : (o.pr.take n).length = n := by rw [List.length_take]; omega
  generalize o.pr.take n = t at *
  have hTL := intRows_len t
  refine Cw.loopI [(11, _), (12, _)] _ (fun q e cc => ∃ (k : Nat) (s : Int), q = t.length - k ∧ (k ≤ t.length ∧ s + sumL (t.drop k) = sumL t ∧ -(1000000 * (k : Int)) ≤ s ∧ s ≤ 1000000 * (k : Int)) ∧ e = [(5, .int s), (13, .int k)] ∧ cc = []) ⟨_, _, _, (Ent.mkP goSub goPm), 0, 0, rfl, ⟨by omega, by simp, by omega, by omega⟩, rfl, rfl⟩ ?_
  rintro _ _ _ ⟨k, s, rfl, ⟨hk, hV, b1, b2⟩, rfl, rfl⟩
  by_cases hkl : k < t.length
  · obtain ⟨x, hx⟩ := at_lt hkl
    have hrow := intRows_at hx
    have hxb := hb' x (List.mem_of_getElem? hx)
    rw [drop_at hx, sumL, sumF_cons, ← sumL] at hV
    repeat' (first | refine goH ?_ | refine goV ?_ | refine goB (fun b => ?_) | refine goI ?_ | (refine Cw.k_cond ?_; first | (refine Cw.cond_dec rfl (fun hc => ?_) (fun hc => ?_) <;> try (exfalso; omega)) | refine Cw.cond_bool rfl (fun hc => ?_) (fun hc => ?_)) | fail)
    exact ⟨_, _, _, (Ent.mk goSub goTk), ⟨k + 1, _, rfl, ⟨by omega, by omega, by omega, by omega⟩, rfl, rfl⟩, by omega⟩
  · rw [List.drop_eq_nil_of_le (by omega), sumL, sumF] at hV
    repeat' (first | refine goH ?_ | refine goV ?_ | refine goB (fun b => ?_) | refine goI ?_ | (refine Cw.k_cond ?_; first | (refine Cw.cond_dec rfl (fun hc => ?_) (fun hc => ?_) <;> try (exfalso; omega)) | refine Cw.cond_bool rfl (fun hc => ?_) (fun hc => ?_)) | fail)
    exact Fin.ret (Ent.take goTk) (Outs.one rfl rfl) ⟨rfl, congrArg Tr.int (by omega)⟩

def worthL : List Offer → List Int → Int
  | o :: l, n :: c => sumL (o.pr.take n.toNat) + worthL l c
  | _, _ => 0
def worthE (l : List Offer) (c : List Int) : Int := if offersE l ≠ 0 then offersE l else cntsE l c
theorem cntsE_at {l : List Offer} {c : List Int} (h : cntsE l c = 0) : c.length = l.length ∧ ∀ (k : Nat) (n : Int) (o : Offer), c[k]? = some n → l[k]? = some o → 0 ≤ n ∧ n ≤ o.pr.length := by
  unfold cntsE at h
  split at h
  · omega
  · refine ⟨by omega, fun k n o hn ho => ?_⟩
    have := firstE_zero h k (Nat.zero_le _) (by have := (List.getElem?_eq_some_iff.1 hn).1; omega)
    unfold cE at this
    rw [hn, ho] at this
    simp only at this
    split at this
    · omega
    · omega
theorem worth_fn (l : List Offer) (hl : OBd l) (c : List Int) (hc : c.length ≤ 1000) : PFn Tryd.prog 28 [.offers l, .ints c] (· = .tup [.int (if worthE l c ≠ 0 then 0 else worthL l c), .int (worthE l c)]) := by
  have k1 := checkOffers_fn l hl
  have k2 := countsFault_fn l hl c hc
  have k3 := cmpOr_fn [offersE l] (by simp)
  rw [show orI [offersE l] = offersE l by rw [orI_cons]; by_cases h : offersE l = 0 <;> simp [orI, h]] at k3
  have hL : (l.map Offer.row).length = l.length := List.length_map _
  have hC := intRows_len c
  refine PFn.mk (Spec.body Tryd.func28 rfl rfl (Tryd.ntmps28) rfl fun w0 own0 M => ?_)
  by_cases h1 : offersE l ≠ 0
  · have e : worthE l c = offersE l := by unfold worthE; rw [if_pos h1]
    rw [e, if_pos h1]
    generalize offersE l = oe at *
    repeat' (first | refine goH ?_ | refine goV ?_ | refine goB (fun b => ?_) | refine goI ?_ | (refine Cw.k_cond ?_; first | (refine Cw.cond_dec rfl (fun hc => ?_) (fun hc => ?_) <;> try (exfalso; omega)) | refine Cw.cond_bool rfl (fun hc => ?_) (fun hc => ?_)) | (refine Ops.k_calla ?_; first | (refine Ops.k_callf 38 ?_; refine Ops.callV k1 (Evs.cons rfl Evs.nil) rfl ?_) | (refine Ops.k_callf 39 ?_; refine Ops.callV k2 (Evs.cons rfl (Evs.cons rfl Evs.nil)) rfl ?_) | (refine Ops.k_callf 37 ?_; refine Ops.callV k3 (Evs.cons rfl Evs.nil) rfl ?_)) | (apply OpW.k_call; first | (apply OpW.k_callf 38; exact OpW.callV k1 (Evs.cons rfl Evs.nil)) | (apply OpW.k_callf 39; exact OpW.callV k2 (Evs.cons rfl (Evs.cons rfl Evs.nil))) | (apply OpW.k_callf 37; exact OpW.callV k3 (Evs.cons rfl Evs.nil))) | refine goR ?_ | refine goP ?_ | apply PSeq.cons | apply PSeq.yes rfl rfl rfl | exact goW | fail)
    refine Fin.ret (Ent.take goTk) (Outs.many rfl (OutL.cons goOe (OutL.cons goOe OutL.nil)) rfl) ⟨rfl, rfl⟩
  have e : worthE l c = cntsE l c := by unfold worthE; rw [if_neg h1]
  rw [e]
  have h10 : offersE l = 0 := by omega
  rw [h10] at k1 k3
  by_cases h2 : cntsE l c ≠ 0
  · rw [if_pos h2]
    generalize cntsE l c = ce at *
    repeat' (first | refine goH ?_ | refine goV ?_ | refine goB (fun b => ?_) | refine goI ?_ | (refine Cw.k_cond ?_; first | (refine Cw.cond_dec rfl (fun hc => ?_) (fun hc => ?_) <;> try (exfalso; omega)) | refine Cw.cond_bool rfl (fun hc => ?_) (fun hc => ?_)) | (refine Ops.k_calla ?_; first | (refine Ops.k_callf 38 ?_; refine Ops.callV k1 (Evs.cons rfl Evs.nil) rfl ?_) | (refine Ops.k_callf 39 ?_; refine Ops.callV k2 (Evs.cons rfl (Evs.cons rfl Evs.nil)) rfl ?_) | (refine Ops.k_callf 37 ?_; refine Ops.callV k3 (Evs.cons rfl Evs.nil) rfl ?_)) | (apply OpW.k_call; first | (apply OpW.k_callf 38; exact OpW.callV k1 (Evs.cons rfl Evs.nil)) | (apply OpW.k_callf 39; exact OpW.callV k2 (Evs.cons rfl (Evs.cons rfl Evs.nil))) | (apply OpW.k_callf 37; exact OpW.callV k3 (Evs.cons rfl Evs.nil))) | refine goR ?_ | refine goP ?_ | apply PSeq.cons | apply PSeq.yes rfl rfl rfl | exact goW | fail)
    refine Fin.ret (Ent.take goTk) (Outs.many rfl (OutL.cons goOe (OutL.cons goOe OutL.nil)) rfl) ⟨rfl, rfl⟩
  have h20 : cntsE l c = 0 := by omega
  rw [if_neg h2, h20]
  rw [h20] at k2
  obtain ⟨hcl, hca⟩ := cntsE_at h20
  have hll := offersE_len h10
  repeat' (first | refine goH ?_ | refine goV ?_ | refine goB (fun b => ?_) | refine goI ?_ | (refine Cw.k_cond ?_; first | (refine Cw.cond_dec rfl (fun hc => ?_) (fun hc => ?_) <;> try (exfalso; omega)) | refine Cw.cond_bool rfl (fun hc => ?_) (fun hc => ?_)) | (refine Ops.k_calla ?_; first | (refine Ops.k_callf 38 ?_; refine Ops.callV k1 (Evs.cons rfl Evs.nil) rfl ?_) | (refine Ops.k_callf 39 ?_; refine Ops.callV k2 (Evs.cons rfl (Evs.cons rfl Evs.nil)) rfl ?_) | (refine Ops.k_callf 37 ?_; refine Ops.callV k3 (Evs.cons rfl Evs.nil) rfl ?_)) | (apply OpW.k_call; first | (apply OpW.k_callf 38; exact OpW.callV k1 (Evs.cons rfl Evs.nil)) | (apply OpW.k_callf 39; exact OpW.callV k2 (Evs.cons rfl (Evs.cons rfl Evs.nil))) | (apply OpW.k_callf 37; exact OpW.callV k3 (Evs.cons rfl Evs.nil))) | refine goR ?_ | refine goP ?_ | apply PSeq.cons | apply PSeq.yes rfl rfl rfl | exact goW | fail)
  refine Cw.loopI [(1, _), (24, _), (25, _)] _ (fun q e cc => ∃ (k : Nat) (s : Int), q = l.length - k ∧ (k ≤ l.length ∧ s + worthL (l.drop k) (c.drop k) = worthL l c ∧ -(10000000 * (k : Int)) ≤ s ∧ s ≤ 10000000 * (k : Int)) ∧ e = [(8, .int s), (26, .int k)] ∧ cc = []) ⟨_, _, _, (Ent.mkP goSub goPm), 0, 0, rfl, ⟨by omega, by simp, by omega, by omega⟩, rfl, rfl⟩ ?_
  rintro _ _ _ ⟨k, s, rfl, ⟨hk, hV, b1, b2⟩, rfl, rfl⟩
  by_cases hkl : k < l.length
  · obtain ⟨o, ho⟩ := at_lt hkl
    obtain ⟨n, hn⟩ := at_lt (l := c) (k := k) (by omega)
    have hrow := intRows_at hn
    have hrow2 : (l.map Offer.row)[((k : Nat) : Int).toNat]? = some o.row := rows_at ho
    obtain ⟨hn1, hn2⟩ := hca k n o hn ho
    obtain ⟨⟨_, hp1⟩, hp2⟩ := prE_ok (offersE_at h10 ho).2.2
    obtain ⟨m, rfl⟩ := Int.eq_ofNat_of_zero_le hn1
    have k4 := used_fn o m (by omega) (by omega) hp2
    have hsb := sumL_bd (l := o.pr.take m) fun x hx => hp2 x (List.mem_of_mem_take hx)
    rw [show (o.pr.take m).length = m by rw [List.length_take]; omega] at hsb
    rw [drop_at ho, drop_at hn, worthL, Int.toNat_natCast] at hV
    unfold Offer.row at *
    generalize sumL (o.pr.take m) = u at *
    repeat' (first | refine goH ?_ | refine goV ?_ | refine goB (fun b => ?_) | refine goI ?_ | (refine Cw.k_cond ?_; first | (refine Cw.cond_dec rfl (fun hc => ?_) (fun hc => ?_) <;> try (exfalso; omega)) | refine Cw.cond_bool rfl (fun hc => ?_) (fun hc => ?_)) | (refine Ops.k_calla ?_; first | (refine Ops.k_callf 40 ?_; refine Ops.callV k4 (Evs.cons rfl (Evs.cons rfl Evs.nil)) rfl ?_)) | (apply OpW.k_call; first | (apply OpW.k_callf 40; exact OpW.callV k4 (Evs.cons rfl (Evs.cons rfl Evs.nil)))) | refine goR ?_ | refine goP ?_ | apply PSeq.cons | apply PSeq.yes rfl rfl rfl | exact goW | fail)
    exact ⟨_, _, _, (Ent.mk goSub goTk), ⟨k + 1, _, rfl, ⟨by omega, by omega, by omega, by omega⟩, rfl, rfl⟩, by omega⟩
  · rw [List.drop_eq_nil_of_le (by omega), show worthL [] (c.drop k) = 0 by unfold worthL; rfl] at hV
    repeat' (first | refine goH ?_ | refine goV ?_ | refine goB (fun b => ?_) | refine goI ?_ | (refine Cw.k_cond ?_; first | (refine Cw.cond_dec rfl (fun hc => ?_) (fun hc => ?_) <;> try (exfalso; omega)) | refine Cw.cond_bool rfl (fun hc => ?_) (fun hc => ?_)) | refine goR ?_ | refine goP ?_ | apply PSeq.cons | apply PSeq.yes rfl rfl rfl | exact goW | fail)
    refine Fin.ret (Ent.take goTk) (Outs.many rfl (OutL.cons goOe (OutL.cons goOe OutL.nil)) rfl) ⟨rfl, ?_⟩
    rw [show s = worthL l c by omega]
theorem shelves_fn : PFn Tryd.prog 11 [] (· = .bool true) := by
  have h := worth_fn [⟨⟨#[97]⟩, ⟨#[103]⟩, [5], [], []⟩] ⟨by simp, by simp⟩ [1] (by simp)
  have e1 : offersE [⟨⟨#[97]⟩, ⟨#[103]⟩, [5], [], []⟩] = 0 := by decide +kernel
  have e2 : cntsE [⟨⟨#[97]⟩, ⟨#[103]⟩, [5], [], []⟩] [1] = 0 := by decide +kernel
  have e4 : worthL [⟨⟨#[97]⟩, ⟨#[103]⟩, [5], [], []⟩] [1] = 5 := by decide +kernel
  have e3 : worthE [⟨⟨#[97]⟩, ⟨#[103]⟩, [5], [], []⟩] [1] = 0 := by unfold worthE; rw [if_neg (by omega)]; exact e2
  rw [e3, e4] at h
  refine PFn.mk (Spec.body Tryd.func11 rfl rfl (Tryd.ntmps11) rfl fun w0 own0 M => ?_)
  repeat' (first | refine goH ?_ | refine goV ?_ | refine goG ?_ | (refine Ops.k_guard ?_; first | (refine Ops.guard_dec rfl rfl (fun hc => ?_) (fun hc => ?_) <;> try (exfalso; omega)) | refine Ops.guard_split rfl rfl (fun hc => ?_) (fun hc => ?_)) | refine goI ?_ | (refine Cw.k_cond ?_; first | (refine Cw.cond_dec rfl (fun hc => ?_) (fun hc => ?_) <;> try (exfalso; omega)) | refine Cw.cond_bool rfl (fun hc => ?_) (fun hc => ?_)) | (refine Ops.k_calla ?_; first | (refine Ops.k_callf 28 ?_; refine Ops.callV h (Evs.cons rfl (Evs.cons rfl Evs.nil)) rfl ?_)) | fail)
  refine Ops.ent (Ent.imp (s := 6) rfl (Imp.sl1 (row' := [Tr.str ⟨#[97]⟩, Tr.str ⟨#[103]⟩, .ints [5], .strs [], .strs []]) (.cons Imp.refl (.cons Imp.refl (.cons Imp.refl (.cons Imp.nil (.cons Imp.nil .nil))))))) ?_
  repeat' (first | refine goH ?_ | refine goV ?_ | refine goG ?_ | (refine Ops.k_guard ?_; first | (refine Ops.guard_dec rfl rfl (fun hc => ?_) (fun hc => ?_) <;> try (exfalso; omega)) | refine Ops.guard_split rfl rfl (fun hc => ?_) (fun hc => ?_)) | refine goI ?_ | (refine Cw.k_cond ?_; first | (refine Cw.cond_dec rfl (fun hc => ?_) (fun hc => ?_) <;> try (exfalso; omega)) | refine Cw.cond_bool rfl (fun hc => ?_) (fun hc => ?_)) | (refine Ops.k_calla ?_; first | (refine Ops.k_callf 28 ?_; refine Ops.callV h (Evs.cons rfl (Evs.cons rfl Evs.nil)) rfl ?_)) | fail)
  exact Fin.ret (Ent.take goTk) (Outs.one rfl rfl) ⟨rfl, rfl⟩
end Lg
end
section
set_option linter.all false
set_option maxRecDepth 100000
set_option maxHeartbeats 8000000
namespace Lg
open Go

/-! ### versions and stays, in plain terms -/
structure Ver where
  f : Int
  x : List ByteArray
structure Sty where
  s : Int
  p : ByteArray
  f : Int
  t : Int
abbrev eS : ByteArray := ⟨#[]⟩
def itF {σ : Type} (f : Nat → σ → σ) : Nat → Nat → σ → σ
  | _, 0, s => s
  | k, n + 1, s => itF f (k + 1) n (f k s)
theorem itF_step {σ : Type} {f : Nat → σ → σ} {k D : Nat} {s : σ} (h : k < D) : itF f k (D - k) s = itF f (k + 1) (D - (k + 1)) (f k s) := by
  obtain ⟨m, hm⟩ : ∃ m, D - k = m + 1 := ⟨D - k - 1, by omega⟩
  rw [hm, itF, show D - (k + 1) = m by omega]
theorem itF_end {σ : Type} {f : Nat → σ → σ} {k D : Nat} {s : σ} (h : ¬ k < D) : itF f k (D - k) s = s := by
  rw [show D - k = 0 by omega, itF]
theorem itF_add {σ : Type} {f : Nat → σ → σ} : ∀ (a b k : Nat) (s : σ), itF f k (a + b) s = itF f (k + a) b (itF f k a s)
  | 0, b, k, s => by rw [Nat.zero_add, Nat.add_zero, itF]
  | a + 1, b, k, s => by
    rw [show a + 1 + b = (a + b) + 1 by omega, itF, itF, itF_add a b, show k + 1 + a = k + (a + 1) by omega]
/-- the version of a day, looked for from the back -/
def atN (l : List Ver) (d : Int) : Nat → Option Ver
  | 0 => none
  | n + 1 => match l[n]? with
    | none => none
    | some v => if v.f ≤ d then some v else atN l d n
def wd (l : List Ver) (i : Nat) (d : Int) : ByteArray := match atN l d l.length with
  | none => eS
  | some v => v.x.getD i eS
def setL (out : List Sty) (t : Int) : List Sty := match out.getLast? with
  | none => out
  | some s => out.dropLast ++ [{ s with t := t }]
abbrev DS := List Sty × ByteArray
abbrev VS := List Sty × Sty
/-- one day of one slot -/
def dayS (i : Nat) (w : ByteArray) (d : Int) (st : DS) : DS :=
  if w ≠ eS ∧ w = st.2 then (setL st.1 (d + 1), w) else if w ≠ eS then (st.1 ++ [⟨i, w, d, d + 1⟩], w) else (st.1, w)
def dayF (i : Nat) (W : Int → ByteArray) (d0 : Int) : Nat → Nat → DS → DS := itF (fun k st => dayS i (W (d0 + k)) (d0 + k) st)
def keptF (out : List Sty) (s : Sty) : List Sty := if s.p = eS then out else out ++ [s]
def verW (i : Nat) (k : ByteArray) (b e : Int) (st : VS) : VS :=
  if st.2.s = i ∧ st.2.t = b ∧ st.2.p = k then (st.1, { st.2 with t := e }) else (keptF st.1 st.2, ⟨i, k, b, e⟩)
def verEnd (l : List Ver) (t : Int) (k : Nat) : Int := match l[k + 1]? with
  | none => t
  | some y => min t y.f
def verK (l : List Ver) (i : Nat) (f t : Int) (k : Nat) (st : VS) : VS := match l[k]? with
  | none => st
  | some v => if verEnd l t k ≤ max f v.f then st else verW i (v.x.getD i eS) (max f v.f) (verEnd l t k) st
def slotV (l : List Ver) (i : Nat) (f t : Int) (out : List Sty) : List Sty := keptF (itF (verK l i f t) 0 l.length (out, ⟨-1, eS, 0, 0⟩)).1 (itF (verK l i f t) 0 l.length (out, ⟨-1, eS, 0, 0⟩)).2
def slotD (l : List Ver) (i : Nat) (f t : Int) (out : List Sty) : List Sty := (dayF i (wd l i) f 0 (t - f).toNat (out, eS)).1

theorem setL_snoc (out : List Sty) (s : Sty) (t : Int) : setL (out ++ [s]) t = out ++ [{ s with t := t }] := by
  unfold setL
  rw [List.getLast?_concat]
  simp
theorem dayF_nil {i : Nat} {W : Int → ByteArray} {d0 : Int} : ∀ (n k : Nat) (st : DS), (∀ j, k ≤ j → j < k + n → W (d0 + j) = eS) → st.2 = eS → dayF i W d0 k n st = st
  | 0, k, st, _, _ => rfl
  | n + 1, k, st, h, hs => by
    unfold dayF at *
    rw [itF]
    have h0 : dayS i (W (d0 + k)) (d0 + k) st = st := by
      rw [h k (by omega) (by omega)]
      unfold dayS
      rw [if_neg (by simp), if_neg (by simp)]
      obtain ⟨o, w⟩ := st
      simp only at hs
      rw [hs]
    rw [h0]
    exact dayF_nil n (k + 1) st (fun j h1 h2 => h j (by omega) (by omega)) hs
theorem dayF_clear {i : Nat} {W : Int → ByteArray} {d0 : Int} : ∀ (n k : Nat) (st : DS), 0 < n → (∀ j, k ≤ j → j < k + n → W (d0 + j) = eS) → dayF i W d0 k n st = (st.1, eS)
  | 0, k, st, hn, _ => absurd hn (by omega)
  | n + 1, k, st, _, h => by
    have := dayF_nil (i := i) n (k + 1) (dayS i (W (d0 + k)) (d0 + k) st) (fun j h1 h2 => h j (by omega) (by omega)) (by
      rw [h k (by omega) (by omega)]
      unfold dayS
      rw [if_neg (by simp), if_neg (by simp)])
    unfold dayF at *
    rw [itF, this, h k (by omega) (by omega)]
    unfold dayS
    rw [if_neg (by simp), if_neg (by simp)]
theorem dayF_cont {i : Nat} {W : Int → ByteArray} {d0 : Int} {w : ByteArray} (hw : w ≠ eS) : ∀ (n k : Nat) (out : List Sty) (s : Sty), (∀ j, k ≤ j → j < k + n → W (d0 + j) = w) → s.t = d0 + k → dayF i W d0 k n (out ++ [s], w) = (out ++ [{ s with t := d0 + k + n }], w)
  | 0, k, out, s, _, hs => by
    unfold dayF
    rw [itF]
    congr 2
    obtain ⟨a, b, c, t⟩ := s
    simp only at hs
    simp [hs]
  | n + 1, k, out, s, h, hs => by
    have h0 : dayS i (W (d0 + k)) (d0 + k) (out ++ [s], w) = (out ++ [{ s with t := d0 + k + 1 }], w) := by
      rw [h k (by omega) (by omega)]
      unfold dayS
      rw [if_pos ⟨hw, rfl⟩, setL_snoc]
    have := dayF_cont (i := i) hw n (k + 1) out { s with t := d0 + k + 1 } (fun j h1 h2 => h j (by omega) (by omega)) (by simp only; omega)
    unfold dayF at *
    rw [itF, h0, this]
    congr 3
    simp only [Sty.mk.injEq, true_and]
    omega
/-- both walks agree at a day -/
def Rel (i : Nat) (d : Int) (v : VS) (s : DS) : Prop := s = (keptF v.1 v.2, v.2.p) ∧ ((v.2.s = i ∧ v.2.t = d) ∨ (v.2.p = eS ∧ v.2.s ≠ i))
theorem rel_step {i : Nat} {W : Int → ByteArray} {d0 : Int} {k n : Nat} {w : ByteArray} {v : VS} {s : DS} (hn : 0 < n) (hW : ∀ j, k ≤ j → j < k + n → W (d0 + j) = w) (hR : Rel i (d0 + k) v s) : Rel i (d0 + k + n) (verW i w (d0 + k) (d0 + k + n) v) (dayF i W d0 k n s) := by
  obtain ⟨out, last⟩ := v
  obtain ⟨rfl, hl⟩ := hR
  simp only at hl
  unfold verW
  by_cases hc : last.s = i ∧ last.t = d0 + k ∧ last.p = w
  · rw [if_pos hc]
    obtain ⟨h1, h2, h3⟩ := hc
    refine ⟨?_, .inl ⟨h1, rfl⟩⟩
    by_cases hw : w = eS
    · rw [dayF_clear n k _ hn (fun j a b => by rw [hW j a b, hw])]
      unfold keptF
      simp only
      rw [if_pos (h3.trans hw), h3, hw]
      rfl
    · unfold keptF
      simp only
      rw [if_neg (by rw [h3]; exact hw), if_neg (by rw [h3]; exact hw), h3, dayF_cont hw n k out last hW h2]
      simp only [h3]
  · rw [if_neg hc]
    refine ⟨?_, .inl ⟨rfl, rfl⟩⟩
    by_cases hw : w = eS
    · rw [dayF_clear n k _ hn (fun j a b => by rw [hW j a b, hw])]
      unfold keptF
      simp only
      rw [if_pos hw, hw]
    · have hne : w ≠ last.p := by
        rintro rfl
        rcases hl with ⟨a, b⟩ | ⟨a, b⟩
        · exact hc ⟨a, b, rfl⟩
        · exact hw a
      obtain ⟨m, rfl⟩ : ∃ m, n = m + 1 := ⟨n - 1, by omega⟩
      have h0 : dayS i (W (d0 + k)) (d0 + k) (keptF out last, last.p) = (keptF out last ++ [⟨i, w, d0 + k, d0 + k + 1⟩], w) := by
        rw [hW k (by omega) (by omega)]
        unfold dayS
        rw [if_neg (fun h => hne h.2), if_pos hw]
      have := dayF_cont (i := i) hw m (k + 1) (keptF out last) ⟨i, w, d0 + k, d0 + k + 1⟩ (fun j h1 h2 => hW j (by omega) (by omega)) (by simp only; omega)
      unfold dayF at *
      simp only
      rw [itF, h0, this]
      have e1 : keptF (keptF out last) ⟨i, w, d0 + k, d0 + k + (m + 1 : Nat)⟩ = keptF out last ++ [⟨i, w, d0 + k, d0 + k + (m + 1 : Nat)⟩] := by
        rw [keptF, if_neg hw]
      rw [e1]
      congr 3
      simp only [Sty.mk.injEq, true_and]
      omega
/-! ### the version of a day -/
theorem atN_skip {l : List Ver} {d : Int} {m : Nat} : ∀ (q : Nat), m + q ≤ l.length → (∀ (j : Nat) (y : Ver), m ≤ j → l[j]? = some y → d < y.f) → atN l d (m + q) = atN l d m
  | 0, _, _ => rfl
  | q + 1, hl, h => by
    have hlt : m + q < l.length := by omega
    rw [← Nat.add_assoc, atN, List.getElem?_eq_getElem hlt]
    simp only
    rw [if_neg (by have := h (m + q) _ (by omega) (List.getElem?_eq_getElem hlt); omega)]
    exact atN_skip q (by omega) h
theorem wd_before {l : List Ver} {i : Nat} {d : Int} (h : ∀ (j : Nat) (y : Ver), l[j]? = some y → d < y.f) : wd l i d = eS := by
  have := atN_skip (l := l) (d := d) (m := 0) l.length (by omega) (fun j y _ => h j y)
  rw [Nat.zero_add] at this
  rw [wd, this, atN]
theorem wd_at {l : List Ver} {i : Nat} {d : Int} {k : Nat} {v : Ver} (hv : l[k]? = some v) (h1 : v.f ≤ d) (h : ∀ (j : Nat) (y : Ver), k + 1 ≤ j → l[j]? = some y → d < y.f) : wd l i d = v.x.getD i eS := by
  have hk := (List.getElem?_eq_some_iff.1 hv).1
  have := atN_skip (l := l) (d := d) (m := k + 1) (l.length - (k + 1)) (by omega) h
  rw [show k + 1 + (l.length - (k + 1)) = l.length by omega, atN, hv] at this
  simp only at this
  rw [if_pos h1] at this
  rw [wd, this]
/-- the days rise -/
def risV (l : List Ver) : Prop := ∀ (j k : Nat) (x y : Ver), j < k → l[j]? = some x → l[k]? = some y → x.f < y.f
theorem ris_of {l : List Ver} (h : ∀ (k : Nat) (x y : Ver), l[k]? = some x → l[k + 1]? = some y → x.f < y.f) : risV l := by
  intro j k
  induction k with
  | zero => intro x y hj; omega
  | succ k ih =>
    intro x y hj hx hy
    have hk : k < l.length := by have := (List.getElem?_eq_some_iff.1 hy).1; omega
    have h1 := h k _ y (List.getElem?_eq_getElem hk) hy
    by_cases e : j = k
    · subst e
      rw [List.getElem?_eq_getElem hk, Option.some.injEq] at hx
      rw [← hx]
      exact h1
    · have := ih x _ (by omega) hx (List.getElem?_eq_getElem hk)
      omega
/-- the day at which version k begins, within the window -/
def dk (l : List Ver) (f t : Int) (k : Nat) : Int := match l[k]? with
  | none => t
  | some v => max f (min t v.f)
theorem main_stay {l : List Ver} {i : Nat} {f t : Int} (hr : risV l) (hft : f ≤ t) : ∀ (n k : Nat) (v : VS) (s : DS), k + n = l.length → Rel i (dk l f t k) v s →
    Rel i t (itF (verK l i f t) k n v) (dayF i (wd l i) f (dk l f t k - f).toNat (t - dk l f t k).toNat s)
  | 0, k, v, s, hk, hR => by
    have hd : dk l f t k = t := by rw [dk, List.getElem?_eq_none (by omega)]
    rw [hd] at hR ⊢
    rw [show (t - t).toNat = 0 by omega, dayF, itF, itF]
    exact hR
  | n + 1, k, v, s, hk, hR => by
    obtain ⟨x, hx⟩ : ∃ x, l[k]? = some x := ⟨_, List.getElem?_eq_getElem (by omega)⟩
    have hdk : dk l f t k = max f (min t x.f) := by rw [dk, hx]
    have hnx : (l[k + 1]? = none ∧ dk l f t (k + 1) = t ∧ verEnd l t k = t) ∨ (∃ y, l[k + 1]? = some y ∧ x.f < y.f ∧ dk l f t (k + 1) = max f (min t y.f) ∧ verEnd l t k = min t y.f) := by
      cases hy : l[k + 1]? with
      | none => exact .inl ⟨rfl, by rw [dk, hy], by rw [verEnd, hy]⟩
      | some y => exact .inr ⟨y, rfl, hr k (k + 1) x y (by omega) hx hy, by rw [dk, hy], by rw [verEnd, hy]⟩
    have hlate : ∀ (d : Int), d < dk l f t (k + 1) → f ≤ d → ∀ j y, k + 1 ≤ j → l[j]? = some y → d < y.f := by
      intro d hd hfd j y hj hy
      rcases hnx with ⟨h1, _, _⟩ | ⟨z, h1, h2, h3, h4⟩
      · have := (List.getElem?_eq_some_iff.1 hy).1
        have := List.getElem?_eq_none_iff.1 h1
        omega
      · have hzy : z.f ≤ y.f := by
          by_cases e : j = k + 1
          · subst e
            rw [h1, Option.some.injEq] at hy
            rw [hy]; exact Int.le_refl _
          · have := hr (k + 1) j z y (by omega) h1 hy
            omega
        omega
    rw [itF]
    have hV : verK l i f t k v = if verEnd l t k ≤ max f x.f then v else verW i (x.x.getD i eS) (max f x.f) (verEnd l t k) v := by rw [verK, hx]
    rw [hV]
    by_cases hc : verEnd l t k ≤ max f x.f
    · rw [if_pos hc]
      have he : dk l f t (k + 1) = dk l f t k := by
        rcases hnx with ⟨_, h2, h3⟩ | ⟨y, _, h2, h3, h4⟩ <;> omega
      have := main_stay hr hft n (k + 1) v s (by omega) (by rw [he]; exact hR)
      rw [he] at this
      exact this
    · rw [if_neg hc]
      have hb : dk l f t k = max f x.f := by
        rcases hnx with ⟨_, h2, h3⟩ | ⟨y, _, h2, h3, h4⟩ <;> omega
      have he : dk l f t (k + 1) = verEnd l t k := by
        rcases hnx with ⟨_, h2, h3⟩ | ⟨y, _, h2, h3, h4⟩ <;> omega
      have het : verEnd l t k ≤ t := by
        rcases hnx with ⟨_, h2, h3⟩ | ⟨y, _, h2, h3, h4⟩ <;> omega
      obtain ⟨b, hbN⟩ : ∃ b : Nat, max f x.f = f + b := ⟨(max f x.f - f).toNat, by omega⟩
      obtain ⟨m, hmN⟩ : ∃ m : Nat, verEnd l t k = f + b + m := ⟨(verEnd l t k - (f + b)).toNat, by omega⟩
      rw [hb, hbN] at hR ⊢
      rw [hmN]
      have hW : ∀ j : Nat, b ≤ j → j < b + m → wd l i (f + j) = x.x.getD i eS := by
        intro j h1 h2
        exact wd_at hx (by omega) (hlate _ (by rw [he, hmN]; omega) (by omega))
      have h1 := rel_step (i := i) (W := wd l i) (d0 := f) (k := b) (n := m) (by omega) hW hR
      have h2 := main_stay hr hft n (k + 1) _ _ (by omega) (by rw [he, hmN]; exact h1)
      rw [he, hmN] at h2
      have e1 : (f + (b : Int) + m - f).toNat = b + m := by omega
      have e2 : (f + (b : Int) - f).toNat = b := by omega
      have e3 : (t - (f + (b : Int))).toNat = m + (t - (f + (b : Int) + m)).toNat := by omega
      rw [e1] at h2
      rw [e2, e3]
      have h3 : dayF i (wd l i) f b (m + (t - (f + (b : Int) + m)).toNat) s = dayF i (wd l i) f (b + m) (t - (f + (b : Int) + m)).toNat (dayF i (wd l i) f b m s) := by
        unfold dayF
        rw [itF_add]
      rw [h3]
      exact h2
theorem slot_eq {l : List Ver} {i : Nat} {f t : Int} (hr : risV l) (hft : f ≤ t) (out : List Sty) : slotD l i f t out = slotV l i f t out := by
  unfold slotD slotV
  have h0 : Rel i (dk l f t 0) (out, ⟨-1, eS, 0, 0⟩) (out, eS) := ⟨by rw [keptF, if_pos rfl], .inr ⟨rfl, by simp only; omega⟩⟩
  have hm := main_stay hr hft l.length 0 _ _ (by omega) h0
  have hd : f ≤ dk l f t 0 ∧ dk l f t 0 ≤ t := by
    unfold dk
    split <;> omega
  have hb : dayF i (wd l i) f 0 (dk l f t 0 - f).toNat (out, eS) = (out, eS) := by
    refine dayF_nil _ _ _ (fun j _ h2 => wd_before fun q y hy => ?_) rfl
    unfold dk at h2
    have hl := (List.getElem?_eq_some_iff.1 hy).1
    obtain ⟨x, hx⟩ : ∃ x, l[0]? = some x := ⟨_, List.getElem?_eq_getElem (by omega)⟩
    rw [hx] at h2
    simp only at h2
    have : x.f ≤ y.f := by
      by_cases e : q = 0
      · subst e
        rw [hx, Option.some.injEq] at hy
        rw [hy]; exact Int.le_refl _
      · have := hr 0 q x y (by omega) hx hy
        omega
    omega
  have hs : dayF i (wd l i) f 0 (t - f).toNat (out, eS) = dayF i (wd l i) f (dk l f t 0 - f).toNat (t - dk l f t 0).toNat (out, eS) := by
    have e1 : (t - f).toNat = (dk l f t 0 - f).toNat + (t - dk l f t 0).toNat := by omega
    have := congrArg (fun z => dayF i (wd l i) f (0 + (dk l f t 0 - f).toNat) (t - dk l f t 0).toNat z) hb
    rw [e1]
    unfold dayF at this ⊢
    rw [itF_add, this, Nat.zero_add]
  rw [hs, hm.1]
end Lg
end
section
set_option linter.all false
set_option maxRecDepth 100000
set_option maxHeartbeats 4000000
namespace Lg
open Go Go.Proofs

theorem dayFault1_fn (n : Int) : PFn Tryd.prog 30 [.int n] (· = .bool (!dayB n)) := by
  refine PFn.mk (Spec.body Tryd.func30 rfl rfl (Tryd.ntmps30) rfl fun w0 own0 M => ?_)
  repeat' (first | refine goH ?_ | refine goV ?_ | refine goG ?_ | (refine Ops.k_guard ?_; first | (refine Ops.guard_dec rfl rfl (fun hc => ?_) (fun hc => ?_) <;> try (exfalso; omega)) | refine Ops.guard_split rfl rfl (fun hc => ?_) (fun hc => ?_)) | refine goI ?_ | (refine Cw.k_cond ?_; first | (refine Cw.cond_dec rfl (fun hc => ?_) (fun hc => ?_) <;> try (exfalso; omega)) | refine Cw.cond_bool rfl (fun hc => ?_) (fun hc => ?_)) | fail)
  all_goals (refine Fin.ret (Ent.take goTk) (Outs.one rfl rfl) ⟨rfl, congrArg Tr.bool ?_⟩)
  all_goals (rw [Bool.eq_iff_iff]; simp [dayB, outB] at *; try omega)
theorem dayFault_fn (l : List Int) (hl : l.length ≤ 1000000) : PFn Tryd.prog 12 [.ints l] (· = .int (if l.any (fun n => !dayB n) then 1 else 0)) := by
  have k := containsFunc_int (cin := []) (caps := []) (g := 30) (p := fun n => !dayB n) (l := l) (by omega) (fun x _ => (dayFault1_fn x).lend)
  refine PFn.mk (Spec.body Tryd.func12 rfl rfl (Tryd.ntmps12) rfl fun w0 own0 M => ?_)
  generalize (l.any fun n => !dayB n) = b at *
  repeat' (first | refine goH ?_ | refine goV ?_ | refine goI ?_ | (refine Cw.k_cond ?_; first | (refine Cw.cond_dec rfl (fun hc => ?_) (fun hc => ?_) <;> try (exfalso; omega)) | refine Cw.cond_bool rfl (fun hc => ?_) (fun hc => ?_)) | (refine Ops.k_calla ?_; first | (refine Ops.k_callf 29 ?_; refine Ops.callS k (Evs.cons rfl (Evs.cons rfl Evs.nil)) (List.Perm.refl _) rfl ?_)) | fail)
  all_goals (refine Fin.ret (Ent.take goTk) (Outs.one rfl rfl) ⟨rfl, congrArg Tr.int ?_⟩; simp_all)
end Lg
end
