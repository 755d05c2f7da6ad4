/- A part of the proof of a law of this seat: it adds no condition. By an AI agent. -/
import Derived.Test.YtlaemkjeagpbnaaDoorLgX
import Derived.Test.YtlaemkjeagpbnaaDoorFind
import Derived.Test.YtlaemkjeagpbnaaDoorOff2
set_option linter.all false
set_option maxRecDepth 100000
set_option maxHeartbeats 4000000
namespace Lg
open Go Go.Proofs

theorem offersE_len {l : List Offer} (h : offersE l = 0) : l.length ≤ 30 := by
  unfold offersE at h
  split at h
  · omega
  · omega
theorem offersE_at {l : List Offer} (h : offersE l = 0) {k : Nat} {x : Offer} (hx : l[k]? = some x) : isKey x.key = true ∧ isKey x.group = true ∧ prE x.pr = 0 := by
  unfold offersE at h
  split at h
  · omega
  · have hk := (List.getElem?_eq_some_iff.1 hx).1
    have h2 := firstE_zero h k (Nat.zero_le _) (by omega)
    unfold offerE at h2
    rw [hx] at h2
    simp only at h2
    split at h2
    · omega
    · rename_i g1
      split at h2
      · omega
      · split at h2
        · omega
        · rename_i g2
          split at h2
          · omega
          · exact ⟨by simpa using g1, by simpa using g2, by omega⟩
theorem prE_ok {l : List Int} (h : prE l = 0) : (1 ≤ l.length ∧ l.length ≤ 10) ∧ ∀ n ∈ l, -1000000 ≤ n ∧ n ≤ 1000000 := by
  unfold prE at h
  split at h
  · omega
  · split at h
    · omega
    · split at h
      · omega
      · rename_i h3
        refine ⟨by omega, fun n hn => ?_⟩
        have : prBad n = false := by
          cases h4 : prBad n
          · rfl
          · exact absurd (List.any_eq_true.2 ⟨n, hn, h4⟩) h3
        simp [prBad] at this
        omega
theorem findO_nil {l : List Offer} (h : offersE l = 0) : findO l ⟨#[]⟩ = none := by
  unfold findO
  rw [List.find?_eq_none]
  intro x hx
  obtain ⟨k, hk⟩ := List.getElem?_of_mem hx
  have h1 := (offersE_at h hk).1
  intro e
  have e : x.key = ⟨#[]⟩ := by simpa using e
  rw [e] at h1
  have h2 : isKey ⟨#[]⟩ = false := by decide +kernel
  rw [h2] at h1
  cases h1

def cE (l : List Offer) (c : List Int) (i : Nat) : Int := match c[i]?, l[i]? with
  | some n, some o => if n < 0 ∨ (o.pr.length : Int) < n then 1 else 0
  | _, _ => 0
def cntsE (l : List Offer) (c : List Int) : Int := if c.length ≠ l.length then 3 else firstE (cE l c) 0 c.length

theorem countsFault_fn (l : List Offer) (hl : OBd l) (c : List Int) (hc : c.length ≤ 1000) : PFn Tryd.prog 46 [.offers l, .ints c] (· = .int (cntsE l c)) := by
  have hL : (l.map Offer.row).length = l.length := List.length_map _
  have hC := intRows_len c
  refine PFn.mk (Spec.body Tryd.func46 rfl rfl (Tryd.ntmps46) rfl fun w0 own0 M => ?_)
  by_cases h1 : c.length = l.length
  rotate_left
  · have e : cntsE l c = 3 := by unfold cntsE; rw [if_pos h1]
    repeat' (first | refine goH ?_ | refine goV ?_ | refine goI ?_ | (refine Cw.k_cond ?_; first | (refine Cw.cond_dec rfl (fun hc => ?_) (fun hc => ?_) <;> try (exfalso; omega)) | refine Cw.cond_bool rfl (fun hc => ?_) (fun hc => ?_)) | fail)
    exact Fin.ret Ent.refl (Outs.one rfl rfl) ⟨rfl, congrArg Tr.int e.symm⟩
  have hV0 : cntsE l c = firstE (cE l c) 0 (c.length - 0) := by unfold cntsE; rw [if_neg (by omega)]; rfl
  repeat' (first | refine goH ?_ | refine goV ?_ | refine goI ?_ | (refine Cw.k_cond ?_; first | (refine Cw.cond_dec rfl (fun hc => ?_) (fun hc => ?_) <;> try (exfalso; omega)) | refine Cw.cond_bool rfl (fun hc => ?_) (fun hc => ?_)) | fail)
  refine Cw.loopI [(0, _), (12, _), (13, _)] _ (fun n e cc => ∃ k : Nat, n = c.length - k ∧ (k ≤ c.length ∧ cntsE l c = firstE (cE l c) k (c.length - k)) ∧ e = [(14, .int k)] ∧ cc = []) ⟨_, _, _, (Ent.mkP goSub goPm), 0, rfl, ⟨by omega, hV0⟩, rfl, rfl⟩ ?_
  rintro _ _ _ ⟨k, rfl, ⟨hk, hV⟩, rfl, rfl⟩
  by_cases hkl : k < c.length
  · obtain ⟨n, hn⟩ := at_lt hkl
    obtain ⟨o, ho⟩ := at_lt (l := l) (k := k) (by omega)
    have hrow := intRows_at hn
    have hrow2 : (l.map Offer.row)[((k : Nat) : Int).toNat]? = some [.str o.key, .str o.group, .ints o.pr, .strs o.has, .strs o.hates] := rows_at ho
    have hP := intRows_len o.pr
    have hob := (hl.2 o (List.mem_of_getElem? ho)).1
    have he : cE l c k = if n < 0 ∨ (o.pr.length : Int) < n then 1 else 0 := by unfold cE; rw [hn, ho]
    by_cases hb : n < 0 ∨ (o.pr.length : Int) < n
    · rw [if_pos hb] at he
      have hfin := hV.trans (firstE_bad hkl he (by decide))
      by_cases hb2 : n < 0
      · repeat' (first | refine goH ?_ | refine goV ?_ | refine goI ?_ | (refine Cw.k_cond ?_; first | (refine Cw.cond_dec rfl (fun hc => ?_) (fun hc => ?_) <;> try (exfalso; omega)) | refine Cw.cond_bool rfl (fun hc => ?_) (fun hc => ?_)) | (refine Ops.k_calla ?_; first | (refine Ops.k_callf 38 ?_; refine Ops.callV (out_t n 0 (intRows o.pr).length (by omega)) (Evs.cons rfl (Evs.cons rfl (Evs.cons rfl Evs.nil))) rfl ?_)) | fail)
        exact Fin.ret Ent.refl (Outs.one rfl rfl) ⟨rfl, congrArg Tr.int hfin.symm⟩
      · have hb3 : (o.pr.length : Int) < n := by omega
        repeat' (first | refine goH ?_ | refine goV ?_ | refine goI ?_ | (refine Cw.k_cond ?_; first | (refine Cw.cond_dec rfl (fun hc => ?_) (fun hc => ?_) <;> try (exfalso; omega)) | refine Cw.cond_bool rfl (fun hc => ?_) (fun hc => ?_)) | (refine Ops.k_calla ?_; first | (refine Ops.k_callf 38 ?_; refine Ops.callV (out_t n 0 (intRows o.pr).length (by omega)) (Evs.cons rfl (Evs.cons rfl (Evs.cons rfl Evs.nil))) rfl ?_)) | fail)
        exact Fin.ret Ent.refl (Outs.one rfl rfl) ⟨rfl, congrArg Tr.int hfin.symm⟩
    · rw [if_neg hb] at he
      repeat' (first | refine goH ?_ | refine goV ?_ | refine goI ?_ | (refine Cw.k_cond ?_; first | (refine Cw.cond_dec rfl (fun hc => ?_) (fun hc => ?_) <;> try (exfalso; omega)) | refine Cw.cond_bool rfl (fun hc => ?_) (fun hc => ?_)) | (refine Ops.k_calla ?_; first | (refine Ops.k_callf 38 ?_; refine Ops.callV (out_f n 0 (intRows o.pr).length (by omega)) (Evs.cons rfl (Evs.cons rfl (Evs.cons rfl Evs.nil))) rfl ?_)) | fail)
      exact ⟨_, _, _, (Ent.mk goSub goTk), ⟨k + 1, rfl, ⟨by omega, hV.trans (firstE_ok hkl he)⟩, rfl, rfl⟩, by omega⟩
  · repeat' (first | refine goH ?_ | refine goV ?_ | refine goI ?_ | (refine Cw.k_cond ?_; first | (refine Cw.cond_dec rfl (fun hc => ?_) (fun hc => ?_) <;> try (exfalso; omega)) | refine Cw.cond_bool rfl (fun hc => ?_) (fun hc => ?_)) | fail)
    refine Fin.ret Ent.refl (Outs.one rfl rfl) ⟨rfl, congrArg Tr.int ?_⟩
    rw [hV, firstE_end hkl]
theorem refCounts_fn (l : List Offer) (hl : OBd l) (c : List Int) (hc : c.length ≤ 1000) : PFn Tryd.prog 56 [.offers l, .ints c] (· = .int (cntsE l c)) := by
  have hL : (l.map Offer.row).length = l.length := List.length_map _
  have hC := intRows_len c
  refine PFn.mk (Spec.body Tryd.func56 rfl rfl (Tryd.ntmps56) rfl fun w0 own0 M => ?_)
  by_cases h1 : c.length = l.length
  rotate_left
  · have e : cntsE l c = 3 := by unfold cntsE; rw [if_pos h1]
    repeat' (first | refine goH ?_ | refine goV ?_ | refine goG ?_ | (refine Ops.k_guard ?_; first | (refine Ops.guard_dec rfl rfl (fun hc => ?_) (fun hc => ?_) <;> try (exfalso; omega)) | refine Ops.guard_split rfl rfl (fun hc => ?_) (fun hc => ?_)) | refine goI ?_ | (refine Cw.k_cond ?_; first | (refine Cw.cond_dec rfl (fun hc => ?_) (fun hc => ?_) <;> try (exfalso; omega)) | refine Cw.cond_bool rfl (fun hc => ?_) (fun hc => ?_)) | fail)
    exact Fin.ret Ent.refl (Outs.one rfl rfl) ⟨rfl, congrArg Tr.int e.symm⟩
  have hV0 : cntsE l c = firstE (cE l c) 0 (c.length - 0) := by unfold cntsE; rw [if_neg (by omega)]; rfl
  repeat' (first | refine goH ?_ | refine goV ?_ | refine goG ?_ | (refine Ops.k_guard ?_; first | (refine Ops.guard_dec rfl rfl (fun hc => ?_) (fun hc => ?_) <;> try (exfalso; omega)) | refine Ops.guard_split rfl rfl (fun hc => ?_) (fun hc => ?_)) | refine goI ?_ | (refine Cw.k_cond ?_; first | (refine Cw.cond_dec rfl (fun hc => ?_) (fun hc => ?_) <;> try (exfalso; omega)) | refine Cw.cond_bool rfl (fun hc => ?_) (fun hc => ?_)) | fail)
  refine Cw.loopI [(0, _), (12, _), (13, _)] _ (fun n e cc => ∃ k : Nat, n = c.length - k ∧ (k ≤ c.length ∧ cntsE l c = firstE (cE l c) k (c.length - k)) ∧ e = [(14, .int k)] ∧ cc = []) ⟨_, _, _, (Ent.mkP goSub goPm), 0, rfl, ⟨by omega, hV0⟩, rfl, rfl⟩ ?_
  rintro _ _ _ ⟨k, rfl, ⟨hk, hV⟩, rfl, rfl⟩
  by_cases hkl : k < c.length
  · obtain ⟨n, hn⟩ := at_lt hkl
    obtain ⟨o, ho⟩ := at_lt (l := l) (k := k) (by omega)
    have hrow := intRows_at hn
    have hrow2 : (l.map Offer.row)[((k : Nat) : Int).toNat]? = some [.str o.key, .str o.group, .ints o.pr, .strs o.has, .strs o.hates] := rows_at ho
    have hP := intRows_len o.pr
    have hob := (hl.2 o (List.mem_of_getElem? ho)).1
    have he : cE l c k = if n < 0 ∨ (o.pr.length : Int) < n then 1 else 0 := by unfold cE; rw [hn, ho]
    by_cases hb : n < 0 ∨ (o.pr.length : Int) < n
    · rw [if_pos hb] at he
      have hfin := hV.trans (firstE_bad hkl he (by decide))
      by_cases hb2 : n < 0
      · repeat' (first | refine goH ?_ | refine goV ?_ | refine goG ?_ | (refine Ops.k_guard ?_; first | (refine Ops.guard_dec rfl rfl (fun hc => ?_) (fun hc => ?_) <;> try (exfalso; omega)) | refine Ops.guard_split rfl rfl (fun hc => ?_) (fun hc => ?_)) | refine goI ?_ | (refine Cw.k_cond ?_; first | (refine Cw.cond_dec rfl (fun hc => ?_) (fun hc => ?_) <;> try (exfalso; omega)) | refine Cw.cond_bool rfl (fun hc => ?_) (fun hc => ?_)) | (refine Ops.k_calla ?_; first | (refine Ops.k_callf 38 ?_; refine Ops.callV (out_t n 0 (intRows o.pr).length (by omega)) (Evs.cons rfl (Evs.cons rfl (Evs.cons rfl Evs.nil))) rfl ?_)) | fail)
        exact Fin.ret Ent.refl (Outs.one rfl rfl) ⟨rfl, congrArg Tr.int hfin.symm⟩
      · have hb3 : (o.pr.length : Int) < n := by omega
        repeat' (first | refine goH ?_ | refine goV ?_ | refine goG ?_ | (refine Ops.k_guard ?_; first | (refine Ops.guard_dec rfl rfl (fun hc => ?_) (fun hc => ?_) <;> try (exfalso; omega)) | refine Ops.guard_split rfl rfl (fun hc => ?_) (fun hc => ?_)) | refine goI ?_ | (refine Cw.k_cond ?_; first | (refine Cw.cond_dec rfl (fun hc => ?_) (fun hc => ?_) <;> try (exfalso; omega)) | refine Cw.cond_bool rfl (fun hc => ?_) (fun hc => ?_)) | (refine Ops.k_calla ?_; first | (refine Ops.k_callf 38 ?_; refine Ops.callV (out_t n 0 (intRows o.pr).length (by omega)) (Evs.cons rfl (Evs.cons rfl (Evs.cons rfl Evs.nil))) rfl ?_)) | fail)
        exact Fin.ret Ent.refl (Outs.one rfl rfl) ⟨rfl, congrArg Tr.int hfin.symm⟩
    · rw [if_neg hb] at he
      repeat' (first | refine goH ?_ | refine goV ?_ | refine goG ?_ | (refine Ops.k_guard ?_; first | (refine Ops.guard_dec rfl rfl (fun hc => ?_) (fun hc => ?_) <;> try (exfalso; omega)) | refine Ops.guard_split rfl rfl (fun hc => ?_) (fun hc => ?_)) | refine goI ?_ | (refine Cw.k_cond ?_; first | (refine Cw.cond_dec rfl (fun hc => ?_) (fun hc => ?_) <;> try (exfalso; omega)) | refine Cw.cond_bool rfl (fun hc => ?_) (fun hc => ?_)) | (refine Ops.k_calla ?_; first | (refine Ops.k_callf 38 ?_; refine Ops.callV (out_f n 0 (intRows o.pr).length (by omega)) (Evs.cons rfl (Evs.cons rfl (Evs.cons rfl Evs.nil))) rfl ?_)) | fail)
      exact ⟨_, _, _, (Ent.mk goSub goTk), ⟨k + 1, rfl, ⟨by omega, hV.trans (firstE_ok hkl he)⟩, rfl, rfl⟩, by omega⟩
  · repeat' (first | refine goH ?_ | refine goV ?_ | refine goG ?_ | (refine Ops.k_guard ?_; first | (refine Ops.guard_dec rfl rfl (fun hc => ?_) (fun hc => ?_) <;> try (exfalso; omega)) | refine Ops.guard_split rfl rfl (fun hc => ?_) (fun hc => ?_)) | refine goI ?_ | (refine Cw.k_cond ?_; first | (refine Cw.cond_dec rfl (fun hc => ?_) (fun hc => ?_) <;> try (exfalso; omega)) | refine Cw.cond_bool rfl (fun hc => ?_) (fun hc => ?_)) | fail)
    refine Fin.ret Ent.refl (Outs.one rfl rfl) ⟨rfl, congrArg Tr.int ?_⟩
    rw [hV, firstE_end hkl]

def sumL (l : List Int) : Int := sumF (fun x => x) l
theorem sumL_bd {l : List Int} (h : ∀ n ∈ l, -1000000 ≤ n ∧ n ≤ 1000000) : -(1000000 * (l.length : Int)) ≤ sumL l ∧ sumL l ≤ 1000000 * (l.length : Int) := by
  induction l with
  | nil => simp [sumL, sumF]
  | cons x l ih =>
    have h1 := h x (by simp)
    have h2 := ih fun n hn => h n (List.mem_cons_of_mem _ hn)
    unfold sumL at *
    rw [sumF_cons, List.length_cons]
    omega
theorem intRows_take (l : List Int) (n : Nat) : (intRows l).take n = intRows (l.take n) := by unfold intRows; rw [List.map_take]
theorem used_fn (o : Offer) (n : Nat) (hn : n ≤ o.pr.length) (hl : o.pr.length ≤ 1000) (hb : ∀ n ∈ o.pr, -1000000 ≤ n ∧ n ≤ 1000000) : PFn Tryd.prog 70 [.agg o.row, .int n] (· = .int (sumL (o.pr.take n))) := by
  have hP := intRows_len o.pr
  have ht := intRows_take o.pr n
  refine PFn.mk (Spec.body Tryd.func70 rfl rfl (Tryd.ntmps70) rfl fun w0 own0 M => ?_)
  unfold Offer.row
  repeat' (first | refine goH ?_ | refine goV ?_ | refine goB (fun b => ?_) | refine goI ?_ | (refine Cw.k_cond ?_; first | (refine Cw.cond_dec rfl (fun hc => ?_) (fun hc => ?_) <;> try (exfalso; omega)) | refine Cw.cond_bool rfl (fun hc => ?_) (fun hc => ?_)) | fail)
  rw [Int.toNat_natCast, ht]
  have hb' : ∀ x ∈ o.pr.take n, -1000000 ≤ x ∧ x ≤ 1000000 := fun x hx => hb x (List.mem_of_mem_take hx)
  have hT : (o.pr.take n).length = n := by rw [List.length_take]; omega
  generalize o.pr.take n = t at *
  have hTL := intRows_len t
  refine Cw.loopI [(11, _), (12, _)] _ (fun q e cc => ∃ (k : Nat) (s : Int), q = t.length - k ∧ (k ≤ t.length ∧ s + sumL (t.drop k) = sumL t ∧ -(1000000 * (k : Int)) ≤ s ∧ s ≤ 1000000 * (k : Int)) ∧ e = [(5, .int s), (13, .int k)] ∧ cc = []) ⟨_, _, _, (Ent.mkP goSub goPm), 0, 0, rfl, ⟨by omega, by simp, by omega, by omega⟩, rfl, rfl⟩ ?_
  rintro _ _ _ ⟨k, s, rfl, ⟨hk, hV, b1, b2⟩, rfl, rfl⟩
  by_cases hkl : k < t.length
  · obtain ⟨x, hx⟩ := at_lt hkl
    have hrow := intRows_at hx
    have hxb := hb' x (List.mem_of_getElem? hx)
    rw [drop_at hx, sumL, sumF_cons, ← sumL] at hV
    repeat' (first | refine goH ?_ | refine goV ?_ | refine goB (fun b => ?_) | refine goI ?_ | (refine Cw.k_cond ?_; first | (refine Cw.cond_dec rfl (fun hc => ?_) (fun hc => ?_) <;> try (exfalso; omega)) | refine Cw.cond_bool rfl (fun hc => ?_) (fun hc => ?_)) | fail)
    exact ⟨_, _, _, (Ent.mk goSub goTk), ⟨k + 1, _, rfl, ⟨by omega, by omega, by omega, by omega⟩, rfl, rfl⟩, by omega⟩
  · rw [List.drop_eq_nil_of_le (by omega), sumL, sumF] at hV
    repeat' (first | refine goH ?_ | refine goV ?_ | refine goB (fun b => ?_) | refine goI ?_ | (refine Cw.k_cond ?_; first | (refine Cw.cond_dec rfl (fun hc => ?_) (fun hc => ?_) <;> try (exfalso; omega)) | refine Cw.cond_bool rfl (fun hc => ?_) (fun hc => ?_)) | fail)
    exact Fin.ret (Ent.take goTk) (Outs.one rfl rfl) ⟨rfl, congrArg Tr.int (by omega)⟩

def worthL : List Offer → List Int → Int
  | o :: l, n :: c => sumL (o.pr.take n.toNat) + worthL l c
  | _, _ => 0
def worthE (l : List Offer) (c : List Int) : Int := if offersE l ≠ 0 then offersE l else cntsE l c
theorem cntsE_at {l : List Offer} {c : List Int} (h : cntsE l c = 0) : c.length = l.length ∧ ∀ (k : Nat) (n : Int) (o : Offer), c[k]? = some n → l[k]? = some o → 0 ≤ n ∧ n ≤ o.pr.length := by
  unfold cntsE at h
  split at h
  · omega
  · refine ⟨by omega, fun k n o hn ho => ?_⟩
    have := firstE_zero h k (Nat.zero_le _) (by have := (List.getElem?_eq_some_iff.1 hn).1; omega)
    unfold cE at this
    rw [hn, ho] at this
    simp only at this
    split at this
    · omega
    · omega
theorem worth_fn (l : List Offer) (hl : OBd l) (c : List Int) (hc : c.length ≤ 1000) : PFn Tryd.prog 40 [.offers l, .ints c] (· = .tup [.int (if worthE l c ≠ 0 then 0 else worthL l c), .int (worthE l c)]) := by
  have k1 := checkOffers_fn l hl
  have k2 := countsFault_fn l hl c hc
  have k3 := cmpOr_fn [offersE l] (by simp)
  rw [show orI [offersE l] = offersE l by rw [orI_cons]; by_cases h : offersE l = 0 <;> simp [orI, h]] at k3
  have hL : (l.map Offer.row).length = l.length := List.length_map _
  have hC := intRows_len c
  refine PFn.mk (Spec.body Tryd.func40 rfl rfl (Tryd.ntmps40) rfl fun w0 own0 M => ?_)
  by_cases h1 : offersE l ≠ 0
  · have e : worthE l c = offersE l := by unfold worthE; rw [if_pos h1]
    rw [e, if_pos h1]
    generalize offersE l = oe at *
    repeat' (first | refine goH ?_ | refine goV ?_ | refine goB (fun b => ?_) | refine goI ?_ | (refine Cw.k_cond ?_; first | (refine Cw.cond_dec rfl (fun hc => ?_) (fun hc => ?_) <;> try (exfalso; omega)) | refine Cw.cond_bool rfl (fun hc => ?_) (fun hc => ?_)) | (refine Ops.k_calla ?_; first | (refine Ops.k_callf 69 ?_; refine Ops.callV k1 (Evs.cons rfl Evs.nil) rfl ?_) | (refine Ops.k_callf 46 ?_; refine Ops.callV k2 (Evs.cons rfl (Evs.cons rfl Evs.nil)) rfl ?_) | (refine Ops.k_callf 68 ?_; refine Ops.callV k3 (Evs.cons rfl Evs.nil) rfl ?_)) | (apply OpW.k_call; first | (apply OpW.k_callf 69; exact OpW.callV k1 (Evs.cons rfl Evs.nil)) | (apply OpW.k_callf 46; exact OpW.callV k2 (Evs.cons rfl (Evs.cons rfl Evs.nil))) | (apply OpW.k_callf 68; exact OpW.callV k3 (Evs.cons rfl Evs.nil))) | refine goR ?_ | refine goP ?_ | apply PSeq.cons | apply PSeq.yes rfl rfl rfl | exact goW | fail)
    refine Fin.ret (Ent.take goTk) (Outs.many rfl (OutL.cons goOe (OutL.cons goOe OutL.nil)) rfl) ⟨rfl, rfl⟩
  have e : worthE l c = cntsE l c := by unfold worthE; rw [if_neg h1]
  rw [e]
  have h10 : offersE l = 0 := by omega
  rw [h10] at k1 k3
  by_cases h2 : cntsE l c ≠ 0
  · rw [if_pos h2]
    generalize cntsE l c = ce at *
    repeat' (first | refine goH ?_ | refine goV ?_ | refine goB (fun b => ?_) | refine goI ?_ | (refine Cw.k_cond ?_; first | (refine Cw.cond_dec rfl (fun hc => ?_) (fun hc => ?_) <;> try (exfalso; omega)) | refine Cw.cond_bool rfl (fun hc => ?_) (fun hc => ?_)) | (refine Ops.k_calla ?_; first | (refine Ops.k_callf 69 ?_; refine Ops.callV k1 (Evs.cons rfl Evs.nil) rfl ?_) | (refine Ops.k_callf 46 ?_; refine Ops.callV k2 (Evs.cons rfl (Evs.cons rfl Evs.nil)) rfl ?_) | (refine Ops.k_callf 68 ?_; refine Ops.callV k3 (Evs.cons rfl Evs.nil) rfl ?_)) | (apply OpW.k_call; first | (apply OpW.k_callf 69; exact OpW.callV k1 (Evs.cons rfl Evs.nil)) | (apply OpW.k_callf 46; exact OpW.callV k2 (Evs.cons rfl (Evs.cons rfl Evs.nil))) | (apply OpW.k_callf 68; exact OpW.callV k3 (Evs.cons rfl Evs.nil))) | refine goR ?_ | refine goP ?_ | apply PSeq.cons | apply PSeq.yes rfl rfl rfl | exact goW | fail)
    refine Fin.ret (Ent.take goTk) (Outs.many rfl (OutL.cons goOe (OutL.cons goOe OutL.nil)) rfl) ⟨rfl, rfl⟩
  have h20 : cntsE l c = 0 := by omega
  rw [if_neg h2, h20]
  rw [h20] at k2
  obtain ⟨hcl, hca⟩ := cntsE_at h20
  have hll := offersE_len h10
  repeat' (first | refine goH ?_ | refine goV ?_ | refine goB (fun b => ?_) | refine goI ?_ | (refine Cw.k_cond ?_; first | (refine Cw.cond_dec rfl (fun hc => ?_) (fun hc => ?_) <;> try (exfalso; omega)) | refine Cw.cond_bool rfl (fun hc => ?_) (fun hc => ?_)) | (refine Ops.k_calla ?_; first | (refine Ops.k_callf 69 ?_; refine Ops.callV k1 (Evs.cons rfl Evs.nil) rfl ?_) | (refine Ops.k_callf 46 ?_; refine Ops.callV k2 (Evs.cons rfl (Evs.cons rfl Evs.nil)) rfl ?_) | (refine Ops.k_callf 68 ?_; refine Ops.callV k3 (Evs.cons rfl Evs.nil) rfl ?_)) | (apply OpW.k_call; first | (apply OpW.k_callf 69; exact OpW.callV k1 (Evs.cons rfl Evs.nil)) | (apply OpW.k_callf 46; exact OpW.callV k2 (Evs.cons rfl (Evs.cons rfl Evs.nil))) | (apply OpW.k_callf 68; exact OpW.callV k3 (Evs.cons rfl Evs.nil))) | refine goR ?_ | refine goP ?_ | apply PSeq.cons | apply PSeq.yes rfl rfl rfl | exact goW | fail)
  refine Cw.loopI [(1, _), (24, _), (25, _)] _ (fun q e cc => ∃ (k : Nat) (s : Int), q = l.length - k ∧ (k ≤ l.length ∧ s + worthL (l.drop k) (c.drop k) = worthL l c ∧ -(10000000 * (k : Int)) ≤ s ∧ s ≤ 10000000 * (k : Int)) ∧ e = [(8, .int s), (26, .int k)] ∧ cc = []) ⟨_, _, _, (Ent.mkP goSub goPm), 0, 0, rfl, ⟨by omega, by simp, by omega, by omega⟩, rfl, rfl⟩ ?_
  rintro _ _ _ ⟨k, s, rfl, ⟨hk, hV, b1, b2⟩, rfl, rfl⟩
  by_cases hkl : k < l.length
  · obtain ⟨o, ho⟩ := at_lt hkl
    obtain ⟨n, hn⟩ := at_lt (l := c) (k := k) (by omega)
    have hrow := intRows_at hn
    have hrow2 : (l.map Offer.row)[((k : Nat) : Int).toNat]? = some o.row := rows_at ho
    obtain ⟨hn1, hn2⟩ := hca k n o hn ho
    obtain ⟨⟨_, hp1⟩, hp2⟩ := prE_ok (offersE_at h10 ho).2.2
    obtain ⟨m, rfl⟩ := Int.eq_ofNat_of_zero_le hn1
    have k4 := used_fn o m (by omega) (by omega) hp2
    have hsb := sumL_bd (l := o.pr.take m) fun x hx => hp2 x (List.mem_of_mem_take hx)
    rw [show (o.pr.take m).length = m by rw [List.length_take]; omega] at hsb
    rw [drop_at ho, drop_at hn, worthL, Int.toNat_natCast] at hV
    unfold Offer.row at *
    generalize sumL (o.pr.take m) = u at *
    repeat' (first | refine goH ?_ | refine goV ?_ | refine goB (fun b => ?_) | refine goI ?_ | (refine Cw.k_cond ?_; first | (refine Cw.cond_dec rfl (fun hc => ?_) (fun hc => ?_) <;> try (exfalso; omega)) | refine Cw.cond_bool rfl (fun hc => ?_) (fun hc => ?_)) | (refine Ops.k_calla ?_; first | (refine Ops.k_callf 70 ?_; refine Ops.callV k4 (Evs.cons rfl (Evs.cons rfl Evs.nil)) rfl ?_)) | (apply OpW.k_call; first | (apply OpW.k_callf 70; exact OpW.callV k4 (Evs.cons rfl (Evs.cons rfl Evs.nil)))) | refine goR ?_ | refine goP ?_ | apply PSeq.cons | apply PSeq.yes rfl rfl rfl | exact goW | fail)
    exact ⟨_, _, _, (Ent.mk goSub goTk), ⟨k + 1, _, rfl, ⟨by omega, by omega, by omega, by omega⟩, rfl, rfl⟩, by omega⟩
  · rw [List.drop_eq_nil_of_le (by omega), show worthL [] (c.drop k) = 0 by unfold worthL; rfl] at hV
    repeat' (first | refine goH ?_ | refine goV ?_ | refine goB (fun b => ?_) | refine goI ?_ | (refine Cw.k_cond ?_; first | (refine Cw.cond_dec rfl (fun hc => ?_) (fun hc => ?_) <;> try (exfalso; omega)) | refine Cw.cond_bool rfl (fun hc => ?_) (fun hc => ?_)) | refine goR ?_ | refine goP ?_ | apply PSeq.cons | apply PSeq.yes rfl rfl rfl | exact goW | fail)
    refine Fin.ret (Ent.take goTk) (Outs.many rfl (OutL.cons goOe (OutL.cons goOe OutL.nil)) rfl) ⟨rfl, ?_⟩
    rw [show s = worthL l c by omega]
theorem shelves_fn : PFn Tryd.prog 12 [] (· = .bool true) := by
  have h := worth_fn [⟨⟨#[97]⟩, ⟨#[103]⟩, [5], [], []⟩] ⟨by simp, by simp⟩ [1] (by simp)
  have e1 : offersE [⟨⟨#[97]⟩, ⟨#[103]⟩, [5], [], []⟩] = 0 := by decide +kernel
  have e2 : cntsE [⟨⟨#[97]⟩, ⟨#[103]⟩, [5], [], []⟩] [1] = 0 := by decide +kernel
  have e4 : worthL [⟨⟨#[97]⟩, ⟨#[103]⟩, [5], [], []⟩] [1] = 5 := by decide +kernel
  have e3 : worthE [⟨⟨#[97]⟩, ⟨#[103]⟩, [5], [], []⟩] [1] = 0 := by unfold worthE; rw [if_neg (by omega)]; exact e2
  rw [e3, e4] at h
  refine PFn.mk (Spec.body Tryd.func12 rfl rfl (Tryd.ntmps12) rfl fun w0 own0 M => ?_)
  repeat' (first | refine goH ?_ | refine goV ?_ | refine goG ?_ | (refine Ops.k_guard ?_; first | (refine Ops.guard_dec rfl rfl (fun hc => ?_) (fun hc => ?_) <;> try (exfalso; omega)) | refine Ops.guard_split rfl rfl (fun hc => ?_) (fun hc => ?_)) | refine goI ?_ | (refine Cw.k_cond ?_; first | (refine Cw.cond_dec rfl (fun hc => ?_) (fun hc => ?_) <;> try (exfalso; omega)) | refine Cw.cond_bool rfl (fun hc => ?_) (fun hc => ?_)) | (refine Ops.k_calla ?_; first | (refine Ops.k_callf 40 ?_; refine Ops.callV h (Evs.cons rfl (Evs.cons rfl Evs.nil)) rfl ?_)) | fail)
  refine Ops.ent (Ent.imp (s := 6) rfl (Imp.sl1 (row' := [Tr.str ⟨#[97]⟩, Tr.str ⟨#[103]⟩, .ints [5], .strs [], .strs []]) (.cons Imp.refl (.cons Imp.refl (.cons Imp.refl (.cons Imp.nil (.cons Imp.nil .nil))))))) ?_
  repeat' (first | refine goH ?_ | refine goV ?_ | refine goG ?_ | (refine Ops.k_guard ?_; first | (refine Ops.guard_dec rfl rfl (fun hc => ?_) (fun hc => ?_) <;> try (exfalso; omega)) | refine Ops.guard_split rfl rfl (fun hc => ?_) (fun hc => ?_)) | refine goI ?_ | (refine Cw.k_cond ?_; first | (refine Cw.cond_dec rfl (fun hc => ?_) (fun hc => ?_) <;> try (exfalso; omega)) | refine Cw.cond_bool rfl (fun hc => ?_) (fun hc => ?_)) | (refine Ops.k_calla ?_; first | (refine Ops.k_callf 40 ?_; refine Ops.callV h (Evs.cons rfl (Evs.cons rfl Evs.nil)) rfl ?_)) | fail)
  exact Fin.ret (Ent.take goTk) (Outs.one rfl rfl) ⟨rfl, rfl⟩
end Lg
