/- A part of the proof of a law of this seat: it adds no condition. By an AI agent. -/
import Derived.Test.YtgjiiacknhdabaaDoorWal1
import Derived.Test.YtgjiiacknhdabaaDoorRise
set_option linter.all false
set_option maxRecDepth 100000
set_option maxHeartbeats 8000000
namespace Lg
open Go Go.Proofs

def badForm (w : Wal) : Bool := decide (w.rights.length ≠ w.sites.length) || (decide (w.used.length ≠ w.sites.length) || w.rights.any (formB w.sites.length))
def walE (w : Wal) : Int := if sitE w.sites ≠ 0 then sitE w.sites else if badForm w = true then 3 else if (w.rights.flatten ++ w.used).any bC = true then 1 else firstE (rgtE w) 0 w.sites.length
theorem walE_len {w : Wal} (h : sitE w.sites = 0) : w.sites.length ≤ 12 := by
  unfold sitE at h
  split at h
  · omega
  · split at h
    · omega
    · omega
theorem wok_of {w : Wal} (h1 : sitE w.sites = 0) (h2 : badForm w = false) (h3 : (w.rights.flatten ++ w.used).any bC = false) : WOk w := by
  unfold badForm at h2
  simp only [Bool.or_eq_false_iff, decide_eq_false_iff_not] at h2
  obtain ⟨a1, a2, a3⟩ := h2
  have hb := bC_ok h3
  refine ⟨walE_len h1, by omega, by omega, formB_ok a3, fun x hx => hb x (List.mem_append_right _ hx), fun l hl x hx => hb x (List.mem_append_left _ (List.mem_flatten.2 ⟨l, hl, hx⟩))⟩
theorem wok_E {w : Wal} (h : walE w = 0) : WOk w := by
  unfold walE at h
  by_cases h1 : sitE w.sites ≠ 0
  · rw [if_pos h1] at h; exact absurd h h1
  rw [if_neg h1] at h
  cases h2 : badForm w
  · rw [h2, if_neg (by decide)] at h
    cases h3 : (w.rights.flatten ++ w.used).any bC
    · exact wok_of (by omega) h2 h3
    · rw [h3, if_pos rfl] at h; cases h
  · rw [h2, if_pos rfl] at h; cases h
theorem rightsD_fn (w : Wal) (h : WOk w) (i : Nat) (hi : i < w.sites.length) : PFn Tryd.prog 55 [.wal w, .int i] (· = .int (rgt w i)) := by
  have hS := strRows_len w.sites
  have hR := intsR_len w.rights
  have hU := intRows_len w.used
  have n1 := h.n1
  have nr := h.r
  have nu := h.u
  obtain ⟨li, x, e1, e2, e3, b1, b2⟩ := h.at2 hi hi
  obtain ⟨y, u1, u2, b3, b4⟩ := h.us hi
  have r1 := intsR_at e1
  have r2 := intRows_at e2
  have r3 := intRows_at u1
  have hli := h.rr li (List.mem_of_getElem? e1)
  have hlr := intRows_len li
  have g0 : rgtN w.rights w.used i 0 = x - y := by unfold rgtN; rw [e3, u2]
  refine PFn.mk (Spec.body Tryd.func55 rfl rfl (Tryd.ntmps55) rfl fun w0 own0 M => ?_)
  repeat' (first | refine goH ?_ | refine goV ?_ | refine goB (fun b => ?_) | refine goI ?_ | (refine Cw.k_cond ?_; first | (refine Cw.cond_dec rfl (fun hc => ?_) (fun hc => ?_) <;> try (exfalso; omega)) | refine Cw.cond_bool rfl (fun hc => ?_) (fun hc => ?_)) | refine goR ?_ | refine goP ?_ | apply PSeq.cons | apply PSeq.yes rfl rfl rfl | exact goW | fail)
  refine Cw.loopI [(1, _), (2, _), (23, _)] _ (fun q e cc => ∃ (j : Nat) (v : Int), q = w.sites.length - j ∧ (j ≤ w.sites.length ∧ v = rgtN w.rights w.used i j) ∧ e = [(5, .int v), (24, .int j)] ∧ cc = []) ⟨_, _, _, (Ent.mkP (by repeat' (first | exact Sub.nil | refine Sub.cons rfl ?_)) (by repeat' (first | exact List.Perm.refl _ | refine Perm.cons' (by first | exact pick0 | (apply pickS; first | exact pick0 | (apply pickS; first | exact pick0 | (apply pickS; first | exact pick0 | (apply pickS; first | exact pick0 | (apply pickS; first | exact pick0 | (apply pickS; first | exact pick0 | (apply pickS; first | exact pick0 | (apply pickS; first | exact pick0 | (apply pickS; first | exact pick0 | (apply pickS; exact pick0))))))))))) ?_))), 0, x - y, rfl, ⟨by omega, g0.symm⟩, rfl, rfl⟩ ?_
  rintro _ _ _ ⟨j, v, rfl, ⟨hj, hv⟩, rfl, rfl⟩
  by_cases hjl : j < w.sites.length
  rotate_left
  · repeat' (first | refine goH ?_ | refine goV ?_ | refine goB (fun b => ?_) | refine goI ?_ | (refine Cw.k_cond ?_; first | (refine Cw.cond_dec rfl (fun hc => ?_) (fun hc => ?_) <;> try (exfalso; omega)) | refine Cw.cond_bool rfl (fun hc => ?_) (fun hc => ?_)) | refine goR ?_ | refine goP ?_ | apply PSeq.cons | apply PSeq.yes rfl rfl rfl | exact goW | fail)
    refine Fin.ret (Ent.take (by repeat' (first | exact Take.nil | refine Take.cons (by first | exact pick0 | (apply pickS; first | exact pick0 | (apply pickS; first | exact pick0 | (apply pickS; first | exact pick0 | (apply pickS; first | exact pick0 | (apply pickS; first | exact pick0 | (apply pickS; first | exact pick0 | (apply pickS; first | exact pick0 | (apply pickS; first | exact pick0 | (apply pickS; first | exact pick0 | (apply pickS; exact pick0))))))))))) ?_))) (Outs.one rfl rfl) ⟨rfl, congrArg Tr.int ?_⟩
    rw [hv, show j = w.sites.length by omega]
    rfl
  have bd := rgtN_bd h hi j hj
  rw [← hv] at bd
  by_cases hji : j = i
  · have nx : v = rgtN w.rights w.used i (j + 1) := by rw [hv]; rw [rgtN]; rw [if_pos hji]
    repeat' (first | refine goH ?_ | refine goV ?_ | refine goB (fun b => ?_) | refine goI ?_ | (refine Cw.k_cond ?_; first | (refine Cw.cond_dec rfl (fun hc => ?_) (fun hc => ?_) <;> try (exfalso; omega)) | refine Cw.cond_bool rfl (fun hc => ?_) (fun hc => ?_)) | refine goR ?_ | refine goP ?_ | apply PSeq.cons | apply PSeq.yes rfl rfl rfl | exact goW | fail)
    exact ⟨_, _, _, (Ent.mk (by repeat' (first | exact Sub.nil | refine Sub.cons rfl ?_)) (by repeat' (first | exact Take.nil | refine Take.cons (by first | exact pick0 | (apply pickS; first | exact pick0 | (apply pickS; first | exact pick0 | (apply pickS; first | exact pick0 | (apply pickS; first | exact pick0 | (apply pickS; first | exact pick0 | (apply pickS; first | exact pick0 | (apply pickS; first | exact pick0 | (apply pickS; first | exact pick0 | (apply pickS; first | exact pick0 | (apply pickS; exact pick0))))))))))) ?_))), ⟨j + 1, v, rfl, ⟨by omega, nx⟩, rfl, rfl⟩, by omega⟩
  · obtain ⟨lj, p, f1, f2, f3, c1, c2⟩ := h.at2 hjl hi
    obtain ⟨li', q, f4, f5, f6, c3, c4⟩ := h.at2 hi hjl
    rw [e1] at f4
    cases f4
    have r4 := intsR_at f1
    have r5 := intRows_at f2
    have r6 := intRows_at f5
    have hlj := h.rr lj (List.mem_of_getElem? f1)
    have hljr := intRows_len lj
    have nx : v + (p - q) = rgtN w.rights w.used i (j + 1) := by rw [hv]; conv => rhs; rw [rgtN]
                                                                 rw [if_neg hji, f3, f6]
    repeat' (first | refine goH ?_ | refine goV ?_ | refine goB (fun b => ?_) | refine goI ?_ | (refine Cw.k_cond ?_; first | (refine Cw.cond_dec rfl (fun hc => ?_) (fun hc => ?_) <;> try (exfalso; omega)) | refine Cw.cond_bool rfl (fun hc => ?_) (fun hc => ?_)) | refine goR ?_ | refine goP ?_ | apply PSeq.cons | apply PSeq.yes rfl rfl rfl | exact goW | fail)
    exact ⟨_, _, _, (Ent.mk (by repeat' (first | exact Sub.nil | refine Sub.cons rfl ?_)) (by repeat' (first | exact Take.nil | refine Take.cons (by first | exact pick0 | (apply pickS; first | exact pick0 | (apply pickS; first | exact pick0 | (apply pickS; first | exact pick0 | (apply pickS; first | exact pick0 | (apply pickS; first | exact pick0 | (apply pickS; first | exact pick0 | (apply pickS; first | exact pick0 | (apply pickS; first | exact pick0 | (apply pickS; first | exact pick0 | (apply pickS; exact pick0))))))))))) ?_))), ⟨j + 1, _, rfl, ⟨by omega, nx⟩, rfl, rfl⟩, by omega⟩
theorem rightsR_fn (w : Wal) (h : WOk w) (i : Nat) (hi : i < w.sites.length) : PFn Tryd.prog 50 [.wal w, .int i] (· = .int (rgt w i)) := by
  have hS := strRows_len w.sites
  have hR := intsR_len w.rights
  have hU := intRows_len w.used
  have n1 := h.n1
  have nr := h.r
  have nu := h.u
  obtain ⟨li, x, e1, e2, e3, b1, b2⟩ := h.at2 hi hi
  obtain ⟨y, u1, u2, b3, b4⟩ := h.us hi
  have r1 := intsR_at e1
  have r2 := intRows_at e2
  have r3 := intRows_at u1
  have hli := h.rr li (List.mem_of_getElem? e1)
  have hlr := intRows_len li
  have g0 : rgtN w.rights w.used i 0 = x - y := by unfold rgtN; rw [e3, u2]
  refine PFn.mk (Spec.body Tryd.func50 rfl rfl (Tryd.ntmps50) rfl fun w0 own0 M => ?_)
  repeat' (first | refine goH ?_ | refine goV ?_ | refine goB (fun b => ?_) | refine goI ?_ | (refine Cw.k_cond ?_; first | (refine Cw.cond_dec rfl (fun hc => ?_) (fun hc => ?_) <;> try (exfalso; omega)) | refine Cw.cond_bool rfl (fun hc => ?_) (fun hc => ?_)) | refine goR ?_ | refine goP ?_ | apply PSeq.cons | apply PSeq.yes rfl rfl rfl | exact goW | fail)
  refine Cw.loopI [(1, _), (2, _), (23, _)] _ (fun q e cc => ∃ (j : Nat) (v : Int), q = w.sites.length - j ∧ (j ≤ w.sites.length ∧ v = rgtN w.rights w.used i j) ∧ e = [(5, .int v), (24, .int j)] ∧ cc = []) ⟨_, _, _, (Ent.mkP (by repeat' (first | exact Sub.nil | refine Sub.cons rfl ?_)) (by repeat' (first | exact List.Perm.refl _ | refine Perm.cons' (by first | exact pick0 | (apply pickS; first | exact pick0 | (apply pickS; first | exact pick0 | (apply pickS; first | exact pick0 | (apply pickS; first | exact pick0 | (apply pickS; first | exact pick0 | (apply pickS; first | exact pick0 | (apply pickS; first | exact pick0 | (apply pickS; first | exact pick0 | (apply pickS; first | exact pick0 | (apply pickS; exact pick0))))))))))) ?_))), 0, x - y, rfl, ⟨by omega, g0.symm⟩, rfl, rfl⟩ ?_
  rintro _ _ _ ⟨j, v, rfl, ⟨hj, hv⟩, rfl, rfl⟩
  by_cases hjl : j < w.sites.length
  rotate_left
  · repeat' (first | refine goH ?_ | refine goV ?_ | refine goB (fun b => ?_) | refine goI ?_ | (refine Cw.k_cond ?_; first | (refine Cw.cond_dec rfl (fun hc => ?_) (fun hc => ?_) <;> try (exfalso; omega)) | refine Cw.cond_bool rfl (fun hc => ?_) (fun hc => ?_)) | refine goR ?_ | refine goP ?_ | apply PSeq.cons | apply PSeq.yes rfl rfl rfl | exact goW | fail)
    refine Fin.ret (Ent.take (by repeat' (first | exact Take.nil | refine Take.cons (by first | exact pick0 | (apply pickS; first | exact pick0 | (apply pickS; first | exact pick0 | (apply pickS; first | exact pick0 | (apply pickS; first | exact pick0 | (apply pickS; first | exact pick0 | (apply pickS; first | exact pick0 | (apply pickS; first | exact pick0 | (apply pickS; first | exact pick0 | (apply pickS; first | exact pick0 | (apply pickS; exact pick0))))))))))) ?_))) (Outs.one rfl rfl) ⟨rfl, congrArg Tr.int ?_⟩
    rw [hv, show j = w.sites.length by omega]
    rfl
  have bd := rgtN_bd h hi j hj
  rw [← hv] at bd
  by_cases hji : j = i
  · have nx : v = rgtN w.rights w.used i (j + 1) := by rw [hv]; rw [rgtN]; rw [if_pos hji]
    repeat' (first | refine goH ?_ | refine goV ?_ | refine goB (fun b => ?_) | refine goI ?_ | (refine Cw.k_cond ?_; first | (refine Cw.cond_dec rfl (fun hc => ?_) (fun hc => ?_) <;> try (exfalso; omega)) | refine Cw.cond_bool rfl (fun hc => ?_) (fun hc => ?_)) | refine goR ?_ | refine goP ?_ | apply PSeq.cons | apply PSeq.yes rfl rfl rfl | exact goW | fail)
    exact ⟨_, _, _, (Ent.mk (by repeat' (first | exact Sub.nil | refine Sub.cons rfl ?_)) (by repeat' (first | exact Take.nil | refine Take.cons (by first | exact pick0 | (apply pickS; first | exact pick0 | (apply pickS; first | exact pick0 | (apply pickS; first | exact pick0 | (apply pickS; first | exact pick0 | (apply pickS; first | exact pick0 | (apply pickS; first | exact pick0 | (apply pickS; first | exact pick0 | (apply pickS; first | exact pick0 | (apply pickS; first | exact pick0 | (apply pickS; exact pick0))))))))))) ?_))), ⟨j + 1, v, rfl, ⟨by omega, nx⟩, rfl, rfl⟩, by omega⟩
  · obtain ⟨lj, p, f1, f2, f3, c1, c2⟩ := h.at2 hjl hi
    obtain ⟨li', q, f4, f5, f6, c3, c4⟩ := h.at2 hi hjl
    rw [e1] at f4
    cases f4
    have r4 := intsR_at f1
    have r5 := intRows_at f2
    have r6 := intRows_at f5
    have hlj := h.rr lj (List.mem_of_getElem? f1)
    have hljr := intRows_len lj
    have nx : v + (p - q) = rgtN w.rights w.used i (j + 1) := by rw [hv]; conv => rhs; rw [rgtN]
                                                                 rw [if_neg hji, f3, f6]
    repeat' (first | refine goH ?_ | refine goV ?_ | refine goB (fun b => ?_) | refine goI ?_ | (refine Cw.k_cond ?_; first | (refine Cw.cond_dec rfl (fun hc => ?_) (fun hc => ?_) <;> try (exfalso; omega)) | refine Cw.cond_bool rfl (fun hc => ?_) (fun hc => ?_)) | refine goR ?_ | refine goP ?_ | apply PSeq.cons | apply PSeq.yes rfl rfl rfl | exact goW | fail)
    exact ⟨_, _, _, (Ent.mk (by repeat' (first | exact Sub.nil | refine Sub.cons rfl ?_)) (by repeat' (first | exact Take.nil | refine Take.cons (by first | exact pick0 | (apply pickS; first | exact pick0 | (apply pickS; first | exact pick0 | (apply pickS; first | exact pick0 | (apply pickS; first | exact pick0 | (apply pickS; first | exact pick0 | (apply pickS; first | exact pick0 | (apply pickS; first | exact pick0 | (apply pickS; first | exact pick0 | (apply pickS; first | exact pick0 | (apply pickS; exact pick0))))))))))) ?_))), ⟨j + 1, _, rfl, ⟨by omega, nx⟩, rfl, rfl⟩, by omega⟩
end Lg
