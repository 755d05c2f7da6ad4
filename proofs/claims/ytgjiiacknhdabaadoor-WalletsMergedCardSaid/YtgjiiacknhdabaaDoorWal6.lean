/- A part of the proof of a law of this seat: it adds no condition. By an AI agent. -/
import Derived.Test.YtgjiiacknhdabaaDoorCmpOr
import Derived.Test.YtgjiiacknhdabaaDoorWal5
import Derived.Test.YtgjiiacknhdabaaDoorEqS
set_option linter.all false
set_option maxRecDepth 100000
set_option maxHeartbeats 8000000
namespace Lg
open Go Go.Proofs

theorem drop_ne {a b : List ByteArray} {k : Nat} {x y : ByteArray} (h1 : a[k]? = some x) (h2 : b[k]? = some y) (h : x ≠ y) : a ≠ b := by
  rintro rfl
  rw [h1] at h2
  exact h (Option.some.inj h2)
theorem equalStrs_fn (a b : List ByteArray) (ha : a.length ≤ 1000000) (hb : b.length ≤ 1000000) : PFn Tryd.prog 43 [.strs a, .strs b] (· = .bool (decide (a = b))) := by
  refine PFn.mk (Spec.body Tryd.func43 rfl rfl (Tryd.ntmps43) rfl fun w0 own0 M => ?_)
  have hA := strRows_len a
  have hB := strRows_len b
  by_cases hl : a.length = b.length
  rotate_left
  · have e : decide (a = b) = false := decide_eq_false (fun e => hl (by rw [e]))
    repeat' (first | refine goH ?_ | refine goV ?_ | refine goI ?_ | (refine Cw.k_cond ?_; first | (refine Cw.cond_dec rfl (fun hc => ?_) (fun hc => ?_) <;> try (exfalso; omega)) | refine Cw.cond_bool rfl (fun hc => ?_) (fun hc => ?_)) | refine goR ?_ | refine goP ?_ | apply PSeq.cons | apply PSeq.yes rfl rfl rfl | exact goW | fail)
    exact Fin.ret (Ent.take (by repeat' (first | exact Take.nil | refine Take.cons (by first | exact pick0 | (apply pickS; first | exact pick0 | (apply pickS; first | exact pick0 | (apply pickS; first | exact pick0 | (apply pickS; first | exact pick0 | (apply pickS; first | exact pick0 | (apply pickS; first | exact pick0 | (apply pickS; first | exact pick0 | (apply pickS; first | exact pick0 | (apply pickS; first | exact pick0 | (apply pickS; exact pick0))))))))))) ?_))) (Outs.one rfl rfl) ⟨rfl, congrArg Tr.bool e.symm⟩
  repeat' (first | refine goH ?_ | refine goV ?_ | refine goI ?_ | (refine Cw.k_cond ?_; first | (refine Cw.cond_dec rfl (fun hc => ?_) (fun hc => ?_) <;> try (exfalso; omega)) | refine Cw.cond_bool rfl (fun hc => ?_) (fun hc => ?_)) | refine goR ?_ | refine goP ?_ | apply PSeq.cons | apply PSeq.yes rfl rfl rfl | exact goW | fail)
  refine Cw.loopI [(0, _), (1, _), (11, _), (12, _)] _ (fun q e cc => ∃ (k : Nat), q = a.length - k ∧ (k ≤ a.length ∧ ∀ j, j < k → a[j]? = b[j]?) ∧ e = [(13, .int k)] ∧ cc = []) ⟨_, _, _, (Ent.mkP (by repeat' (first | exact Sub.nil | refine Sub.cons rfl ?_)) (by repeat' (first | exact List.Perm.refl _ | refine Perm.cons' (by first | exact pick0 | (apply pickS; first | exact pick0 | (apply pickS; first | exact pick0 | (apply pickS; first | exact pick0 | (apply pickS; first | exact pick0 | (apply pickS; first | exact pick0 | (apply pickS; first | exact pick0 | (apply pickS; first | exact pick0 | (apply pickS; first | exact pick0 | (apply pickS; first | exact pick0 | (apply pickS; exact pick0))))))))))) ?_))), 0, rfl, ⟨by omega, fun j h => absurd h (by omega)⟩, rfl, rfl⟩ ?_
  rintro _ _ _ ⟨k, rfl, ⟨hk, hV⟩, rfl, rfl⟩
  by_cases hkl : k < a.length
  · obtain ⟨x, hx⟩ := at_lt hkl
    obtain ⟨y, hy⟩ := at_lt (l := b) (k := k) (by omega)
    have hr1 := strRows_at hx
    have hr2 := strRows_at hy
    by_cases hxy : x = y
    · have nx : ∀ j, j < k + 1 → a[j]? = b[j]? := by
        intro j hj
        by_cases e : j = k
        · subst e; rw [hx, hy, hxy]
        · exact hV j (by omega)
      subst hxy
      clear hV
      repeat' (first | refine goH ?_ | refine goV ?_ | refine goI ?_ | (refine Cw.k_cond ?_; first | (refine Cw.cond_dec rfl (fun hc => ?_) (fun hc => ?_) <;> try (exfalso; omega)) | refine Cw.cond_bool rfl (fun hc => ?_) (fun hc => ?_)) | refine goR ?_ | refine goP ?_ | apply PSeq.cons | apply PSeq.yes rfl rfl rfl | exact goW | fail)
      all_goals first | exact ⟨_, _, _, (Ent.mk (by repeat' (first | exact Sub.nil | refine Sub.cons rfl ?_)) (by repeat' (first | exact Take.nil | refine Take.cons (by first | exact pick0 | (apply pickS; first | exact pick0 | (apply pickS; first | exact pick0 | (apply pickS; first | exact pick0 | (apply pickS; first | exact pick0 | (apply pickS; first | exact pick0 | (apply pickS; first | exact pick0 | (apply pickS; first | exact pick0 | (apply pickS; first | exact pick0 | (apply pickS; first | exact pick0 | (apply pickS; exact pick0))))))))))) ?_))), ⟨k + 1, rfl, ⟨by omega, nx⟩, rfl, rfl⟩, by omega⟩ | exact absurd rfl hc
    · have e : decide (a = b) = false := decide_eq_false (drop_ne hx hy hxy)
      clear hV
      repeat' (first | refine goH ?_ | refine goV ?_ | refine goI ?_ | (refine Cw.k_cond ?_; first | (refine Cw.cond_dec rfl (fun hc => ?_) (fun hc => ?_) <;> try (exfalso; omega)) | refine Cw.cond_bool rfl (fun hc => ?_) (fun hc => ?_)) | refine goR ?_ | refine goP ?_ | apply PSeq.cons | apply PSeq.yes rfl rfl rfl | exact goW | fail)
      all_goals first | exact Fin.ret (Ent.take (by repeat' (first | exact Take.nil | refine Take.cons (by first | exact pick0 | (apply pickS; first | exact pick0 | (apply pickS; first | exact pick0 | (apply pickS; first | exact pick0 | (apply pickS; first | exact pick0 | (apply pickS; first | exact pick0 | (apply pickS; first | exact pick0 | (apply pickS; first | exact pick0 | (apply pickS; first | exact pick0 | (apply pickS; first | exact pick0 | (apply pickS; exact pick0))))))))))) ?_))) (Outs.one rfl rfl) ⟨rfl, congrArg Tr.bool e.symm⟩ | (exfalso; simp_all; done)
  · have e : decide (a = b) = true := by
      refine decide_eq_true (List.ext_getElem? fun j => ?_)
      by_cases hj : j < k
      · exact hV j hj
      · rw [List.getElem?_eq_none (by omega), List.getElem?_eq_none (by omega)]
    clear hV
    repeat' (first | refine goH ?_ | refine goV ?_ | refine goI ?_ | (refine Cw.k_cond ?_; first | (refine Cw.cond_dec rfl (fun hc => ?_) (fun hc => ?_) <;> try (exfalso; omega)) | refine Cw.cond_bool rfl (fun hc => ?_) (fun hc => ?_)) | refine goR ?_ | refine goP ?_ | apply PSeq.cons | apply PSeq.yes rfl rfl rfl | exact goW | fail)
    exact Fin.ret (Ent.take (by repeat' (first | exact Take.nil | refine Take.cons (by first | exact pick0 | (apply pickS; first | exact pick0 | (apply pickS; first | exact pick0 | (apply pickS; first | exact pick0 | (apply pickS; first | exact pick0 | (apply pickS; first | exact pick0 | (apply pickS; first | exact pick0 | (apply pickS; first | exact pick0 | (apply pickS; first | exact pick0 | (apply pickS; first | exact pick0 | (apply pickS; exact pick0))))))))))) ?_))) (Outs.one rfl rfl) ⟨rfl, congrArg Tr.bool e.symm⟩
def pairE (a b : Wal) : Int := if orI [walE a, walE b] ≠ 0 then orI [walE a, walE b] else if decide (a.sites = b.sites) = true then 0 else 3
theorem pairE_ok {a b : Wal} (h : pairE a b = 0) : walE a = 0 ∧ walE b = 0 ∧ b.sites = a.sites := by
  unfold pairE at h
  by_cases h1 : orI [walE a, walE b] ≠ 0
  · rw [if_pos h1] at h; exact absurd h h1
  rw [if_neg h1] at h
  by_cases h2 : decide (a.sites = b.sites) = true
  · have h1' : orI [walE a, walE b] = 0 := by omega
    rw [orI_cons] at h1'
    by_cases g : walE a ≠ 0
    · rw [if_pos g] at h1'; exact absurd h1' g
    rw [if_neg g, orI_cons] at h1'
    by_cases g2 : walE b ≠ 0
    · rw [if_pos g2] at h1'; exact absurd h1' g2
    exact ⟨by omega, by omega, (of_decide_eq_true h2).symm⟩
  · rw [if_neg h2] at h; cases h
theorem pairD_fn (a b : Wal) (ha : WBd a) (hb : WBd b) : PFn Tryd.prog 37 [.wal a, .wal b] (· = .int (pairE a b)) := by
  have kA := checkWallet_fn a ha
  have kB := checkWallet_fn b hb
  have n1 := ha.n1
  have n2 := hb.n1
  have kO := cmpOr_fn [walE a, walE b] (by simp)
  have kE := equalStrs_fn a.sites b.sites (by omega) (by omega)
  refine PFn.mk (Spec.body Tryd.func37 rfl rfl (Tryd.ntmps37) rfl fun w0 own0 M => ?_)
  unfold pairE
  by_cases h1 : orI [walE a, walE b] ≠ 0
  · rw [if_pos h1]
    generalize hX : walE a = x at *
    generalize hY : walE b = y at *
    generalize orI [x, y] = o at *
    repeat' (first | refine goH ?_ | refine goV ?_ | refine goB (fun b => ?_) | refine goI ?_ | (refine Cw.k_cond ?_; first | (refine Cw.cond_dec rfl (fun hc => ?_) (fun hc => ?_) <;> try (exfalso; omega)) | refine Cw.cond_bool rfl (fun hc => ?_) (fun hc => ?_)) | (refine Ops.k_calla ?_; first | (refine Ops.k_callf 21 ?_; refine Ops.callV kA (Evs.cons rfl Evs.nil) rfl ?_) | (refine Ops.k_callf 21 ?_; refine Ops.callV kB (Evs.cons rfl Evs.nil) rfl ?_) | (refine Ops.k_callf 60 ?_; refine Ops.callV kO (Evs.cons rfl Evs.nil) rfl ?_)) | (apply OpW.k_call; first | (apply OpW.k_callf 21; exact OpW.callV kA (Evs.cons rfl Evs.nil)) | (apply OpW.k_callf 21; exact OpW.callV kB (Evs.cons rfl Evs.nil)) | (apply OpW.k_callf 60; exact OpW.callV kO (Evs.cons rfl Evs.nil))) | refine goR ?_ | refine goP ?_ | apply PSeq.cons | apply PSeq.yes rfl rfl rfl | exact goW | fail)
    exact Fin.ret (Ent.take (by repeat' (first | exact Take.nil | refine Take.cons (by first | exact pick0 | (apply pickS; first | exact pick0 | (apply pickS; first | exact pick0 | (apply pickS; first | exact pick0 | (apply pickS; first | exact pick0 | (apply pickS; first | exact pick0 | (apply pickS; first | exact pick0 | (apply pickS; first | exact pick0 | (apply pickS; first | exact pick0 | (apply pickS; first | exact pick0 | (apply pickS; exact pick0))))))))))) ?_))) (Outs.one rfl rfl) ⟨rfl, rfl⟩
  · rw [if_neg h1]
    have h0 : orI [walE a, walE b] = 0 := by omega
    rw [h0] at kO
    generalize hX : walE a = x at *
    generalize hY : walE b = y at *
    by_cases h2 : decide (a.sites = b.sites) = true
    · rw [if_pos h2]
      rw [h2] at kE
      repeat' (first | refine goH ?_ | refine goV ?_ | refine goB (fun b => ?_) | refine goI ?_ | (refine Cw.k_cond ?_; first | (refine Cw.cond_dec rfl (fun hc => ?_) (fun hc => ?_) <;> try (exfalso; omega)) | refine Cw.cond_bool rfl (fun hc => ?_) (fun hc => ?_)) | (refine Ops.k_calla ?_; first | (refine Ops.k_callf 21 ?_; refine Ops.callV kA (Evs.cons rfl Evs.nil) rfl ?_) | (refine Ops.k_callf 21 ?_; refine Ops.callV kB (Evs.cons rfl Evs.nil) rfl ?_) | (refine Ops.k_callf 60 ?_; refine Ops.callV kO (Evs.cons rfl Evs.nil) rfl ?_) | (refine Ops.k_callf 43 ?_; refine Ops.callV kE (Evs.cons rfl (Evs.cons rfl Evs.nil)) rfl ?_)) | (apply OpW.k_call; first | (apply OpW.k_callf 21; exact OpW.callV kA (Evs.cons rfl Evs.nil)) | (apply OpW.k_callf 21; exact OpW.callV kB (Evs.cons rfl Evs.nil)) | (apply OpW.k_callf 60; exact OpW.callV kO (Evs.cons rfl Evs.nil)) | (apply OpW.k_callf 43; exact OpW.callV kE (Evs.cons rfl (Evs.cons rfl Evs.nil)))) | refine goR ?_ | refine goP ?_ | apply PSeq.cons | apply PSeq.yes rfl rfl rfl | exact goW | fail)
      exact Fin.ret (Ent.take (by repeat' (first | exact Take.nil | refine Take.cons (by first | exact pick0 | (apply pickS; first | exact pick0 | (apply pickS; first | exact pick0 | (apply pickS; first | exact pick0 | (apply pickS; first | exact pick0 | (apply pickS; first | exact pick0 | (apply pickS; first | exact pick0 | (apply pickS; first | exact pick0 | (apply pickS; first | exact pick0 | (apply pickS; first | exact pick0 | (apply pickS; exact pick0))))))))))) ?_))) (Outs.one rfl rfl) ⟨rfl, rfl⟩
    · rw [if_neg h2]
      have h3 : decide (a.sites = b.sites) = false := by simpa using h2
      rw [h3] at kE
      repeat' (first | refine goH ?_ | refine goV ?_ | refine goB (fun b => ?_) | refine goI ?_ | (refine Cw.k_cond ?_; first | (refine Cw.cond_dec rfl (fun hc => ?_) (fun hc => ?_) <;> try (exfalso; omega)) | refine Cw.cond_bool rfl (fun hc => ?_) (fun hc => ?_)) | (refine Ops.k_calla ?_; first | (refine Ops.k_callf 21 ?_; refine Ops.callV kA (Evs.cons rfl Evs.nil) rfl ?_) | (refine Ops.k_callf 21 ?_; refine Ops.callV kB (Evs.cons rfl Evs.nil) rfl ?_) | (refine Ops.k_callf 60 ?_; refine Ops.callV kO (Evs.cons rfl Evs.nil) rfl ?_) | (refine Ops.k_callf 43 ?_; refine Ops.callV kE (Evs.cons rfl (Evs.cons rfl Evs.nil)) rfl ?_)) | (apply OpW.k_call; first | (apply OpW.k_callf 21; exact OpW.callV kA (Evs.cons rfl Evs.nil)) | (apply OpW.k_callf 21; exact OpW.callV kB (Evs.cons rfl Evs.nil)) | (apply OpW.k_callf 60; exact OpW.callV kO (Evs.cons rfl Evs.nil)) | (apply OpW.k_callf 43; exact OpW.callV kE (Evs.cons rfl (Evs.cons rfl Evs.nil)))) | refine goR ?_ | refine goP ?_ | apply PSeq.cons | apply PSeq.yes rfl rfl rfl | exact goW | fail)
      exact Fin.ret (Ent.take (by repeat' (first | exact Take.nil | refine Take.cons (by first | exact pick0 | (apply pickS; first | exact pick0 | (apply pickS; first | exact pick0 | (apply pickS; first | exact pick0 | (apply pickS; first | exact pick0 | (apply pickS; first | exact pick0 | (apply pickS; first | exact pick0 | (apply pickS; first | exact pick0 | (apply pickS; first | exact pick0 | (apply pickS; first | exact pick0 | (apply pickS; exact pick0))))))))))) ?_))) (Outs.one rfl rfl) ⟨rfl, rfl⟩
theorem pairR_fn (a b : Wal) (ha : WBd a) (hb : WBd b) : PFn Tryd.prog 40 [.wal a, .wal b] (· = .int (pairE a b)) := by
  have kA := walletFault_fn a ha
  have kB := walletFault_fn b hb
  have n1 := ha.n1
  have n2 := hb.n1
  have kO := cmpOr_fn [walE a, walE b] (by simp)
  have kE := equalStrs_fn a.sites b.sites (by omega) (by omega)
  refine PFn.mk (Spec.body Tryd.func40 rfl rfl (Tryd.ntmps40) rfl fun w0 own0 M => ?_)
  unfold pairE
  by_cases h1 : orI [walE a, walE b] ≠ 0
  · rw [if_pos h1]
    generalize hX : walE a = x at *
    generalize hY : walE b = y at *
    generalize orI [x, y] = o at *
    repeat' (first | refine goH ?_ | refine goV ?_ | refine goB (fun b => ?_) | refine goI ?_ | (refine Cw.k_cond ?_; first | (refine Cw.cond_dec rfl (fun hc => ?_) (fun hc => ?_) <;> try (exfalso; omega)) | refine Cw.cond_bool rfl (fun hc => ?_) (fun hc => ?_)) | (refine Ops.k_calla ?_; first | (refine Ops.k_callf 20 ?_; refine Ops.callV kA (Evs.cons rfl Evs.nil) rfl ?_) | (refine Ops.k_callf 20 ?_; refine Ops.callV kB (Evs.cons rfl Evs.nil) rfl ?_) | (refine Ops.k_callf 60 ?_; refine Ops.callV kO (Evs.cons rfl Evs.nil) rfl ?_)) | (apply OpW.k_call; first | (apply OpW.k_callf 20; exact OpW.callV kA (Evs.cons rfl Evs.nil)) | (apply OpW.k_callf 20; exact OpW.callV kB (Evs.cons rfl Evs.nil)) | (apply OpW.k_callf 60; exact OpW.callV kO (Evs.cons rfl Evs.nil))) | refine goR ?_ | refine goP ?_ | apply PSeq.cons | apply PSeq.yes rfl rfl rfl | exact goW | fail)
    exact Fin.ret (Ent.take (by repeat' (first | exact Take.nil | refine Take.cons (by first | exact pick0 | (apply pickS; first | exact pick0 | (apply pickS; first | exact pick0 | (apply pickS; first | exact pick0 | (apply pickS; first | exact pick0 | (apply pickS; first | exact pick0 | (apply pickS; first | exact pick0 | (apply pickS; first | exact pick0 | (apply pickS; first | exact pick0 | (apply pickS; first | exact pick0 | (apply pickS; exact pick0))))))))))) ?_))) (Outs.one rfl rfl) ⟨rfl, rfl⟩
  · rw [if_neg h1]
    have h0 : orI [walE a, walE b] = 0 := by omega
    rw [h0] at kO
    generalize hX : walE a = x at *
    generalize hY : walE b = y at *
    by_cases h2 : decide (a.sites = b.sites) = true
    · rw [if_pos h2]
      rw [h2] at kE
      repeat' (first | refine goH ?_ | refine goV ?_ | refine goB (fun b => ?_) | refine goI ?_ | (refine Cw.k_cond ?_; first | (refine Cw.cond_dec rfl (fun hc => ?_) (fun hc => ?_) <;> try (exfalso; omega)) | refine Cw.cond_bool rfl (fun hc => ?_) (fun hc => ?_)) | (refine Ops.k_calla ?_; first | (refine Ops.k_callf 20 ?_; refine Ops.callV kA (Evs.cons rfl Evs.nil) rfl ?_) | (refine Ops.k_callf 20 ?_; refine Ops.callV kB (Evs.cons rfl Evs.nil) rfl ?_) | (refine Ops.k_callf 60 ?_; refine Ops.callV kO (Evs.cons rfl Evs.nil) rfl ?_) | (refine Ops.k_callf 43 ?_; refine Ops.callV kE (Evs.cons rfl (Evs.cons rfl Evs.nil)) rfl ?_)) | (apply OpW.k_call; first | (apply OpW.k_callf 20; exact OpW.callV kA (Evs.cons rfl Evs.nil)) | (apply OpW.k_callf 20; exact OpW.callV kB (Evs.cons rfl Evs.nil)) | (apply OpW.k_callf 60; exact OpW.callV kO (Evs.cons rfl Evs.nil)) | (apply OpW.k_callf 43; exact OpW.callV kE (Evs.cons rfl (Evs.cons rfl Evs.nil)))) | refine goR ?_ | refine goP ?_ | apply PSeq.cons | apply PSeq.yes rfl rfl rfl | exact goW | fail)
      exact Fin.ret (Ent.take (by repeat' (first | exact Take.nil | refine Take.cons (by first | exact pick0 | (apply pickS; first | exact pick0 | (apply pickS; first | exact pick0 | (apply pickS; first | exact pick0 | (apply pickS; first | exact pick0 | (apply pickS; first | exact pick0 | (apply pickS; first | exact pick0 | (apply pickS; first | exact pick0 | (apply pickS; first | exact pick0 | (apply pickS; first | exact pick0 | (apply pickS; exact pick0))))))))))) ?_))) (Outs.one rfl rfl) ⟨rfl, rfl⟩
    · rw [if_neg h2]
      have h3 : decide (a.sites = b.sites) = false := by simpa using h2
      rw [h3] at kE
      repeat' (first | refine goH ?_ | refine goV ?_ | refine goB (fun b => ?_) | refine goI ?_ | (refine Cw.k_cond ?_; first | (refine Cw.cond_dec rfl (fun hc => ?_) (fun hc => ?_) <;> try (exfalso; omega)) | refine Cw.cond_bool rfl (fun hc => ?_) (fun hc => ?_)) | (refine Ops.k_calla ?_; first | (refine Ops.k_callf 20 ?_; refine Ops.callV kA (Evs.cons rfl Evs.nil) rfl ?_) | (refine Ops.k_callf 20 ?_; refine Ops.callV kB (Evs.cons rfl Evs.nil) rfl ?_) | (refine Ops.k_callf 60 ?_; refine Ops.callV kO (Evs.cons rfl Evs.nil) rfl ?_) | (refine Ops.k_callf 43 ?_; refine Ops.callV kE (Evs.cons rfl (Evs.cons rfl Evs.nil)) rfl ?_)) | (apply OpW.k_call; first | (apply OpW.k_callf 20; exact OpW.callV kA (Evs.cons rfl Evs.nil)) | (apply OpW.k_callf 20; exact OpW.callV kB (Evs.cons rfl Evs.nil)) | (apply OpW.k_callf 60; exact OpW.callV kO (Evs.cons rfl Evs.nil)) | (apply OpW.k_callf 43; exact OpW.callV kE (Evs.cons rfl (Evs.cons rfl Evs.nil)))) | refine goR ?_ | refine goP ?_ | apply PSeq.cons | apply PSeq.yes rfl rfl rfl | exact goW | fail)
      exact Fin.ret (Ent.take (by repeat' (first | exact Take.nil | refine Take.cons (by first | exact pick0 | (apply pickS; first | exact pick0 | (apply pickS; first | exact pick0 | (apply pickS; first | exact pick0 | (apply pickS; first | exact pick0 | (apply pickS; first | exact pick0 | (apply pickS; first | exact pick0 | (apply pickS; first | exact pick0 | (apply pickS; first | exact pick0 | (apply pickS; first | exact pick0 | (apply pickS; exact pick0))))))))))) ?_))) (Outs.one rfl rfl) ⟨rfl, rfl⟩
theorem equalFunc_same (L : List (List Int)) (hL : L.length ≤ 100000) (hl : ∀ l ∈ L, l.length ≤ 1000000) : PFn Tryd.prog 45 [.sl 1 (intsR L), .sl 1 (intsR L), Tr.raw (.func (.func 44) #[] #[])] (· = .bool true) := by
  refine PFn.mk (Spec.body Tryd.func45 rfl rfl (Tryd.ntmps45) rfl fun w0 own0 M => ?_)
  have hR := intsR_len L
  repeat' (first | refine goH ?_ | refine goV ?_ | refine goI ?_ | (refine Cw.k_cond ?_; first | (refine Cw.cond_dec rfl (fun hc => ?_) (fun hc => ?_) <;> try (exfalso; omega)) | refine Cw.cond_bool rfl (fun hc => ?_) (fun hc => ?_)) | fail)
  refine Cw.loopI [(1, _), (2, _), (15, _), (16, _)] _ (fun q e cc => ∃ (k : Nat), q = L.length - k ∧ (k ≤ L.length) ∧ e = [(17, .int k)] ∧ cc = []) ⟨_, _, _, (Ent.mkP (by repeat' (first | exact Sub.nil | refine Sub.cons rfl ?_)) (by repeat' (first | exact List.Perm.refl _ | refine Perm.cons' (by first | exact pick0 | (apply pickS; first | exact pick0 | (apply pickS; first | exact pick0 | (apply pickS; first | exact pick0 | (apply pickS; first | exact pick0 | (apply pickS; first | exact pick0 | (apply pickS; first | exact pick0 | (apply pickS; first | exact pick0 | (apply pickS; first | exact pick0 | (apply pickS; first | exact pick0 | (apply pickS; exact pick0))))))))))) ?_))), 0, rfl, by omega, rfl, rfl⟩ ?_
  rintro _ _ _ ⟨k, rfl, hk, rfl, rfl⟩
  by_cases hkl : k < L.length
  · obtain ⟨l, hx⟩ := at_lt hkl
    have hr1 := intsR_at hx
    have hlb := hl l (List.mem_of_getElem? hx)
    have kE := (equalInts_same l (by omega)).lend
    repeat' (first | refine goH ?_ | refine goV ?_ | refine goI ?_ | (refine Cw.k_cond ?_; first | (refine Cw.cond_dec rfl (fun hc => ?_) (fun hc => ?_) <;> try (exfalso; omega)) | refine Cw.cond_bool rfl (fun hc => ?_) (fun hc => ?_)) | (refine Ops.k_calla ?_; first | refine Ops.callS_fn (caps := []) (args := [.ints l, .ints l]) rfl kE (Evs.cons rfl (Evs.cons rfl Evs.nil)) (List.Perm.refl _) rfl ?_) | fail)
    exact ⟨_, _, _, (Ent.mk (by repeat' (first | exact Sub.nil | refine Sub.cons rfl ?_)) (by repeat' (first | exact Take.nil | refine Take.cons (by first | exact pick0 | (apply pickS; first | exact pick0 | (apply pickS; first | exact pick0 | (apply pickS; first | exact pick0 | (apply pickS; first | exact pick0 | (apply pickS; first | exact pick0 | (apply pickS; first | exact pick0 | (apply pickS; first | exact pick0 | (apply pickS; first | exact pick0 | (apply pickS; first | exact pick0 | (apply pickS; exact pick0))))))))))) ?_))), ⟨k + 1, rfl, by omega, rfl, rfl⟩, by omega⟩
  · repeat' (first | refine goH ?_ | refine goV ?_ | refine goI ?_ | (refine Cw.k_cond ?_; first | (refine Cw.cond_dec rfl (fun hc => ?_) (fun hc => ?_) <;> try (exfalso; omega)) | refine Cw.cond_bool rfl (fun hc => ?_) (fun hc => ?_)) | fail)
    exact Fin.ret (Ent.take (by repeat' (first | exact Take.nil | refine Take.cons (by first | exact pick0 | (apply pickS; first | exact pick0 | (apply pickS; first | exact pick0 | (apply pickS; first | exact pick0 | (apply pickS; first | exact pick0 | (apply pickS; first | exact pick0 | (apply pickS; first | exact pick0 | (apply pickS; first | exact pick0 | (apply pickS; first | exact pick0 | (apply pickS; first | exact pick0 | (apply pickS; exact pick0))))))))))) ?_))) (Outs.one rfl rfl) ⟨rfl, rfl⟩
theorem sameWallet_fn (w : Wal) (h : WBd w) : PFn Tryd.prog 15 [.wal w, .wal w] (· = .bool true) := by
  have n1 := h.n1
  have n2 := h.r
  have n3 := h.u
  have k1 := equalStrs_same w.sites (by omega)
  have k2 := equalInts_same w.used (by omega)
  have k3 := equalFunc_same w.rights (by omega) (fun l hl => by have := h.rr l hl; omega)
  refine PFn.mk (Spec.body Tryd.func15 rfl rfl (Tryd.ntmps15) rfl fun w0 own0 M => ?_)
  repeat' (first | refine goH ?_ | refine goV ?_ | refine goB (fun b => ?_) | refine goG ?_ | (refine Ops.k_guard ?_; first | (refine Ops.guard_dec rfl rfl (fun hc => ?_) (fun hc => ?_) <;> try (exfalso; omega)) | refine Ops.guard_split rfl rfl (fun hc => ?_) (fun hc => ?_)) | refine goI ?_ | (refine Cw.k_cond ?_; first | (refine Cw.cond_dec rfl (fun hc => ?_) (fun hc => ?_) <;> try (exfalso; omega)) | refine Cw.cond_bool rfl (fun hc => ?_) (fun hc => ?_)) | (refine Ops.k_calla ?_; first | (refine Ops.k_callf 43 ?_; refine Ops.callV k1 (Evs.cons rfl (Evs.cons rfl Evs.nil)) rfl ?_) | (refine Ops.k_callf 44 ?_; refine Ops.callV k2 (Evs.cons rfl (Evs.cons rfl Evs.nil)) rfl ?_) | (refine Ops.k_callf 45 ?_; refine Ops.callV k3 (Evs.cons rfl (Evs.cons rfl (Evs.cons rfl Evs.nil))) rfl ?_)) | fail)
  exact Fin.ret (Ent.take (by repeat' (first | exact Take.nil | refine Take.cons (by first | exact pick0 | (apply pickS; first | exact pick0 | (apply pickS; first | exact pick0 | (apply pickS; first | exact pick0 | (apply pickS; first | exact pick0 | (apply pickS; first | exact pick0 | (apply pickS; first | exact pick0 | (apply pickS; first | exact pick0 | (apply pickS; first | exact pick0 | (apply pickS; first | exact pick0 | (apply pickS; exact pick0))))))))))) ?_))) (Outs.one rfl rfl) ⟨rfl, rfl⟩
end Lg
