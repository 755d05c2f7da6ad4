/- A part of the proof of a law of this seat: it adds no condition. By an AI agent. -/
import Derived.Test.YtflfdomajimpjaaDoorRt14
section
set_option linter.all false
set_option maxRecDepth 100000
set_option maxHeartbeats 8000000
namespace Lg
open Go Go.Proofs

theorem revI_eq (b : List Int) (i j : Nat) : revG i (j + 1 - i) 0 (j + 1 - i) b = revI b i j := rfl
theorem impR_step {l : List Stop} {h : Spot} {s : Int} {n : Nat} {b : List Int} {w : Int} {k : Nat} (hk : k < n) : impR l h s (n - k) (b, w) = if (impI l h s b 0 (b.length - 0) (b, w)).1 = b then impI l h s b 0 (b.length - 0) (b, w) else impR l h s (n - (k + 1)) (impI l h s b 0 (b.length - 0) (b, w)) := by
  obtain ⟨m, hm⟩ : ∃ m, n - k = m + 1 := ⟨n - k - 1, by omega⟩
  rw [hm, impR, show n - (k + 1) = m by omega, Nat.sub_zero]
theorem impR_end {l : List Stop} {h : Spot} {s : Int} {n : Nat} {st : IS} {k : Nat} (hk : ¬ k < n) : impR l h s (n - k) st = st := by
  rw [show n - k = 0 by omega, impR]
attribute [local irreducible] intRows insAt drv drvU drvE ordersE tripE revI impR impI impJ
theorem improveE_fn (h : Spot) (l : List Stop) (s r : Int) (o : List Int) (ht : tripE h l s ≠ 0) (hl : l.length ≤ 1000) (hol : o.length ≤ 100) : PFn Tryd.prog 18 [.agg h.row, .stops l, .int s, .ints o, .int r] (· = .tup [.sl 1 [], .int 0, .int (tripE h l s)]) := by
  have k0 := driveU_fn h l s o hl (by omega)
  unfold drvA at k0
  rw [if_pos ht] at k0
  unfold Spot.row at *
  generalize tripE h l s = E at *
  refine PFn.mk (Spec.body Tryd.func18 rfl rfl (Tryd.ntmps18) rfl fun w0 own0 M => ?_)
  repeat' (first | refine goH ?_ | refine goV ?_ | refine goB (fun b => ?_) | refine goG ?_ | (refine Ops.k_guard ?_; first | (refine Ops.guard_dec rfl rfl (fun hc => ?_) (fun hc => ?_) <;> try (exfalso; omega)) | refine Ops.guard_split rfl rfl (fun hc => ?_) (fun hc => ?_)) | refine goI ?_ | (refine Cw.k_cond ?_; first | (refine Cw.cond_dec rfl (fun hc => ?_) (fun hc => ?_) <;> try (exfalso; omega)) | refine Cw.cond_bool rfl (fun hc => ?_) (fun hc => ?_)) | (refine Ops.k_calla ?_; first | (refine Ops.k_callf 28 ?_; refine Ops.callV k0 (Evs.cons rfl (Evs.cons rfl (Evs.cons rfl (Evs.cons rfl Evs.nil)))) rfl ?_)) | (apply OpW.k_call; first | (apply OpW.k_callf 28; exact OpW.callV k0 (Evs.cons rfl (Evs.cons rfl (Evs.cons rfl (Evs.cons rfl Evs.nil)))))) | refine goR ?_ | refine goP ?_ | apply PSeq.cons | apply PSeq.yes rfl rfl rfl | exact goW | fail)
  refine Fin.ret (Ent.trans (Ent.nilsl 1 (s := 10) rfl) (Ent.take goTk)) (Outs.many rfl (OutL.cons goOe (OutL.cons goOe (OutL.cons goOe OutL.nil))) rfl) ⟨rfl, rfl⟩
theorem improveU_fn (h : Spot) (l : List Stop) (s r : Int) (o : List Int) (ht : tripE h l s = 0) (hrb : -1000000 ≤ r ∧ r ≤ 1000000) (hol : o.length ≤ 100) : PFn Tryd.prog 18 [.agg h.row, .stops l, .int s, .ints o, .int r] (· = impE l h s o r) := by
  have hL : (l.map Stop.row).length = l.length := List.length_map _
  have hl60 := (stops_ok (trip_ok ht).1).1
  have k0 := driveU_fn h l s o (by omega) (by omega)
  unfold drvA at k0
  rw [if_neg (by omega)] at k0
  unfold impE Spot.row at *
  by_cases h1 : drvE l h s o ≠ 0
  · rw [if_pos h1]
    obtain ⟨bs0, e0, W0, q0, hU⟩ := drvU_tup l h s o
    rw [hU] at k0
    clear hU
    generalize drvE l h s o = E at *
    refine PFn.mk (Spec.body Tryd.func18 rfl rfl (Tryd.ntmps18) rfl fun w0 own0 M => ?_)
    repeat' (first | refine goH ?_ | refine goV ?_ | refine goB (fun b => ?_) | refine goG ?_ | (refine Ops.k_guard ?_; first | (refine Ops.guard_dec rfl rfl (fun hc => ?_) (fun hc => ?_) <;> try (exfalso; omega)) | refine Ops.guard_split rfl rfl (fun hc => ?_) (fun hc => ?_)) | refine goI ?_ | (refine Cw.k_cond ?_; first | (refine Cw.cond_dec rfl (fun hc => ?_) (fun hc => ?_) <;> try (exfalso; omega)) | refine Cw.cond_bool rfl (fun hc => ?_) (fun hc => ?_)) | (refine Ops.k_calla ?_; first | (refine Ops.k_callf 28 ?_; refine Ops.callV k0 (Evs.cons rfl (Evs.cons rfl (Evs.cons rfl (Evs.cons rfl Evs.nil)))) rfl ?_)) | (apply OpW.k_call; first | (apply OpW.k_callf 28; exact OpW.callV k0 (Evs.cons rfl (Evs.cons rfl (Evs.cons rfl (Evs.cons rfl Evs.nil)))))) | refine goR ?_ | refine goP ?_ | apply PSeq.cons | apply PSeq.yes rfl rfl rfl | exact goW | fail)
    refine Fin.ret (Ent.trans (Ent.nilsl 1 (s := 10) rfl) (Ent.take goTk)) (Outs.many rfl (OutL.cons goOe (OutL.cons goOe (OutL.cons goOe OutL.nil))) rfl) ⟨rfl, rfl⟩
  rw [if_neg h1]
  have ho0 : ordersE l.length o = 0 := by
    unfold drvE at h1
    by_cases h2 : ordersE l.length o ≠ 0
    · rw [if_pos h2] at h1; exact absurd h2 h1
    · omega
  obtain ⟨bs0, e0, W0, q0, hD⟩ : ∃ bs e w q, drv l h o h s [] 0 0 = some (bs, e, w, q) := by
    unfold drvE at h1
    rw [if_neg (by omega)] at h1
    cases hd : drv l h o h s [] 0 0 with
    | none => rw [hd] at h1; exact absurd (by decide) h1
    | some r => exact ⟨r.1, r.2.1, r.2.2.1, r.2.2.2, rfl⟩
  unfold drvU at k0
  rw [if_neg (by omega), hD] at k0
  unfold drvV at k0
  simp only at k0
  by_cases h2 : r < 0 ∨ 100 < r
  · rw [if_pos h2]
    have kO := out_t r 0 100 h2
    refine PFn.mk (Spec.body Tryd.func18 rfl rfl (Tryd.ntmps18) rfl fun w0 own0 M => ?_)
    repeat' (first | refine goH ?_ | refine goV ?_ | refine goB (fun b => ?_) | refine goG ?_ | (refine Ops.k_guard ?_; first | (refine Ops.guard_dec rfl rfl (fun hc => ?_) (fun hc => ?_) <;> try (exfalso; omega)) | refine Ops.guard_split rfl rfl (fun hc => ?_) (fun hc => ?_)) | refine goI ?_ | (refine Cw.k_cond ?_; first | (refine Cw.cond_dec rfl (fun hc => ?_) (fun hc => ?_) <;> try (exfalso; omega)) | refine Cw.cond_bool rfl (fun hc => ?_) (fun hc => ?_)) | (refine Ops.k_calla ?_; first | (refine Ops.k_callf 28 ?_; refine Ops.callV k0 (Evs.cons rfl (Evs.cons rfl (Evs.cons rfl (Evs.cons rfl Evs.nil)))) rfl ?_) | (refine Ops.k_callf 45 ?_; refine Ops.callV kO (Evs.cons rfl (Evs.cons rfl (Evs.cons rfl Evs.nil))) rfl ?_)) | (apply OpW.k_call; first | (apply OpW.k_callf 28; exact OpW.callV k0 (Evs.cons rfl (Evs.cons rfl (Evs.cons rfl (Evs.cons rfl Evs.nil))))) | (apply OpW.k_callf 45; exact OpW.callV kO (Evs.cons rfl (Evs.cons rfl (Evs.cons rfl Evs.nil))))) | refine goR ?_ | refine goP ?_ | apply PSeq.cons | apply PSeq.yes rfl rfl rfl | exact goW | fail)
    refine Fin.ret (Ent.trans (Ent.nilsl 1 (s := 10) rfl) (Ent.take goTk)) (Outs.many rfl (OutL.cons goOe (OutL.cons goOe (OutL.cons goOe OutL.nil))) rfl) ⟨rfl, rfl⟩
  rw [if_neg h2, hD]
  simp only
  have kO := out_f r 0 100 (by omega)
  have kC := clone_int (intRows o) (intRows_k o) (by rw [intRows_len]; omega)
  obtain ⟨n, hn⟩ : ∃ n : Nat, r.toNat = n := ⟨_, rfl⟩
  have hrn : r = n := by omega
  rw [hn]
  subst hrn
  clear hn h1
  obtain ⟨S, hS⟩ : ∃ S, S = impR l h s n (o, W0) := ⟨_, rfl⟩
  rw [← hS]
  obtain ⟨m, hm⟩ : ∃ m, m = o.length := ⟨_, rfl⟩
  have hoR := (intRows_len o).trans hm.symm
  rw [← hm] at hol
  refine PFn.mk (Spec.body Tryd.func18 rfl rfl (Tryd.ntmps18) rfl fun w0 own0 M => ?_)
  repeat' (first | refine goH ?_ | refine goV ?_ | refine goB (fun b => ?_) | refine goG ?_ | (refine Ops.k_guard ?_; first | (refine Ops.guard_dec rfl rfl (fun hc => ?_) (fun hc => ?_) <;> try (exfalso; omega)) | refine Ops.guard_split rfl rfl (fun hc => ?_) (fun hc => ?_)) | refine goI ?_ | (refine Cw.k_cond ?_; first | (refine Cw.cond_dec rfl (fun hc => ?_) (fun hc => ?_) <;> try (exfalso; omega)) | refine Cw.cond_bool rfl (fun hc => ?_) (fun hc => ?_)) | (refine Ops.k_calla ?_; first | (refine Ops.k_callf 28 ?_; refine Ops.callV k0 (Evs.cons rfl (Evs.cons rfl (Evs.cons rfl (Evs.cons rfl Evs.nil)))) rfl ?_) | (refine Ops.k_callf 45 ?_; refine Ops.callV kO (Evs.cons rfl (Evs.cons rfl (Evs.cons rfl Evs.nil))) rfl ?_)) | (apply OpW.k_call; first | (apply OpW.k_callf 28; exact OpW.callV k0 (Evs.cons rfl (Evs.cons rfl (Evs.cons rfl (Evs.cons rfl Evs.nil))))) | (apply OpW.k_callf 45; exact OpW.callV kO (Evs.cons rfl (Evs.cons rfl (Evs.cons rfl Evs.nil))))) | fail)
  rename_i b5 b13
  first | refine Cw.region_YP (fun ξ S => Chunk.box b 67 [.int h.x, .int h.y, .stops l, .int s] :: Chunk.box b13 53 [.ints bs0, .int e0, .int W0, .int q0] :: Chunk.box b5 30 [.int h.x, .int h.y] :: (stg (S 1) [] [ownV (ξ 1) 1 3 (intRows o)] ++ [])) rfl (by decide +kernel) rfl ((fun (ξ : Nat → Value) (S : Nat → Bool) => Chunk.box b 67 [.int h.x, .int h.y, .stops l, .int s] :: Chunk.box b13 53 [.ints bs0, .int e0, .int W0, .int q0] :: Chunk.box b5 30 [.int h.x, .int h.y] :: (stg (S 1) [] [ownV (ξ 1) 1 3 (intRows o)] ++ [])) (fun _ => undef) (fun _ => false)) (by simp only [upd_same, updD_same, upd_ne, updD_ne, ne_eq, Nat.reduceEqDiff, not_false_eq_true, stg_t, stg_f, vAd_s, vCap_s, blk_p, List.cons_append, List.nil_append, b2n_t, b2n_f]; exact goXm) (fun _ => rfl) ?_ | fail
  apply YSeq.w (by intro _ _ _; rfl)
  · intro ξ S h1 h2 h3 h4
    have hN0_1 := closed_false h1 h3 (k := 1) rfl (by decide)
    try simp only [upd_same, updD_same, upd_ne, updD_ne, ne_eq, Nat.reduceEqDiff, not_false_eq_true, stg_t, stg_f, vAd_s, vCap_s, blk_p, List.cons_append, List.nil_append, b2n_t, b2n_f, hN0_1]
    exact goW
  · intro ξ v; rfl
  · intro ξ k v S h3 hn hk
    first
    | rfl
  apply YSeq.callO ((intRows o).length)
  · intro ξ S h1 h2 h3 h4
    refine ⟨_, _, kC, (Evs.cons rfl Evs.nil), (by first | rfl | simp | omega), fun ad cap => ?_⟩
    simp only [upd_same, updD_same, upd_ne, updD_ne, ne_eq, Nat.reduceEqDiff, not_false_eq_true, stg_t, stg_f, vAd_s, vCap_s, blk_p, List.cons_append, List.nil_append, b2n_t, b2n_f, h1]
    exact goXm
  apply YSeq.w (by intro _ _ _; rfl)
  · intro ξ S h1 h2 h3 h4
    try simp only [upd_same, updD_same, upd_ne, updD_ne, ne_eq, Nat.reduceEqDiff, not_false_eq_true, stg_t, stg_f, vAd_s, vCap_s, blk_p, List.cons_append, List.nil_append, b2n_t, b2n_f]
    exact goW
  · intro ξ v; rfl
  · intro ξ k v S h3 hn hk
    first
    | rfl
  apply YSeq.w (by intro _ _ _; rfl)
  · intro ξ S h1 h2 h3 h4
    try simp only [upd_same, updD_same, upd_ne, updD_ne, ne_eq, Nat.reduceEqDiff, not_false_eq_true, stg_t, stg_f, vAd_s, vCap_s, blk_p, List.cons_append, List.nil_append, b2n_t, b2n_f]
    exact goW
  · intro ξ v; rfl
  · intro ξ k v S h3 hn hk
    first
    | rfl
  apply YSeq.w (by intro _ _ _; rfl)
  · intro ξ S h1 h2 h3 h4
    have hY4_1 : S 1 = true := h2 1 (by decide)
    try simp only [upd_same, updD_same, upd_ne, updD_ne, ne_eq, Nat.reduceEqDiff, not_false_eq_true, stg_t, stg_f, vAd_s, vCap_s, blk_p, List.cons_append, List.nil_append, b2n_t, b2n_f, hY4_1]
    exact goW
  · intro ξ v; rfl
  · intro ξ k v S h3 hn hk
    first
    | rfl
    | skip
      have hY4_1 : S 1 = true := h3 4 _ rfl hn 1 (by decide)
      simp only [upd_S hY4_1 hk]
  apply YSeq.w (by intro _ _ _; rfl)
  · intro ξ S h1 h2 h3 h4
    have hY5_1 : S 1 = true := h2 1 (by decide)
    try simp only [upd_same, updD_same, upd_ne, updD_ne, ne_eq, Nat.reduceEqDiff, not_false_eq_true, stg_t, stg_f, vAd_s, vCap_s, blk_p, List.cons_append, List.nil_append, b2n_t, b2n_f, hY5_1]
    exact goW
  · intro ξ v; rfl
  · intro ξ k v S h3 hn hk
    first
    | rfl
    | skip
      have hY5_1 : S 1 = true := h3 5 _ rfl hn 1 (by decide)
      simp only [upd_S hY5_1 hk]
  refine YSeq.nil fun ξ hf => ?_
  refine ⟨[(4, _), (15, _), (16, _), (17, _)], _, Ent.trans (Ent.eqc rfl (by first | (simp only [upd_same, updD_same, upd_ne, updD_ne, ne_eq, Nat.reduceEqDiff, not_false_eq_true, stg_t, stg_f, vAd_s, vCap_s, blk_p, List.cons_append, List.nil_append, b2n_t, b2n_f, ownV, slV, ptV] <;> rfl) | rfl)) (Ent.sub goSub), ?_⟩
  clear hf
  generalize vAd (ξ 1) = ad42
  generalize vCap (ξ 1) = cap42
  refine Then.norm ?_
  refine Cw.ent (Ent.settle (s := 16) rfl goPk rfl) ?_
  repeat' (first | refine goH ?_ | refine goV ?_ | refine goB (fun b => ?_) | refine goG ?_ | (refine Ops.k_guard ?_; first | (refine Ops.guard_dec rfl rfl (fun hc => ?_) (fun hc => ?_) <;> try (exfalso; omega)) | refine Ops.guard_split rfl rfl (fun hc => ?_) (fun hc => ?_)) | refine goI ?_ | (refine Cw.k_cond ?_; first | (refine Cw.cond_dec rfl (fun hc => ?_) (fun hc => ?_) <;> try (exfalso; omega)) | refine Cw.cond_bool rfl (fun hc => ?_) (fun hc => ?_)) | refine goR ?_ | refine goP ?_ | apply PSeq.cons | apply PSeq.yes rfl rfl rfl | exact goW | fail)
  refine Cw.loopI [(15, _), (45, _)] _ (fun z e cc => ∃ (k : Nat) (w : Int) (bt : List Int) (rows : List (List Tr)), z = n - k ∧ (k ≤ n ∧ rows = intRows bt ∧ bt.length = m ∧ ordersE l.length bt = 0 ∧ S = impR l h s (n - k) (bt, w)) ∧ e = [(16, .sl 1 rows), (17, .int w), (46, .int k)] ∧ cc = [])
    ⟨_, _, _, (Ent.mkP goSub goPm), 0, W0, o, _, rfl, ⟨by omega, rfl, hm.symm, ho0, by rw [Nat.sub_zero]; exact hS⟩, rfl, rfl⟩ ?_
  clear hS hD ho0 k0 kC kO hoR hm
  rintro _ _ _ ⟨k, w, bt, _, rfl, ⟨hk, rfl, hbl, hbo, hV⟩, rfl, rfl⟩
  have hbR := (intRows_len bt).trans hbl
  by_cases hkn : k < n
  rotate_left
  · rw [impR_end hkn] at hV
    subst hV
    repeat' (first | refine goH ?_ | refine goV ?_ | refine goB (fun b => ?_) | refine goG ?_ | (refine Ops.k_guard ?_; first | (refine Ops.guard_dec rfl rfl (fun hc => ?_) (fun hc => ?_) <;> try (exfalso; omega)) | refine Ops.guard_split rfl rfl (fun hc => ?_) (fun hc => ?_)) | refine goI ?_ | (refine Cw.k_cond ?_; first | (refine Cw.cond_dec rfl (fun hc => ?_) (fun hc => ?_) <;> try (exfalso; omega)) | refine Cw.cond_bool rfl (fun hc => ?_) (fun hc => ?_)) | refine goR ?_ | refine goP ?_ | apply PSeq.cons | apply PSeq.yes rfl rfl rfl | exact goW | fail)
    refine Fin.ret (Ent.take goTk) (Outs.many rfl (OutL.cons goOe (OutL.cons goOe (OutL.cons goOe OutL.nil))) rfl) ⟨rfl, rfl⟩
  rw [impR_step hkn] at hV
  obtain ⟨T, hT⟩ : ∃ T, T = impI l h s bt 0 (bt.length - 0) (bt, w) := ⟨_, rfl⟩
  rw [← hT] at hV
  have hbr := (ordersE_iff.1 hbo).1
  have kC := clone_int (intRows bt) (intRows_k bt) (by rw [intRows_len]; omega)
  repeat' (first | refine goH ?_ | refine goV ?_ | refine goB (fun b => ?_) | refine goG ?_ | (refine Ops.k_guard ?_; first | (refine Ops.guard_dec rfl rfl (fun hc => ?_) (fun hc => ?_) <;> try (exfalso; omega)) | refine Ops.guard_split rfl rfl (fun hc => ?_) (fun hc => ?_)) | refine goI ?_ | (refine Cw.k_cond ?_; first | (refine Cw.cond_dec rfl (fun hc => ?_) (fun hc => ?_) <;> try (exfalso; omega)) | refine Cw.cond_bool rfl (fun hc => ?_) (fun hc => ?_)) | refine goR ?_ | refine goP ?_ | apply PSeq.cons | apply PSeq.yes rfl rfl rfl | exact goW | fail)
  refine Cw.loopI [(15, _), (45, _), (18, _), (46, _), (50, _)] _ (fun z e cc => ∃ (i : Nat) (w : Int) (b2 : List Int) (rows : List (List Tr)), z = m - i ∧ (i ≤ m ∧ rows = intRows b2 ∧ b2.length = m ∧ ordersE l.length b2 = 0 ∧ T = impI l h s bt i (bt.length - i) (b2, w)) ∧ e = [(16, .sl 1 rows), (17, .int w), (51, .int i)] ∧ cc = [])
    ⟨_, _, _, (Ent.mkP goSub goPm), 0, w, bt, _, rfl, ⟨by omega, rfl, hbl, hbo, hT⟩, rfl, rfl⟩ ?_
  clear hT
  rintro _ _ _ ⟨i, w2, b2, _, rfl, ⟨hi, rfl, hb2l, hb2o, hV2⟩, rfl, rfl⟩
  have hb2R := (intRows_len b2).trans hb2l
  by_cases him : i < m
  rotate_left
  · rw [impI_end (by omega)] at hV2
    subst hV2
    have kE := equalInts_fn bt b2 (by omega) (by omega)
    simp only at hV
    by_cases he : b2 = bt
    · rw [if_pos he] at hV
      rw [decide_eq_true he.symm] at kE
      subst hV
      repeat' (first | refine goH ?_ | refine goV ?_ | refine goB (fun b => ?_) | refine goG ?_ | (refine Ops.k_guard ?_; first | (refine Ops.guard_dec rfl rfl (fun hc => ?_) (fun hc => ?_) <;> try (exfalso; omega)) | refine Ops.guard_split rfl rfl (fun hc => ?_) (fun hc => ?_)) | refine goI ?_ | (refine Cw.k_cond ?_; first | (refine Cw.cond_dec rfl (fun hc => ?_) (fun hc => ?_) <;> try (exfalso; omega)) | refine Cw.cond_bool rfl (fun hc => ?_) (fun hc => ?_)) | (refine Ops.k_calla ?_; first | (refine Ops.k_callf 14 ?_; refine Ops.callV kE (Evs.cons rfl (Evs.cons rfl Evs.nil)) rfl ?_)) | (apply OpW.k_call; first | (apply OpW.k_callf 14; exact OpW.callV kE (Evs.cons rfl (Evs.cons rfl Evs.nil)))) | refine goR ?_ | refine goP ?_ | apply PSeq.cons | apply PSeq.yes rfl rfl rfl | exact goW | fail)
      refine Fin.ret (Ent.take goTk) (Outs.many rfl (OutL.cons goOe (OutL.cons goOe (OutL.cons goOe OutL.nil))) rfl) ⟨rfl, rfl⟩
    · rw [if_neg he] at hV
      rw [decide_eq_false (fun e => he e.symm)] at kE
      repeat' (first | refine goH ?_ | refine goV ?_ | refine goB (fun b => ?_) | refine goG ?_ | (refine Ops.k_guard ?_; first | (refine Ops.guard_dec rfl rfl (fun hc => ?_) (fun hc => ?_) <;> try (exfalso; omega)) | refine Ops.guard_split rfl rfl (fun hc => ?_) (fun hc => ?_)) | refine goI ?_ | (refine Cw.k_cond ?_; first | (refine Cw.cond_dec rfl (fun hc => ?_) (fun hc => ?_) <;> try (exfalso; omega)) | refine Cw.cond_bool rfl (fun hc => ?_) (fun hc => ?_)) | (refine Ops.k_calla ?_; first | (refine Ops.k_callf 14 ?_; refine Ops.callV kE (Evs.cons rfl (Evs.cons rfl Evs.nil)) rfl ?_)) | (apply OpW.k_call; first | (apply OpW.k_callf 14; exact OpW.callV kE (Evs.cons rfl (Evs.cons rfl Evs.nil)))) | refine goR ?_ | refine goP ?_ | apply PSeq.cons | apply PSeq.yes rfl rfl rfl | exact goW | fail)
      exact ⟨_, _, _, (Ent.mk goSub goTk), ⟨k + 1, _, _, _, rfl, ⟨by omega, rfl, hb2l, hb2o, hV⟩, rfl, rfl⟩, by omega⟩
  rw [impI_step (by omega)] at hV2
  obtain ⟨U, hU⟩ : ∃ U, U = impJ l h s bt i (i + 1) (bt.length - (i + 1)) (b2, w2) := ⟨_, rfl⟩
  rw [← hU] at hV2
  repeat' (first | refine goH ?_ | refine goV ?_ | refine goB (fun b => ?_) | refine goG ?_ | (refine Ops.k_guard ?_; first | (refine Ops.guard_dec rfl rfl (fun hc => ?_) (fun hc => ?_) <;> try (exfalso; omega)) | refine Ops.guard_split rfl rfl (fun hc => ?_) (fun hc => ?_)) | refine goI ?_ | (refine Cw.k_cond ?_; first | (refine Cw.cond_dec rfl (fun hc => ?_) (fun hc => ?_) <;> try (exfalso; omega)) | refine Cw.cond_bool rfl (fun hc => ?_) (fun hc => ?_)) | refine goR ?_ | refine goP ?_ | apply PSeq.cons | apply PSeq.yes rfl rfl rfl | exact goW | fail)
  refine Cw.loopI [(15, _), (45, _), (18, _), (19, _), (46, _), (50, _), (51, _)] _ (fun z e cc => ∃ (j : Nat) (w : Int) (b2 : List Int) (rows : List (List Tr)), z = m - j ∧ (i + 1 ≤ j ∧ j ≤ m ∧ rows = intRows b2 ∧ b2.length = m ∧ ordersE l.length b2 = 0 ∧ U = impJ l h s bt i j (bt.length - j) (b2, w)) ∧ e = [(16, .sl 1 rows), (17, .int w), (20, .int j)] ∧ cc = [])
    ⟨_, _, _, (Ent.mkP goSub goPm), i + 1, w2, b2, _, rfl, ⟨by omega, by omega, rfl, hb2l, hb2o, hU⟩, rfl, rfl⟩ ?_
  clear hU hb2R hb2l hb2o
  rintro _ _ _ ⟨j, w3, b3, _, rfl, ⟨hij, hj, rfl, hb3l, hb3o, hV3⟩, rfl, rfl⟩
  by_cases hjm : j < m
  rotate_left
  · rw [impJ_end (by omega)] at hV3
    subst hV3
    repeat' (first | refine goH ?_ | refine goV ?_ | refine goB (fun b => ?_) | refine goG ?_ | (refine Ops.k_guard ?_; first | (refine Ops.guard_dec rfl rfl (fun hc => ?_) (fun hc => ?_) <;> try (exfalso; omega)) | refine Ops.guard_split rfl rfl (fun hc => ?_) (fun hc => ?_)) | refine goI ?_ | (refine Cw.k_cond ?_; first | (refine Cw.cond_dec rfl (fun hc => ?_) (fun hc => ?_) <;> try (exfalso; omega)) | refine Cw.cond_bool rfl (fun hc => ?_) (fun hc => ?_)) | refine goR ?_ | refine goP ?_ | apply PSeq.cons | apply PSeq.yes rfl rfl rfl | exact goW | fail)
    exact ⟨_, _, _, (Ent.mk goSub goTk), ⟨i + 1, _, _, _, rfl, ⟨by omega, rfl, hb3l, hb3o, hV2⟩, rfl, rfl⟩, by omega⟩
  rw [impJ_step (by omega)] at hV3
  unfold impS at hV3
  have hrl := (revI_len bt i j).trans hbl
  have hro := ordersE_perm (revI_perm (b := bt) (i := i) (j := j) (by omega) (by omega)) hbo
  have hrr := (ordersE_iff.1 hro).1
  have kD := drive_fn h l s (revI bt i j) ht hrr (by omega)
  have hset : (intRows bt).length = (intRows (revI bt i j)).length := by rw [intRows_len, intRows_len, hbl, hrl]
  have kV := fun (ad : Option Addr) (cap cap2 : Nat) => reverse_int bt ad cap cap2 i (j + 1 - i) (by omega) (by omega)
  rw [revI_eq] at kV
  have e1 : ((j : Int) + 1 - (i : Int)).toNat = j + 1 - i := by omega
  clear hrr hbr
  repeat' (first | refine goH ?_ | refine goV ?_ | refine goB (fun b => ?_) | refine goG ?_ | (refine Ops.k_guard ?_; first | (refine Ops.guard_dec rfl rfl (fun hc => ?_) (fun hc => ?_) <;> try (exfalso; omega)) | refine Ops.guard_split rfl rfl (fun hc => ?_) (fun hc => ?_)) | refine goI ?_ | (refine Cw.k_cond ?_; first | (refine Cw.cond_dec rfl (fun hc => ?_) (fun hc => ?_) <;> try (exfalso; omega)) | refine Cw.cond_bool rfl (fun hc => ?_) (fun hc => ?_)) | refine goR ?_ | refine goP ?_ | apply PSeq.cons | apply PSeq.yes rfl rfl rfl | exact goW | fail)
  refine Ops.k_calla ?_
  refine Ops.callO kC (Evs.cons rfl Evs.nil) rfl (fun ad cap rows hr => ?_)
  subst hr
  repeat' (first | refine goH ?_ | refine goV ?_ | refine goB (fun b => ?_) | (refine Ops.k_slice ?_; first | refine Ops.slice_own_lh rfl rfl rfl goPk rfl (by omega) rfl ?_) | refine goG ?_ | (refine Ops.k_guard ?_; first | (refine Ops.guard_dec rfl rfl (fun hc => ?_) (fun hc => ?_) <;> try (exfalso; omega)) | refine Ops.guard_split rfl rfl (fun hc => ?_) (fun hc => ?_)) | refine goI ?_ | (refine Cw.k_cond ?_; first | (refine Cw.cond_dec rfl (fun hc => ?_) (fun hc => ?_) <;> try (exfalso; omega)) | refine Cw.cond_bool rfl (fun hc => ?_) (fun hc => ?_)) | refine goR ?_ | refine goP ?_ | apply PSeq.cons | apply PSeq.yes rfl rfl rfl | exact goW | fail)
  rw [e1]
  refine Ops.k_calla ?_
  refine Ops.call (kV _ _ _) (Evs.cons rfl Evs.nil) goPm rfl ?_
  rintro y cs' ⟨rfl, rfl⟩
  clear kV
  repeat' (first | refine goH ?_ | ((fail_if_success refine Ops.k_load ?_); refine goV ?_) | ((fail_if_success refine Ops.k_load ?_); refine goB (fun b => ?_)) | refine goG ?_ | (refine Ops.k_guard ?_; first | (refine Ops.guard_dec rfl rfl (fun hc => ?_) (fun hc => ?_) <;> try (exfalso; omega)) | refine Ops.guard_split rfl rfl (fun hc => ?_) (fun hc => ?_)) | refine goI ?_ | (refine Cw.k_cond ?_; first | (refine Cw.cond_dec rfl (fun hc => ?_) (fun hc => ?_) <;> try (exfalso; omega)) | refine Cw.cond_bool rfl (fun hc => ?_) (fun hc => ?_)) | refine goR ?_ | refine goP ?_ | apply PSeq.cons | apply PSeq.yes rfl rfl rfl | exact goW | fail)
  refine Ops.ent (Ent.settle (s := 21) rfl goPk hset) ?_
  cases hD : drv l h (revI bt i j) h s [] 0 0 with
  | none =>
    rw [hD] at hV3 kD
    unfold drvT at kD
    simp only at hV3 kD
    repeat' (first | refine goH ?_ | refine goV ?_ | refine goB (fun b => ?_) | refine goG ?_ | (refine Ops.k_guard ?_; first | (refine Ops.guard_dec rfl rfl (fun hc => ?_) (fun hc => ?_) <;> try (exfalso; omega)) | refine Ops.guard_split rfl rfl (fun hc => ?_) (fun hc => ?_)) | refine goI ?_ | (refine Cw.k_cond ?_; first | (refine Cw.cond_dec rfl (fun hc => ?_) (fun hc => ?_) <;> try (exfalso; omega)) | refine Cw.cond_bool rfl (fun hc => ?_) (fun hc => ?_)) | (refine Ops.k_calla ?_; first | (refine Ops.k_callf 48 ?_; refine Ops.callV kD (Evs.cons rfl (Evs.cons rfl Evs.nil)) rfl ?_)) | (apply OpW.k_call; first | (apply OpW.k_callf 48; exact OpW.callV kD (Evs.cons rfl (Evs.cons rfl Evs.nil)))) | refine goR ?_ | refine goP ?_ | apply PSeq.cons | apply PSeq.yes rfl rfl rfl | exact goW | fail)
    exact ⟨_, _, _, (Ent.mk goSub goTk), ⟨j + 1, _, _, _, rfl, ⟨by omega, by omega, rfl, hb3l, hb3o, hV3⟩, rfl, rfl⟩, by omega⟩
  | some r =>
    obtain ⟨bs, e, w4, q⟩ := r
    rw [hD] at hV3 kD
    unfold drvT at kD
    simp only at hV3 kD
    by_cases hw : w4 < w3
    · rw [if_pos hw] at hV3
      repeat' (first | refine goH ?_ | refine goV ?_ | refine goB (fun b => ?_) | refine goG ?_ | (refine Ops.k_guard ?_; first | (refine Ops.guard_dec rfl rfl (fun hc => ?_) (fun hc => ?_) <;> try (exfalso; omega)) | refine Ops.guard_split rfl rfl (fun hc => ?_) (fun hc => ?_)) | refine goI ?_ | (refine Cw.k_cond ?_; first | (refine Cw.cond_dec rfl (fun hc => ?_) (fun hc => ?_) <;> try (exfalso; omega)) | refine Cw.cond_bool rfl (fun hc => ?_) (fun hc => ?_)) | (refine Ops.k_calla ?_; first | (refine Ops.k_callf 48 ?_; refine Ops.callV kD (Evs.cons rfl (Evs.cons rfl Evs.nil)) rfl ?_)) | (apply OpW.k_call; first | (apply OpW.k_callf 48; exact OpW.callV kD (Evs.cons rfl (Evs.cons rfl Evs.nil)))) | refine goR ?_ | refine goP ?_ | apply PSeq.cons | apply PSeq.yes rfl rfl rfl | exact goW | fail)
      exact ⟨_, _, _, (Ent.mk goSub goTk), ⟨j + 1, _, _, _, rfl, ⟨by omega, by omega, rfl, hrl, hro, hV3⟩, rfl, rfl⟩, by omega⟩
    · rw [if_neg hw] at hV3
      repeat' (first | refine goH ?_ | refine goV ?_ | refine goB (fun b => ?_) | refine goG ?_ | (refine Ops.k_guard ?_; first | (refine Ops.guard_dec rfl rfl (fun hc => ?_) (fun hc => ?_) <;> try (exfalso; omega)) | refine Ops.guard_split rfl rfl (fun hc => ?_) (fun hc => ?_)) | refine goI ?_ | (refine Cw.k_cond ?_; first | (refine Cw.cond_dec rfl (fun hc => ?_) (fun hc => ?_) <;> try (exfalso; omega)) | refine Cw.cond_bool rfl (fun hc => ?_) (fun hc => ?_)) | (refine Ops.k_calla ?_; first | (refine Ops.k_callf 48 ?_; refine Ops.callV kD (Evs.cons rfl (Evs.cons rfl Evs.nil)) rfl ?_)) | (apply OpW.k_call; first | (apply OpW.k_callf 48; exact OpW.callV kD (Evs.cons rfl (Evs.cons rfl Evs.nil)))) | refine goR ?_ | refine goP ?_ | apply PSeq.cons | apply PSeq.yes rfl rfl rfl | exact goW | fail)
      exact ⟨_, _, _, (Ent.mk goSub goTk), ⟨j + 1, _, _, _, rfl, ⟨by omega, by omega, rfl, hb3l, hb3o, hV3⟩, rfl, rfl⟩, by omega⟩
end Lg
end
section
set_option linter.all false
set_option maxRecDepth 100000
set_option maxHeartbeats 8000000
namespace Lg
open Go Go.Proofs

attribute [local irreducible] intRows insAt drv drvU drvE ordersE tripE revI impR impI impJ
theorem improvedR_fn (h : Spot) (l : List Stop) (s r : Int) (o : List Int) (ht : tripE h l s = 0) (hrb : -1000000 ≤ r ∧ r ≤ 1000000) (hol : o.length ≤ 100) : PFn Tryd.prog 21 [.agg h.row, .stops l, .int s, .ints o, .int r] (· = impE l h s o r) := by
  have hL : (l.map Stop.row).length = l.length := List.length_map _
  have hl60 := (stops_ok (trip_ok ht).1).1
  have k0 := driveOf_fn h l s o ht (by omega)
  unfold impE Spot.row at *
  by_cases h1 : drvE l h s o ≠ 0
  · rw [if_pos h1]
    obtain ⟨bs0, e0, W0, q0, hU⟩ := drvU_tup l h s o
    rw [hU] at k0
    clear hU
    generalize drvE l h s o = E at *
    refine PFn.mk (Spec.body Tryd.func21 rfl rfl (Tryd.ntmps21) rfl fun w0 own0 M => ?_)
    repeat' (first | refine goH ?_ | refine goV ?_ | refine goB (fun b => ?_) | refine goG ?_ | (refine Ops.k_guard ?_; first | (refine Ops.guard_dec rfl rfl (fun hc => ?_) (fun hc => ?_) <;> try (exfalso; omega)) | refine Ops.guard_split rfl rfl (fun hc => ?_) (fun hc => ?_)) | refine goI ?_ | (refine Cw.k_cond ?_; first | (refine Cw.cond_dec rfl (fun hc => ?_) (fun hc => ?_) <;> try (exfalso; omega)) | refine Cw.cond_bool rfl (fun hc => ?_) (fun hc => ?_)) | (refine Ops.k_calla ?_; first | (refine Ops.k_callf 29 ?_; refine Ops.callV k0 (Evs.cons rfl (Evs.cons rfl (Evs.cons rfl (Evs.cons rfl Evs.nil)))) rfl ?_)) | (apply OpW.k_call; first | (apply OpW.k_callf 29; exact OpW.callV k0 (Evs.cons rfl (Evs.cons rfl (Evs.cons rfl (Evs.cons rfl Evs.nil)))))) | refine goR ?_ | refine goP ?_ | apply PSeq.cons | apply PSeq.yes rfl rfl rfl | exact goW | fail)
    refine Fin.ret (Ent.trans (Ent.nilsl 1 (s := 10) rfl) (Ent.take goTk)) (Outs.many rfl (OutL.cons goOe (OutL.cons goOe (OutL.cons goOe OutL.nil))) rfl) ⟨rfl, rfl⟩
  rw [if_neg h1]
  have ho0 : ordersE l.length o = 0 := by
    unfold drvE at h1
    by_cases h2 : ordersE l.length o ≠ 0
    · rw [if_pos h2] at h1; exact absurd h2 h1
    · omega
  obtain ⟨bs0, e0, W0, q0, hD⟩ : ∃ bs e w q, drv l h o h s [] 0 0 = some (bs, e, w, q) := by
    unfold drvE at h1
    rw [if_neg (by omega)] at h1
    cases hd : drv l h o h s [] 0 0 with
    | none => rw [hd] at h1; exact absurd (by decide) h1
    | some r => exact ⟨r.1, r.2.1, r.2.2.1, r.2.2.2, rfl⟩
  unfold drvU at k0
  rw [if_neg (by omega), hD] at k0
  unfold drvV at k0
  simp only at k0
  by_cases h2 : r < 0 ∨ 100 < r
  · rw [if_pos h2]
    refine PFn.mk (Spec.body Tryd.func21 rfl rfl (Tryd.ntmps21) rfl fun w0 own0 M => ?_)
    by_cases h3 : r < 0
    all_goals
      repeat' (first | refine goH ?_ | refine goV ?_ | refine goB (fun b => ?_) | refine goG ?_ | (refine Ops.k_guard ?_; first | (refine Ops.guard_dec rfl rfl (fun hc => ?_) (fun hc => ?_) <;> try (exfalso; omega)) | refine Ops.guard_split rfl rfl (fun hc => ?_) (fun hc => ?_)) | refine goI ?_ | (refine Cw.k_cond ?_; first | (refine Cw.cond_dec rfl (fun hc => ?_) (fun hc => ?_) <;> try (exfalso; omega)) | refine Cw.cond_bool rfl (fun hc => ?_) (fun hc => ?_)) | (refine Ops.k_calla ?_; first | (refine Ops.k_callf 29 ?_; refine Ops.callV k0 (Evs.cons rfl (Evs.cons rfl (Evs.cons rfl (Evs.cons rfl Evs.nil)))) rfl ?_)) | (apply OpW.k_call; first | (apply OpW.k_callf 29; exact OpW.callV k0 (Evs.cons rfl (Evs.cons rfl (Evs.cons rfl (Evs.cons rfl Evs.nil)))))) | refine goR ?_ | refine goP ?_ | apply PSeq.cons | apply PSeq.yes rfl rfl rfl | exact goW | fail)
      refine Fin.ret (Ent.trans (Ent.nilsl 1 (s := 10) rfl) (Ent.take goTk)) (Outs.many rfl (OutL.cons goOe (OutL.cons goOe (OutL.cons goOe OutL.nil))) rfl) ⟨rfl, rfl⟩
  rw [if_neg h2, hD]
  simp only
  have kC := clone_int (intRows o) (intRows_k o) (by rw [intRows_len]; omega)
  obtain ⟨n, hn⟩ : ∃ n : Nat, r.toNat = n := ⟨_, rfl⟩
  have hrn : r = n := by omega
  rw [hn]
  subst hrn
  clear hn h1
  obtain ⟨S, hS⟩ : ∃ S, S = impR l h s n (o, W0) := ⟨_, rfl⟩
  rw [← hS]
  obtain ⟨m, hm⟩ : ∃ m, m = o.length := ⟨_, rfl⟩
  have hoR := (intRows_len o).trans hm.symm
  rw [← hm] at hol
  refine PFn.mk (Spec.body Tryd.func21 rfl rfl (Tryd.ntmps21) rfl fun w0 own0 M => ?_)
  repeat' (first | refine goH ?_ | refine goV ?_ | refine goB (fun b => ?_) | refine goG ?_ | (refine Ops.k_guard ?_; first | (refine Ops.guard_dec rfl rfl (fun hc => ?_) (fun hc => ?_) <;> try (exfalso; omega)) | refine Ops.guard_split rfl rfl (fun hc => ?_) (fun hc => ?_)) | refine goI ?_ | (refine Cw.k_cond ?_; first | (refine Cw.cond_dec rfl (fun hc => ?_) (fun hc => ?_) <;> try (exfalso; omega)) | refine Cw.cond_bool rfl (fun hc => ?_) (fun hc => ?_)) | (refine Ops.k_calla ?_; first | (refine Ops.k_callf 29 ?_; refine Ops.callV k0 (Evs.cons rfl (Evs.cons rfl (Evs.cons rfl (Evs.cons rfl Evs.nil)))) rfl ?_)) | (apply OpW.k_call; first | (apply OpW.k_callf 29; exact OpW.callV k0 (Evs.cons rfl (Evs.cons rfl (Evs.cons rfl (Evs.cons rfl Evs.nil)))))) | fail)
  rename_i b5
  first | refine Cw.region_YP (fun ξ S => Chunk.box b 53 [.ints bs0, .int e0, .int W0, .int q0] :: Chunk.box b5 30 [.int h.x, .int h.y] :: (stg (S 1) [] [ownV (ξ 1) 1 3 (intRows o)] ++ [])) rfl (by decide +kernel) rfl ((fun (ξ : Nat → Value) (S : Nat → Bool) => Chunk.box b 53 [.ints bs0, .int e0, .int W0, .int q0] :: Chunk.box b5 30 [.int h.x, .int h.y] :: (stg (S 1) [] [ownV (ξ 1) 1 3 (intRows o)] ++ [])) (fun _ => undef) (fun _ => false)) (by simp only [upd_same, updD_same, upd_ne, updD_ne, ne_eq, Nat.reduceEqDiff, not_false_eq_true, stg_t, stg_f, vAd_s, vCap_s, blk_p, List.cons_append, List.nil_append, b2n_t, b2n_f]; exact goXm) (fun _ => rfl) ?_ | fail
  apply YSeq.w (by intro _ _ _; rfl)
  · intro ξ S h1 h2 h3 h4
    have hN0_1 := closed_false h1 h3 (k := 1) rfl (by decide)
    try simp only [upd_same, updD_same, upd_ne, updD_ne, ne_eq, Nat.reduceEqDiff, not_false_eq_true, stg_t, stg_f, vAd_s, vCap_s, blk_p, List.cons_append, List.nil_append, b2n_t, b2n_f, hN0_1]
    exact goW
  · intro ξ v; rfl
  · intro ξ k v S h3 hn hk
    first
    | rfl
  apply YSeq.callO ((intRows o).length)
  · intro ξ S h1 h2 h3 h4
    refine ⟨_, _, kC, (Evs.cons rfl Evs.nil), (by first | rfl | simp | omega), fun ad cap => ?_⟩
    simp only [upd_same, updD_same, upd_ne, updD_ne, ne_eq, Nat.reduceEqDiff, not_false_eq_true, stg_t, stg_f, vAd_s, vCap_s, blk_p, List.cons_append, List.nil_append, b2n_t, b2n_f, h1]
    exact goXm
  apply YSeq.w (by intro _ _ _; rfl)
  · intro ξ S h1 h2 h3 h4
    try simp only [upd_same, updD_same, upd_ne, updD_ne, ne_eq, Nat.reduceEqDiff, not_false_eq_true, stg_t, stg_f, vAd_s, vCap_s, blk_p, List.cons_append, List.nil_append, b2n_t, b2n_f]
    exact goW
  · intro ξ v; rfl
  · intro ξ k v S h3 hn hk
    first
    | rfl
  apply YSeq.w (by intro _ _ _; rfl)
  · intro ξ S h1 h2 h3 h4
    try simp only [upd_same, updD_same, upd_ne, updD_ne, ne_eq, Nat.reduceEqDiff, not_false_eq_true, stg_t, stg_f, vAd_s, vCap_s, blk_p, List.cons_append, List.nil_append, b2n_t, b2n_f]
    exact goW
  · intro ξ v; rfl
  · intro ξ k v S h3 hn hk
    first
    | rfl
  apply YSeq.w (by intro _ _ _; rfl)
  · intro ξ S h1 h2 h3 h4
    have hY4_1 : S 1 = true := h2 1 (by decide)
    try simp only [upd_same, updD_same, upd_ne, updD_ne, ne_eq, Nat.reduceEqDiff, not_false_eq_true, stg_t, stg_f, vAd_s, vCap_s, blk_p, List.cons_append, List.nil_append, b2n_t, b2n_f, hY4_1]
    exact goW
  · intro ξ v; rfl
  · intro ξ k v S h3 hn hk
    first
    | rfl
    | skip
      have hY4_1 : S 1 = true := h3 4 _ rfl hn 1 (by decide)
      simp only [upd_S hY4_1 hk]
  apply YSeq.w (by intro _ _ _; rfl)
  · intro ξ S h1 h2 h3 h4
    have hY5_1 : S 1 = true := h2 1 (by decide)
    try simp only [upd_same, updD_same, upd_ne, updD_ne, ne_eq, Nat.reduceEqDiff, not_false_eq_true, stg_t, stg_f, vAd_s, vCap_s, blk_p, List.cons_append, List.nil_append, b2n_t, b2n_f, hY5_1]
    exact goW
  · intro ξ v; rfl
  · intro ξ k v S h3 hn hk
    first
    | rfl
    | skip
      have hY5_1 : S 1 = true := h3 5 _ rfl hn 1 (by decide)
      simp only [upd_S hY5_1 hk]
  refine YSeq.nil fun ξ hf => ?_
  refine ⟨[(1, _), (2, _), (4, _), (5, _), (15, _), (16, _)], _, Ent.trans (Ent.eqc rfl (by first | (simp only [upd_same, updD_same, upd_ne, updD_ne, ne_eq, Nat.reduceEqDiff, not_false_eq_true, stg_t, stg_f, vAd_s, vCap_s, blk_p, List.cons_append, List.nil_append, b2n_t, b2n_f, ownV, slV, ptV] <;> rfl) | rfl)) (Ent.sub goSub), ?_⟩
  clear hf
  generalize vAd (ξ 1) = ad41
  generalize vCap (ξ 1) = cap41
  refine Then.norm ?_
  refine Cw.ent (Ent.settle (s := 15) rfl goPk rfl) ?_
  repeat' (first | refine goH ?_ | refine goV ?_ | refine goB (fun b => ?_) | refine goG ?_ | (refine Ops.k_guard ?_; first | (refine Ops.guard_dec rfl rfl (fun hc => ?_) (fun hc => ?_) <;> try (exfalso; omega)) | refine Ops.guard_split rfl rfl (fun hc => ?_) (fun hc => ?_)) | refine goI ?_ | (refine Cw.k_cond ?_; first | (refine Cw.cond_dec rfl (fun hc => ?_) (fun hc => ?_) <;> try (exfalso; omega)) | refine Cw.cond_bool rfl (fun hc => ?_) (fun hc => ?_)) | refine goR ?_ | refine goP ?_ | apply PSeq.cons | apply PSeq.yes rfl rfl rfl | exact goW | fail)
  refine Cw.loopI [(1, _), (2, _), (5, _), (44, _)] _ (fun z e cc => ∃ (k : Nat) (w : Int) (bt : List Int) (rows : List (List Tr)), z = n - k ∧ (k ≤ n ∧ rows = intRows bt ∧ bt.length = m ∧ ordersE l.length bt = 0 ∧ S = impR l h s (n - k) (bt, w)) ∧ e = [(15, .sl 1 rows), (16, .int w), (45, .int k)] ∧ cc = [])
    ⟨_, _, _, (Ent.mkP goSub goPm), 0, W0, o, _, rfl, ⟨by omega, rfl, hm.symm, ho0, by rw [Nat.sub_zero]; exact hS⟩, rfl, rfl⟩ ?_
  clear hS hD ho0 k0 kC hoR hm
  rintro _ _ _ ⟨k, w, bt, _, rfl, ⟨hk, rfl, hbl, hbo, hV⟩, rfl, rfl⟩
  have hbR := (intRows_len bt).trans hbl
  by_cases hkn : k < n
  rotate_left
  · rw [impR_end hkn] at hV
    subst hV
    repeat' (first | refine goH ?_ | refine goV ?_ | refine goB (fun b => ?_) | refine goG ?_ | (refine Ops.k_guard ?_; first | (refine Ops.guard_dec rfl rfl (fun hc => ?_) (fun hc => ?_) <;> try (exfalso; omega)) | refine Ops.guard_split rfl rfl (fun hc => ?_) (fun hc => ?_)) | refine goI ?_ | (refine Cw.k_cond ?_; first | (refine Cw.cond_dec rfl (fun hc => ?_) (fun hc => ?_) <;> try (exfalso; omega)) | refine Cw.cond_bool rfl (fun hc => ?_) (fun hc => ?_)) | refine goR ?_ | refine goP ?_ | apply PSeq.cons | apply PSeq.yes rfl rfl rfl | exact goW | fail)
    refine Fin.ret (Ent.take goTk) (Outs.many rfl (OutL.cons goOe (OutL.cons goOe (OutL.cons goOe OutL.nil))) rfl) ⟨rfl, rfl⟩
  rw [impR_step hkn] at hV
  obtain ⟨T, hT⟩ : ∃ T, T = impI l h s bt 0 (bt.length - 0) (bt, w) := ⟨_, rfl⟩
  rw [← hT] at hV
  have hbr := (ordersE_iff.1 hbo).1
  have kC := clone_int (intRows bt) (intRows_k bt) (by rw [intRows_len]; omega)
  repeat' (first | refine goH ?_ | refine goV ?_ | refine goB (fun b => ?_) | refine goG ?_ | (refine Ops.k_guard ?_; first | (refine Ops.guard_dec rfl rfl (fun hc => ?_) (fun hc => ?_) <;> try (exfalso; omega)) | refine Ops.guard_split rfl rfl (fun hc => ?_) (fun hc => ?_)) | refine goI ?_ | (refine Cw.k_cond ?_; first | (refine Cw.cond_dec rfl (fun hc => ?_) (fun hc => ?_) <;> try (exfalso; omega)) | refine Cw.cond_bool rfl (fun hc => ?_) (fun hc => ?_)) | refine goR ?_ | refine goP ?_ | apply PSeq.cons | apply PSeq.yes rfl rfl rfl | exact goW | fail)
  refine Cw.loopI [(1, _), (2, _), (5, _), (15, _), (44, _), (45, _), (49, _)] _ (fun z e cc => ∃ (i : Nat) (w : Int) (b2 : List Int) (rows : List (List Tr)), z = m - i ∧ (i ≤ m ∧ rows = intRows b2 ∧ b2.length = m ∧ ordersE l.length b2 = 0 ∧ T = impI l h s bt i (bt.length - i) (b2, w)) ∧ e = [(17, .sl 1 rows), (16, .int w), (50, .int i)] ∧ cc = [])
    ⟨_, _, _, (Ent.mkP goSub goPm), 0, w, bt, _, rfl, ⟨by omega, rfl, hbl, hbo, hT⟩, rfl, rfl⟩ ?_
  clear hT
  rintro _ _ _ ⟨i, w2, b2, _, rfl, ⟨hi, rfl, hb2l, hb2o, hV2⟩, rfl, rfl⟩
  have hb2R := (intRows_len b2).trans hb2l
  by_cases him : i < m
  rotate_left
  · rw [impI_end (by omega)] at hV2
    subst hV2
    have kE := equalInts_fn b2 bt (by omega) (by omega)
    simp only at hV
    by_cases he : b2 = bt
    · rw [if_pos he] at hV
      rw [decide_eq_true he] at kE
      subst he
      subst hV
      repeat' (first | refine goH ?_ | refine goV ?_ | refine goB (fun b => ?_) | refine goG ?_ | (refine Ops.k_guard ?_; first | (refine Ops.guard_dec rfl rfl (fun hc => ?_) (fun hc => ?_) <;> try (exfalso; omega)) | refine Ops.guard_split rfl rfl (fun hc => ?_) (fun hc => ?_)) | refine goI ?_ | (refine Cw.k_cond ?_; first | (refine Cw.cond_dec rfl (fun hc => ?_) (fun hc => ?_) <;> try (exfalso; omega)) | refine Cw.cond_bool rfl (fun hc => ?_) (fun hc => ?_)) | (refine Ops.k_calla ?_; first | (refine Ops.k_callf 14 ?_; refine Ops.callV kE (Evs.cons rfl (Evs.cons rfl Evs.nil)) rfl ?_)) | (apply OpW.k_call; first | (apply OpW.k_callf 14; exact OpW.callV kE (Evs.cons rfl (Evs.cons rfl Evs.nil)))) | refine goR ?_ | refine goP ?_ | apply PSeq.cons | apply PSeq.yes rfl rfl rfl | exact goW | fail)
      refine Fin.ret (Ent.take goTk) (Outs.many rfl (OutL.cons goOe (OutL.cons goOe (OutL.cons goOe OutL.nil))) rfl) ⟨rfl, rfl⟩
    · rw [if_neg he] at hV
      rw [decide_eq_false he] at kE
      repeat' (first | refine goH ?_ | refine goV ?_ | refine goB (fun b => ?_) | refine goG ?_ | (refine Ops.k_guard ?_; first | (refine Ops.guard_dec rfl rfl (fun hc => ?_) (fun hc => ?_) <;> try (exfalso; omega)) | refine Ops.guard_split rfl rfl (fun hc => ?_) (fun hc => ?_)) | refine goI ?_ | (refine Cw.k_cond ?_; first | (refine Cw.cond_dec rfl (fun hc => ?_) (fun hc => ?_) <;> try (exfalso; omega)) | refine Cw.cond_bool rfl (fun hc => ?_) (fun hc => ?_)) | (refine Ops.k_calla ?_; first | (refine Ops.k_callf 14 ?_; refine Ops.callV kE (Evs.cons rfl (Evs.cons rfl Evs.nil)) rfl ?_)) | (apply OpW.k_call; first | (apply OpW.k_callf 14; exact OpW.callV kE (Evs.cons rfl (Evs.cons rfl Evs.nil)))) | refine goR ?_ | refine goP ?_ | apply PSeq.cons | apply PSeq.yes rfl rfl rfl | exact goW | fail)
      exact ⟨_, _, _, (Ent.mk goSub goTk), ⟨k + 1, _, _, _, rfl, ⟨by omega, rfl, hb2l, hb2o, hV⟩, rfl, rfl⟩, by omega⟩
  rw [impI_step (by omega)] at hV2
  obtain ⟨U, hU⟩ : ∃ U, U = impJ l h s bt i (i + 1) (bt.length - (i + 1)) (b2, w2) := ⟨_, rfl⟩
  rw [← hU] at hV2
  repeat' (first | refine goH ?_ | refine goV ?_ | refine goB (fun b => ?_) | refine goG ?_ | (refine Ops.k_guard ?_; first | (refine Ops.guard_dec rfl rfl (fun hc => ?_) (fun hc => ?_) <;> try (exfalso; omega)) | refine Ops.guard_split rfl rfl (fun hc => ?_) (fun hc => ?_)) | refine goI ?_ | (refine Cw.k_cond ?_; first | (refine Cw.cond_dec rfl (fun hc => ?_) (fun hc => ?_) <;> try (exfalso; omega)) | refine Cw.cond_bool rfl (fun hc => ?_) (fun hc => ?_)) | refine goR ?_ | refine goP ?_ | apply PSeq.cons | apply PSeq.yes rfl rfl rfl | exact goW | fail)
  refine Cw.loopI [(1, _), (2, _), (5, _), (15, _), (18, _), (44, _), (45, _), (49, _), (50, _)] _ (fun z e cc => ∃ (j : Nat) (w : Int) (b2 : List Int) (rows : List (List Tr)), z = m - j ∧ (i + 1 ≤ j ∧ j ≤ m ∧ rows = intRows b2 ∧ b2.length = m ∧ ordersE l.length b2 = 0 ∧ U = impJ l h s bt i j (bt.length - j) (b2, w)) ∧ e = [(17, .sl 1 rows), (16, .int w), (19, .int j)] ∧ cc = [])
    ⟨_, _, _, (Ent.mkP goSub goPm), i + 1, w2, b2, _, rfl, ⟨by omega, by omega, rfl, hb2l, hb2o, hU⟩, rfl, rfl⟩ ?_
  clear hU hb2R hb2l hb2o
  rintro _ _ _ ⟨j, w3, b3, _, rfl, ⟨hij, hj, rfl, hb3l, hb3o, hV3⟩, rfl, rfl⟩
  by_cases hjm : j < m
  rotate_left
  · rw [impJ_end (by omega)] at hV3
    subst hV3
    repeat' (first | refine goH ?_ | refine goV ?_ | refine goB (fun b => ?_) | refine goG ?_ | (refine Ops.k_guard ?_; first | (refine Ops.guard_dec rfl rfl (fun hc => ?_) (fun hc => ?_) <;> try (exfalso; omega)) | refine Ops.guard_split rfl rfl (fun hc => ?_) (fun hc => ?_)) | refine goI ?_ | (refine Cw.k_cond ?_; first | (refine Cw.cond_dec rfl (fun hc => ?_) (fun hc => ?_) <;> try (exfalso; omega)) | refine Cw.cond_bool rfl (fun hc => ?_) (fun hc => ?_)) | refine goR ?_ | refine goP ?_ | apply PSeq.cons | apply PSeq.yes rfl rfl rfl | exact goW | fail)
    exact ⟨_, _, _, (Ent.mk goSub goTk), ⟨i + 1, _, _, _, rfl, ⟨by omega, rfl, hb3l, hb3o, hV2⟩, rfl, rfl⟩, by omega⟩
  rw [impJ_step (by omega)] at hV3
  unfold impS at hV3
  have hrl := (revI_len bt i j).trans hbl
  have hro := ordersE_perm (revI_perm (b := bt) (i := i) (j := j) (by omega) (by omega)) hbo
  have hrr := (ordersE_iff.1 hro).1
  have kD := driveOf_fn h l s (revI bt i j) ht (by omega)
  unfold drvU Spot.row at kD
  rw [if_neg (by omega)] at kD
  have hset : (intRows bt).length = (intRows (revI bt i j)).length := by rw [intRows_len, intRows_len, hbl, hrl]
  have kV := fun (ad : Option Addr) (cap cap2 : Nat) => reverse_int bt ad cap cap2 i (j + 1 - i) (by omega) (by omega)
  rw [revI_eq] at kV
  have e1 : ((j : Int) + 1 - (i : Int)).toNat = j + 1 - i := by omega
  clear hrr hbr
  repeat' (first | refine goH ?_ | refine goV ?_ | refine goB (fun b => ?_) | refine goG ?_ | (refine Ops.k_guard ?_; first | (refine Ops.guard_dec rfl rfl (fun hc => ?_) (fun hc => ?_) <;> try (exfalso; omega)) | refine Ops.guard_split rfl rfl (fun hc => ?_) (fun hc => ?_)) | refine goI ?_ | (refine Cw.k_cond ?_; first | (refine Cw.cond_dec rfl (fun hc => ?_) (fun hc => ?_) <;> try (exfalso; omega)) | refine Cw.cond_bool rfl (fun hc => ?_) (fun hc => ?_)) | refine goR ?_ | refine goP ?_ | apply PSeq.cons | apply PSeq.yes rfl rfl rfl | exact goW | fail)
  refine Ops.k_calla ?_
  refine Ops.callO kC (Evs.cons rfl Evs.nil) rfl (fun ad cap rows hr => ?_)
  subst hr
  repeat' (first | refine goH ?_ | refine goV ?_ | refine goB (fun b => ?_) | (refine Ops.k_slice ?_; first | refine Ops.slice_own_lh rfl rfl rfl goPk rfl (by omega) rfl ?_) | refine goG ?_ | (refine Ops.k_guard ?_; first | (refine Ops.guard_dec rfl rfl (fun hc => ?_) (fun hc => ?_) <;> try (exfalso; omega)) | refine Ops.guard_split rfl rfl (fun hc => ?_) (fun hc => ?_)) | refine goI ?_ | (refine Cw.k_cond ?_; first | (refine Cw.cond_dec rfl (fun hc => ?_) (fun hc => ?_) <;> try (exfalso; omega)) | refine Cw.cond_bool rfl (fun hc => ?_) (fun hc => ?_)) | refine goR ?_ | refine goP ?_ | apply PSeq.cons | apply PSeq.yes rfl rfl rfl | exact goW | fail)
  rw [e1]
  refine Ops.k_calla ?_
  refine Ops.call (kV _ _ _) (Evs.cons rfl Evs.nil) goPm rfl ?_
  rintro y cs' ⟨rfl, rfl⟩
  clear kV
  repeat' (first | refine goH ?_ | ((fail_if_success refine Ops.k_load ?_); refine goV ?_) | ((fail_if_success refine Ops.k_load ?_); refine goB (fun b => ?_)) | refine goG ?_ | (refine Ops.k_guard ?_; first | (refine Ops.guard_dec rfl rfl (fun hc => ?_) (fun hc => ?_) <;> try (exfalso; omega)) | refine Ops.guard_split rfl rfl (fun hc => ?_) (fun hc => ?_)) | refine goI ?_ | (refine Cw.k_cond ?_; first | (refine Cw.cond_dec rfl (fun hc => ?_) (fun hc => ?_) <;> try (exfalso; omega)) | refine Cw.cond_bool rfl (fun hc => ?_) (fun hc => ?_)) | refine goR ?_ | refine goP ?_ | apply PSeq.cons | apply PSeq.yes rfl rfl rfl | exact goW | fail)
  refine Ops.ent (Ent.settle (s := 20) rfl goPk hset) ?_
  cases hD : drv l h (revI bt i j) h s [] 0 0 with
  | none =>
    rw [hD] at hV3 kD
    unfold drvV at kD
    simp only at hV3 kD
    repeat' (first | refine goH ?_ | refine goV ?_ | refine goB (fun b => ?_) | refine goG ?_ | (refine Ops.k_guard ?_; first | (refine Ops.guard_dec rfl rfl (fun hc => ?_) (fun hc => ?_) <;> try (exfalso; omega)) | refine Ops.guard_split rfl rfl (fun hc => ?_) (fun hc => ?_)) | refine goI ?_ | (refine Cw.k_cond ?_; first | (refine Cw.cond_dec rfl (fun hc => ?_) (fun hc => ?_) <;> try (exfalso; omega)) | refine Cw.cond_bool rfl (fun hc => ?_) (fun hc => ?_)) | (refine Ops.k_calla ?_; first | (refine Ops.k_callf 29 ?_; refine Ops.callV kD (Evs.cons rfl (Evs.cons rfl (Evs.cons rfl (Evs.cons rfl Evs.nil)))) rfl ?_)) | (apply OpW.k_call; first | (apply OpW.k_callf 29; exact OpW.callV kD (Evs.cons rfl (Evs.cons rfl (Evs.cons rfl (Evs.cons rfl Evs.nil)))))) | refine goR ?_ | refine goP ?_ | apply PSeq.cons | apply PSeq.yes rfl rfl rfl | exact goW | fail)
    exact ⟨_, _, _, (Ent.mk goSub goTk), ⟨j + 1, _, _, _, rfl, ⟨by omega, by omega, rfl, hb3l, hb3o, hV3⟩, rfl, rfl⟩, by omega⟩
  | some r =>
    obtain ⟨bs, e, w4, q⟩ := r
    rw [hD] at hV3 kD
    unfold drvV at kD
    simp only at hV3 kD
    by_cases hw : w4 < w3
    · rw [if_pos hw] at hV3
      repeat' (first | refine goH ?_ | refine goV ?_ | refine goB (fun b => ?_) | refine goG ?_ | (refine Ops.k_guard ?_; first | (refine Ops.guard_dec rfl rfl (fun hc => ?_) (fun hc => ?_) <;> try (exfalso; omega)) | refine Ops.guard_split rfl rfl (fun hc => ?_) (fun hc => ?_)) | refine goI ?_ | (refine Cw.k_cond ?_; first | (refine Cw.cond_dec rfl (fun hc => ?_) (fun hc => ?_) <;> try (exfalso; omega)) | refine Cw.cond_bool rfl (fun hc => ?_) (fun hc => ?_)) | (refine Ops.k_calla ?_; first | (refine Ops.k_callf 29 ?_; refine Ops.callV kD (Evs.cons rfl (Evs.cons rfl (Evs.cons rfl (Evs.cons rfl Evs.nil)))) rfl ?_)) | (apply OpW.k_call; first | (apply OpW.k_callf 29; exact OpW.callV kD (Evs.cons rfl (Evs.cons rfl (Evs.cons rfl (Evs.cons rfl Evs.nil)))))) | refine goR ?_ | refine goP ?_ | apply PSeq.cons | apply PSeq.yes rfl rfl rfl | exact goW | fail)
      exact ⟨_, _, _, (Ent.mk goSub goTk), ⟨j + 1, _, _, _, rfl, ⟨by omega, by omega, rfl, hrl, hro, hV3⟩, rfl, rfl⟩, by omega⟩
    · rw [if_neg hw] at hV3
      repeat' (first | refine goH ?_ | refine goV ?_ | refine goB (fun b => ?_) | refine goG ?_ | (refine Ops.k_guard ?_; first | (refine Ops.guard_dec rfl rfl (fun hc => ?_) (fun hc => ?_) <;> try (exfalso; omega)) | refine Ops.guard_split rfl rfl (fun hc => ?_) (fun hc => ?_)) | refine goI ?_ | (refine Cw.k_cond ?_; first | (refine Cw.cond_dec rfl (fun hc => ?_) (fun hc => ?_) <;> try (exfalso; omega)) | refine Cw.cond_bool rfl (fun hc => ?_) (fun hc => ?_)) | (refine Ops.k_calla ?_; first | (refine Ops.k_callf 29 ?_; refine Ops.callV kD (Evs.cons rfl (Evs.cons rfl (Evs.cons rfl (Evs.cons rfl Evs.nil)))) rfl ?_)) | (apply OpW.k_call; first | (apply OpW.k_callf 29; exact OpW.callV kD (Evs.cons rfl (Evs.cons rfl (Evs.cons rfl (Evs.cons rfl Evs.nil)))))) | refine goR ?_ | refine goP ?_ | apply PSeq.cons | apply PSeq.yes rfl rfl rfl | exact goW | fail)
      exact ⟨_, _, _, (Ent.mk goSub goTk), ⟨j + 1, _, _, _, rfl, ⟨by omega, by omega, rfl, hb3l, hb3o, hV3⟩, rfl, rfl⟩, by omega⟩
end Lg
end
section
set_option linter.all false
set_option maxRecDepth 100000
set_option maxHeartbeats 8000000
namespace Lg
open Go Go.Proofs

/-! ### Split, in plain terms -/
theorem drv_le {l : List Stop} {h : Spot} (hl : ∀ s ∈ l, stopB s = true) (hh : spotB h = true) : ∀ (o : List Int) (a : Spot) (now : Int) (bs : List Int) (w q : Int) {bs2 : List Int} {e w2 q2 : Int}, spotB a = true → drv l h o a now bs w q = some (bs2, e, w2, q2) → w ≤ w2 ∧ w2 ≤ w + 40000 * (o.length + 1)
  | [], a, now, bs, w, q, bs2, e, w2, q2, ha, hd => by
    rw [drv] at hd
    have := farI_bd ha hh
    cases hd
    simp
    omega
  | i :: o, a, now, bs, w, q, bs2, e, w2, q2, ha, hd => by
    rw [drv] at hd
    cases hs : l[i.toNat]? with
    | none => rw [hs] at hd; cases hd
    | some s =>
      rw [hs] at hd
      simp only at hd
      have h1 := (stopB_ok (hl s (List.mem_of_getElem? hs))).1.1
      have h2 := farI_bd ha h1
      by_cases hc : s.t < max (now + farI a s.spot) s.f
      · rw [if_pos hc] at hd; cases hd
      · rw [if_neg hc] at hd
        have := drv_le hl hh o s.spot _ _ _ _ h1 hd
        rw [List.length_cons]
        omega
def itF {σ : Type} (f : Nat → σ → σ) : Nat → Nat → σ → σ
  | _, 0, s => s
  | k, n + 1, s => itF f (k + 1) n (f k s)
theorem itF_step {σ : Type} {f : Nat → σ → σ} {k D : Nat} {s : σ} (h : k < D) : itF f k (D - k) s = itF f (k + 1) (D - (k + 1)) (f k s) := by
  obtain ⟨m, hm⟩ : ∃ m, D - k = m + 1 := ⟨D - k - 1, by omega⟩
  rw [hm, itF, show D - (k + 1) = m by omega]
theorem itF_end {σ : Type} {f : Nat → σ → σ} {k D : Nat} {s : σ} (h : ¬ k < D) : itF f k (D - k) s = s := by
  rw [show D - k = 0 by omega, itF]
/-- a list of lists in a slice -/
def roI (rs : List (List Int)) : List (List Tr) := rs.map fun o => [Tr.ints o]
theorem roI_len (rs : List (List Int)) : (roI rs).length = rs.length := List.length_map _
theorem roI_at {rs : List (List Int)} {k : Nat} {o : List Int} (h : rs[k]? = some o) : (roI rs)[k]? = some [Tr.ints o] := by
  unfold roI
  rw [List.getElem?_map, h]
  rfl
theorem roI_set (rs : List (List Int)) (k : Nat) (o : List Int) : (roI rs).set k [Tr.ints o] = roI (rs.set k o) := by
  unfold roI
  rw [List.map_set]
theorem roI_k {rs : List (List Int)} : ∀ r ∈ roI rs, r.length = 1 := by
  intro r hr
  obtain ⟨o, _, rfl⟩ := List.mem_map.1 hr
  rfl
theorem roI_imp (n : Nat) : ImpL (List.replicate n [Tr.raw (.slice none 0 0)]).flatten (roI (List.replicate n [])).flatten := by
  induction n with
  | zero => exact .nil
  | succ n ih =>
    unfold roI at ih ⊢
    rw [List.replicate_succ, List.replicate_succ, List.map_cons, List.flatten_cons, List.flatten_cons]
    exact .cons Imp.nil ih
section spl
variable (l : List Stop) (h : Spot) (s : Int)
def wayO (o : List Int) : Int := match drv l h o h s [] 0 0 with
  | none => 0
  | some (_, _, w, _) => w
def insT (o : List Int) (x : Int) : ISt := insG l h s o x 0 (o.length + 1) ([], 0, false)
abbrev SS := Int × Int × List Int
def splK (rs : List (List Int)) (i : Nat) (k : Nat) (st : SS) : SS :=
  if (insT l h s (rs.getD k []) i).2.2 = true ∧ (st.1 < 0 ∨ (insT l h s (rs.getD k []) i).2.1 - wayO l h s (rs.getD k []) < st.2.1) then (k, (insT l h s (rs.getD k []) i).2.1 - wayO l h s (rs.getD k []), (insT l h s (rs.getD k []) i).1) else st
def splI (i : Nat) (rs : List (List Int)) : List (List Int) :=
  if 0 ≤ (itF (splK l h s rs i) 0 rs.length (-1, 0, [])).1 then rs.set (itF (splK l h s rs i) 0 rs.length (-1, 0, [])).1.toNat (itF (splK l h s rs i) 0 rs.length (-1, 0, [])).2.2 else rs
def splE (c : Int) : Tr := if c < 1 ∨ 10 < c then .tup [.sl 1 [], .int 1] else .tup [.sl 1 (roI (itF (splI l h s) 0 l.length (List.replicate c.toNat []))), .int 0]
/-- a route that holds stops before the i-th alone -/
def okR (i : Nat) (o : List Int) : Prop := ordersE l.length o = 0 ∧ (∃ r, drv l h o h s [] 0 0 = some r) ∧ (∀ y ∈ o, y < (i : Int)) ∧ o.length ≤ i
end spl
section spl
variable {l : List Stop} {h : Spot} {s : Int}
theorem okR_nil : okR l h s 0 [] := ⟨rfl, ⟨_, rfl⟩, by simp, Nat.le_refl 0⟩
theorem okR_mono {i : Nat} {o : List Int} (ho : okR l h s i o) : okR l h s (i + 1) o := ⟨ho.1, ho.2.1, fun y hy => by have := ho.2.2.1 y hy; omega, by have := ho.2.2.2; omega⟩
theorem okR_new {i : Nat} {o : List Int} (ho : okR l h s i o) : (i : Int) ∉ o := fun hm => by have := ho.2.2.1 _ hm; omega
theorem insG_ok {o : List Int} {x : Int} : ∀ (n k : Nat) (st : ISt), (st.2.2 = true → ∃ j, j ≤ o.length ∧ st.1 = insAt o j x ∧ ∃ bs e q, drv l h st.1 h s [] 0 0 = some (bs, e, st.2.1, q)) → k + n ≤ o.length + 1 →
    (insG l h s o x k n st).2.2 = true → ∃ j, j ≤ o.length ∧ (insG l h s o x k n st).1 = insAt o j x ∧ ∃ bs e q, drv l h (insG l h s o x k n st).1 h s [] 0 0 = some (bs, e, (insG l h s o x k n st).2.1, q)
  | 0, k, st, hst, _, hf => hst hf
  | n + 1, k, st, hst, hk, hf => by
    rw [insG] at hf ⊢
    refine insG_ok n (k + 1) _ ?_ (by omega) hf
    unfold insS
    cases hd : drv l h (insAt o k x) h s [] 0 0 with
    | none => exact hst
    | some r =>
      obtain ⟨bs, e, w, q⟩ := r
      simp only
      by_cases hc : st.2.2 = false ∨ w < st.2.1
      · rw [if_pos hc]
        exact fun _ => ⟨k, by omega, rfl, bs, e, q, hd⟩
      · rw [if_neg hc]
        exact hst
theorem insT_ok {i : Nat} {o : List Int} (ho : okR l h s i o) (hi : i < l.length) (hf : (insT l h s o i).2.2 = true) : okR l h s (i + 1) (insT l h s o i).1 ∧ wayO l h s (insT l h s o i).1 = (insT l h s o i).2.1 := by
  obtain ⟨j, hj, he, bs, e, q, hd⟩ := insG_ok (l := l) (h := h) (s := s) (o := o) (x := (i : Int)) (o.length + 1) 0 ([], 0, false) (fun h => nomatch h) (by omega) hf
  unfold insT
  refine ⟨⟨?_, ⟨_, hd⟩, ?_, ?_⟩, by unfold wayO; rw [hd]⟩
  · rw [he]
    exact insAt_ok ho.1 (by omega) (okR_new ho)
  · intro y hy
    rw [he] at hy
    rcases insAt_mem hy with hm | hm
    · have := ho.2.2.1 y hm; omega
    · omega
  · rw [he, insAt_len hj]
    have := ho.2.2.2
    omega
theorem wayO_bd {i : Nat} {o : List Int} (ht : tripE h l s = 0) (ho : okR l h s i o) : 0 ≤ wayO l h s o ∧ wayO l h s o ≤ 40000 * (i + 1) := by
  obtain ⟨⟨bs, e, w, q⟩, hd⟩ := ho.2.1
  have hst := (stops_ok (trip_ok ht).1).2
  have hhb := (trip_ok ht).2.1
  have := drv_le hst hhb _ _ _ _ _ _ hhb hd
  have := ho.2.2.2
  unfold wayO
  rw [hd]
  simp only
  omega
/-- the state of the inner loop is in order -/
def okS (l : List Stop) (h : Spot) (s : Int) (rs : List (List Int)) (i : Nat) (st : SS) : Prop := st.1 = -1 ∨ (0 ≤ st.1 ∧ st.1 < rs.length ∧ okR l h s (i + 1) st.2.2 ∧ st.2.1 = wayO l h s st.2.2 - wayO l h s (rs.getD st.1.toNat []))
theorem okS_step {rs : List (List Int)} {i k : Nat} {st : SS} (hrs : ∀ o ∈ rs, okR l h s i o) (hi : i < l.length) (hk : k < rs.length) (hst : okS l h s rs i st) : okS l h s rs i (splK l h s rs i k st) := by
  unfold splK
  by_cases hc : (insT l h s (rs.getD k []) i).2.2 = true ∧ (st.1 < 0 ∨ (insT l h s (rs.getD k []) i).2.1 - wayO l h s (rs.getD k []) < st.2.1)
  · rw [if_pos hc]
    have hm : rs.getD k [] ∈ rs := by
      rw [List.getD_eq_getElem?_getD, List.getElem?_eq_getElem hk]
      exact List.getElem_mem hk
    obtain ⟨h1, h2⟩ := insT_ok (hrs _ hm) hi hc.1
    exact .inr ⟨by simp, by simp; exact hk, h1, by
      show _ = _ - wayO l h s (rs.getD (k : Int).toNat [])
      rw [Int.toNat_natCast, h2]⟩
  · rw [if_neg hc]
    exact hst
theorem okS_all {rs : List (List Int)} {i : Nat} (hrs : ∀ o ∈ rs, okR l h s i o) (hi : i < l.length) : ∀ (n k : Nat) (st : SS), k + n ≤ rs.length → okS l h s rs i st → okS l h s rs i (itF (splK l h s rs i) k n st)
  | 0, _, _, _, hst => hst
  | n + 1, k, st, hk, hst => okS_all hrs hi n (k + 1) _ (by omega) (okS_step hrs hi (by omega) hst)
end spl
end Lg
end
section
set_option linter.all false
set_option maxRecDepth 100000
set_option maxHeartbeats 8000000
namespace Lg
open Go Go.Proofs

/-! ### Best, in plain terms -/
/-- a route driven, without the way home: where one is, since when, and how far it was -/
def drvP (l : List Stop) : List Int → Spot → Int → Int → Option (Spot × Int × Int)
  | [], a, now, w => some (a, now, w)
  | i :: o, a, now, w => match l[i.toNat]? with
    | none => none
    | some s => if s.t < max (now + farI a s.spot) s.f then none else drvP l o s.spot (max (now + farI a s.spot) s.f + s.n) (w + farI a s.spot)
theorem drvP_drv {l : List Stop} {h : Spot} : ∀ (o : List Int) (a : Spot) (now : Int) (bs : List Int) (w q : Int), match drvP l o a now w with
    | none => drv l h o a now bs w q = none
    | some (a2, now2, w2) => ∃ bs2 q2, drv l h o a now bs w q = some (bs2, now2 + farI a2 h, w2 + farI a2 h, q2)
  | [], a, now, bs, w, q => by rw [drvP, drv]; exact ⟨_, _, rfl⟩
  | i :: o, a, now, bs, w, q => by
    rw [drvP, drv]
    cases hs : l[i.toNat]? with
    | none => rfl
    | some s =>
      simp only
      by_cases hc : s.t < max (now + farI a s.spot) s.f
      · rw [if_pos hc, if_pos hc]
      · rw [if_neg hc, if_neg hc]
        exact drvP_drv o _ _ _ _ _
theorem drvP_snoc {l : List Stop} {i : Int} : ∀ (o : List Int) (a : Spot) (now w : Int), drvP l (o ++ [i]) a now w = match drvP l o a now w with
    | none => none
    | some (a2, now2, w2) => drvP l [i] a2 now2 w2
  | [], a, now, w => by rw [List.nil_append, drvP.eq_1]
  | j :: o, a, now, w => by
    rw [List.cons_append, drvP, drvP]
    cases hs : l[j.toNat]? with
    | none => rfl
    | some s =>
      simp only
      by_cases hc : s.t < max (now + farI a s.spot) s.f
      · rw [if_pos hc, if_pos hc]
      · rw [if_neg hc, if_neg hc]
        exact drvP_snoc o _ _ _
theorem farI_tri (a b c : Spot) : farI a c ≤ farI a b + farI b c := by
  unfold farI
  omega
abbrev BS := List Int × Int
section bst
variable (l : List Stop) (h : Spot) (s : Int)
/-- all routes tried -/
def tryR : Nat → List Int → BS → BS
  | 0, pre, st => match drvP l pre h s 0 with
    | none => st
    | some (a, _, w) => if st.2 < 0 ∨ w + farI a h < st.2 then (pre, w + farI a h) else st
  | n + 1, pre, st => match drvP l pre h s 0 with
    | none => st
    | some _ => itF (fun k st => if (k : Int) ∈ pre then st else tryR n (pre ++ [(k : Int)]) st) 0 l.length st
/-- the same, with the hopeless ones left out -/
def seekD : Nat → List Int → Spot → Int → Int → BS → BS
  | 0, pre, a, _, w, st => if 0 ≤ st.2 ∧ st.2 ≤ w + farI a h then st else (pre, w + farI a h)
  | n + 1, pre, a, now, w, st => if 0 ≤ st.2 ∧ st.2 ≤ w + farI a h then st else itF (fun k st => match l[k]? with
    | none => st
    | some x => if (k : Int) ∈ pre ∨ x.t < max (now + farI a x.spot) x.f then st else seekD n (pre ++ [(k : Int)]) x.spot (max (now + farI a x.spot) x.f + x.n) (w + farI a x.spot) st) 0 l.length st
end bst
theorem itF_same {σ : Type} {f g : Nat → σ → σ} {D : Nat} (h : ∀ k s, k < D → f k s = g k s) : ∀ (n k : Nat) (s : σ), k + n ≤ D → itF f k n s = itF g k n s
  | 0, _, _, _ => rfl
  | n + 1, k, s, hk => by rw [itF, itF, h k s (by omega), itF_same h n (k + 1) _ (by omega)]
theorem itF_id {σ : Type} {f : Nat → σ → σ} {D : Nat} {s : σ} (h : ∀ k, k < D → f k s = s) : ∀ (n k : Nat), k + n ≤ D → itF f k n s = s
  | 0, _, _ => rfl
  | n + 1, k, hk => by rw [itF, h k (by omega), itF_id h n (k + 1) (by omega)]
section bst
variable {l : List Stop} {h : Spot} {s : Int}
theorem drvP_one {k : Nat} {x : Stop} {a : Spot} {now w : Int} (hx : l[k]? = some x) : drvP l [(k : Int)] a now w = if x.t < max (now + farI a x.spot) x.f then none else some (x.spot, max (now + farI a x.spot) x.f + x.n, w + farI a x.spot) := by
  rw [drvP, Int.toNat_natCast, hx]
  rfl
theorem tryR_none {n : Nat} {pre : List Int} {st : BS} (hd : drvP l pre h s 0 = none) : tryR l h s n pre st = st := by
  cases n <;> (rw [tryR, hd])
theorem tryR_cut : ∀ (n : Nat) (pre : List Int) (a : Spot) (now w : Int) (st : BS), drvP l pre h s 0 = some (a, now, w) → 0 ≤ st.2 → st.2 ≤ w + farI a h → tryR l h s n pre st = st
  | 0, pre, a, now, w, st, hd, h1, h2 => by
    rw [tryR, hd]
    simp only
    rw [if_neg (by omega)]
  | n + 1, pre, a, now, w, st, hd, h1, h2 => by
    rw [tryR, hd]
    simp only
    refine itF_id (D := l.length) (fun k hk => ?_) _ _ (by omega)
    by_cases hm : (k : Int) ∈ pre
    · rw [if_pos hm]
    · rw [if_neg hm]
      obtain ⟨x, hx⟩ := at_lt hk
      have hs := drvP_snoc (l := l) (i := (k : Int)) pre h s 0
      rw [hd] at hs
      simp only at hs
      rw [drvP_one hx] at hs
      by_cases hc : x.t < max (now + farI a x.spot) x.f
      · rw [if_pos hc] at hs
        exact tryR_none hs
      · rw [if_neg hc] at hs
        have := farI_tri a x.spot h
        exact tryR_cut n _ _ _ _ _ hs h1 (by omega)
theorem seek_try : ∀ (n : Nat) (pre : List Int) (a : Spot) (now w : Int) (st : BS), drvP l pre h s 0 = some (a, now, w) → seekD l h n pre a now w st = tryR l h s n pre st
  | 0, pre, a, now, w, st, hd => by
    rw [seekD, tryR, hd]
    simp only
    by_cases hc : 0 ≤ st.2 ∧ st.2 ≤ w + farI a h
    · rw [if_pos hc, if_neg (by omega)]
    · rw [if_neg hc, if_pos (by omega)]
  | n + 1, pre, a, now, w, st, hd => by
    by_cases hc : 0 ≤ st.2 ∧ st.2 ≤ w + farI a h
    · rw [tryR_cut _ _ _ _ _ _ hd hc.1 hc.2, seekD, if_pos hc]
    · rw [seekD, tryR, hd, if_neg hc]
      simp only
      refine itF_same (D := l.length) (fun k st hk => ?_) _ _ _ (by omega)
      obtain ⟨x, hx⟩ := at_lt hk
      rw [hx]
      simp only
      have hs := drvP_snoc (l := l) (i := (k : Int)) pre h s 0
      rw [hd] at hs
      simp only at hs
      rw [drvP_one hx] at hs
      by_cases hm : (k : Int) ∈ pre
      · rw [if_pos hm, if_pos (.inl hm)]
      · rw [if_neg hm]
        by_cases hc : x.t < max (now + farI a x.spot) x.f
        · rw [if_pos hc] at hs
          rw [if_pos (.inr hc), tryR_none hs]
        · rw [if_neg hc] at hs
          rw [if_neg (by simp only [hm, hc, or_self, not_false_eq_true]), seek_try n _ _ _ _ _ hs]
end bst
end Lg
end
section
set_option linter.all false
set_option maxRecDepth 100000
set_option maxHeartbeats 8000000
namespace Lg
open Go Go.Proofs

/-- a copy of an owned slice: one of its own, or a settled one -/
theorem cloneOO_int {ad : Option Addr} {n cap : Nat} (rows : List (List Tr)) (hn : n = rows.length) (hl : rows.length ≤ 1000000) : Spec Tryd.prog 43 [Tr.raw (.slice ad n cap)] [Chunk.own ad cap 1 3 rows] (fun r cs => ∃ ad2 cap2, r = Tr.raw (.slice ad2 n cap2) ∧ cs = Chunk.own ad2 cap2 1 3 rows :: [Chunk.own ad cap 1 3 rows]) := by
  refine Spec.body Tryd.func43 rfl rfl (Tryd.ntmps43) rfl fun w0 own0 M => ?_
  cases ad with
  | none =>
    refine Cw.own_none (List.Perm.refl _) fun h1 h2 => ?_
    subst h1
    subst h2
    subst hn
    refine Cw.ent (Ent.nil 1 3) ?_
    repeat' (first | refine goH ?_ | (refine Ops.k_b_eql ?_; first | (refine Ops.eql_nilR rfl rfl ?_)) | refine goV ?_ | refine goC (fun ad cap => ?_) | refine goI ?_ | (refine Cw.k_cond ?_; first | (refine Cw.cond_dec rfl (fun hc => ?_) (fun hc => ?_) <;> try (exfalso; omega)) | refine Cw.cond_bool rfl (fun hc => ?_) (fun hc => ?_)) | fail)
    exact Fin.ret Ent.refl (Outs.one rfl rfl) ⟨_, _, rfl, rfl⟩
  | some a =>
    repeat' (first | refine goH ?_ | (refine Ops.k_b_eql ?_; first | (refine Ops.eql_nilR rfl rfl ?_)) | ((fail_if_success refine Ops.k_buildSlice ?_); refine goV ?_) | ((fail_if_success refine Ops.k_buildSlice ?_); refine goC (fun ad cap => ?_)) | refine goI ?_ | (refine Cw.k_cond ?_; first | (refine Cw.cond_dec rfl (fun hc => ?_) (fun hc => ?_) <;> try (exfalso; omega)) | refine Cw.cond_bool rfl (fun hc => ?_) (fun hc => ?_)) | fail)
    refine Ops.buildSlice_own (by exact Parts.nil) rfl rfl rfl (fun ad2 cap2 => ?_)
    repeat' (first | refine goH ?_ | ((fail_if_success refine Ops.k_c_append ?_); refine goV ?_) | ((fail_if_success refine Ops.k_c_append ?_); refine goC (fun ad cap => ?_)) | refine goI ?_ | (refine Cw.k_cond ?_; first | (refine Cw.cond_dec rfl (fun hc => ?_) (fun hc => ?_) <;> try (exfalso; omega)) | refine Cw.cond_bool rfl (fun hc => ?_) (fun hc => ?_)) | fail)
    refine Ops.append_ownR rfl rfl (List.Perm.refl _) rfl hn (by simp; omega) (by simp; omega) rfl (fun ad3 cap3 => ?_)
    rw [show ∀ z : List (List Tr), z = [] → z ++ rows = rows from fun z h => by rw [h]; rfl]
    rotate_left
    · rfl
    repeat' (first | refine goH ?_ | refine goV ?_ | refine goC (fun ad cap => ?_) | refine goI ?_ | (refine Cw.k_cond ?_; first | (refine Cw.cond_dec rfl (fun hc => ?_) (fun hc => ?_) <;> try (exfalso; omega)) | refine Cw.cond_bool rfl (fun hc => ?_) (fun hc => ?_)) | fail)
    rw [hn]
    exact Fin.ret Ent.refl (Outs.one rfl rfl) ⟨_, _, rfl, rfl⟩
theorem cloneS_int {ad : Option Addr} {n cap : Nat} (rows : List (List Tr)) (hn : n = rows.length) (hl : rows.length ≤ 1000000) : Spec Tryd.prog 43 [Tr.raw (.slice ad n cap)] [Chunk.own ad cap 1 3 rows] (fun r cs => r = .sl 1 rows ∧ cs = [Chunk.own ad cap 1 3 rows]) := by
  refine Spec.body Tryd.func43 rfl rfl (Tryd.ntmps43) rfl fun w0 own0 M => ?_
  cases ad with
  | none =>
    refine Cw.own_none (List.Perm.refl _) fun h1 h2 => ?_
    subst h1
    subst h2
    subst hn
    repeat' (first | refine goH ?_ | (refine Ops.k_b_eql ?_; first | (refine Ops.eql_nilR rfl rfl ?_)) | refine goV ?_ | refine goC (fun ad cap => ?_) | refine goI ?_ | (refine Cw.k_cond ?_; first | (refine Cw.cond_dec rfl (fun hc => ?_) (fun hc => ?_) <;> try (exfalso; omega)) | refine Cw.cond_bool rfl (fun hc => ?_) (fun hc => ?_)) | fail)
    exact Fin.ret (Ent.nilsl 1 (s := 2) rfl) (Outs.one rfl rfl) ⟨rfl, rfl⟩
  | some a =>
    repeat' (first | refine goH ?_ | (refine Ops.k_b_eql ?_; first | (refine Ops.eql_nilR rfl rfl ?_)) | ((fail_if_success refine Ops.k_buildSlice ?_); refine goV ?_) | ((fail_if_success refine Ops.k_buildSlice ?_); refine goC (fun ad cap => ?_)) | refine goI ?_ | (refine Cw.k_cond ?_; first | (refine Cw.cond_dec rfl (fun hc => ?_) (fun hc => ?_) <;> try (exfalso; omega)) | refine Cw.cond_bool rfl (fun hc => ?_) (fun hc => ?_)) | fail)
    refine Ops.buildSlice_own (by exact Parts.nil) rfl rfl rfl (fun ad2 cap2 => ?_)
    repeat' (first | refine goH ?_ | ((fail_if_success refine Ops.k_c_append ?_); refine goV ?_) | ((fail_if_success refine Ops.k_c_append ?_); refine goC (fun ad cap => ?_)) | refine goI ?_ | (refine Cw.k_cond ?_; first | (refine Cw.cond_dec rfl (fun hc => ?_) (fun hc => ?_) <;> try (exfalso; omega)) | refine Cw.cond_bool rfl (fun hc => ?_) (fun hc => ?_)) | fail)
    refine Ops.append_ownR rfl rfl (List.Perm.refl _) rfl hn (by simp; omega) (by simp; omega) rfl (fun ad3 cap3 => ?_)
    rw [show ∀ z : List (List Tr), z = [] → z ++ rows = rows from fun z h => by rw [h]; rfl]
    rotate_left
    · rfl
    repeat' (first | refine goH ?_ | refine goV ?_ | refine goC (fun ad cap => ?_) | refine goI ?_ | (refine Cw.k_cond ?_; first | (refine Cw.cond_dec rfl (fun hc => ?_) (fun hc => ?_) <;> try (exfalso; omega)) | refine Cw.cond_bool rfl (fun hc => ?_) (fun hc => ?_)) | fail)
    exact Fin.ret (Ent.settle (s := 2) (ad := ad3) (cap := cap3) (cf := [Chunk.own (some a) cap 1 3 rows]) rfl (List.Perm.refl _) rfl) (Outs.one rfl rfl) ⟨rfl, rfl⟩

/-! ### which stops are on a route -/
def inR (n : Nat) (pre : List Int) : List (List Tr) := (List.range n).map fun (k : Nat) => [Tr.bool (decide ((k : Int) ∈ pre))]
theorem inR_len (n : Nat) (pre : List Int) : (inR n pre).length = n := by
  unfold inR
  rw [List.length_map, List.length_range]
theorem inR_get (n : Nat) (pre : List Int) (k : Nat) : (inR n pre)[k]? = if k < n then some [Tr.bool (decide ((k : Int) ∈ pre))] else none := by
  unfold inR
  rw [List.getElem?_map]
  by_cases hk : k < n
  · rw [if_pos hk, List.getElem?_range hk]; rfl
  · rw [if_neg hk, List.getElem?_eq_none (by rw [List.length_range]; omega)]; rfl
theorem inR_at {n : Nat} {pre : List Int} {k : Nat} (hk : k < n) : (inR n pre)[k]? = some [Tr.bool (decide ((k : Int) ∈ pre))] := by rw [inR_get, if_pos hk]
theorem inR_set {n : Nat} {pre : List Int} {k : Nat} (hk : k < n) : (inR n pre).set k [Tr.bool true] = inR n (pre ++ [(k : Int)]) := by
  apply List.ext_getElem?
  intro j
  rw [List.getElem?_set, inR_len, inR_get, inR_get]
  by_cases h : k = j
  · subst h
    rw [if_pos rfl, if_pos hk, if_pos hk]
    simp
  · rw [if_neg h]
    have : ((j : Int) ∈ pre ++ [(k : Int)]) ↔ ((j : Int) ∈ pre) := by
      simp
      omega
    simp only [this]
theorem inR_back {n : Nat} {pre : List Int} {k : Nat} (hk : k < n) (hn : (k : Int) ∉ pre) : (inR n (pre ++ [(k : Int)])).set k [Tr.bool false] = inR n pre := by
  apply List.ext_getElem?
  intro j
  rw [List.getElem?_set, inR_len, inR_get, inR_get]
  by_cases h : k = j
  · subst h
    rw [if_pos rfl, if_pos hk, if_pos hk, decide_eq_false hn]
  · rw [if_neg h]
    have : ((j : Int) ∈ pre ++ [(k : Int)]) ↔ ((j : Int) ∈ pre) := by
      simp
      omega
    simp only [this]
abbrev skC (b : Nat) (h : Spot) (l : List Stop) (s : Int) (ad : Option Addr) (cap : Nat) (ad2 : Option Addr) (cap2 : Nat) (pre : List Int) (st : BS) : List Chunk :=
  [Chunk.box b 72 [.int h.x, .int h.y, .stops l, .int s, Tr.raw (.slice ad pre.length cap), Tr.raw (.slice ad2 l.length cap2), .ints st.1, .int st.2], Chunk.own ad cap 1 3 (intRows pre), Chunk.own ad2 cap2 1 4 (inR l.length pre)]
theorem seekD_cut {l : List Stop} {h : Spot} {n : Nat} {pre : List Int} {a : Spot} {now w : Int} {st : BS} (hc : 0 ≤ st.2 ∧ st.2 ≤ w + farI a h) : seekD l h n pre a now w st = st := by
  cases n <;> (rw [seekD, if_pos hc])
attribute [local irreducible] intRows inR seekD itF drvP tripE
theorem seek_fn (h : Spot) (l : List Stop) (s : Int) (ht : tripE h l s = 0) (bk : Nat) (ad2 : Option Addr) (cap2 : Nat) : ∀ (n : Nat) (pre : List Int) (a : Spot) (now w : Int) (st : BS) (ad : Option Addr) (cap : Nat),
    pre.length + n = l.length → spotB a = true → (0 ≤ now ∧ now ≤ 3000) → (0 ≤ w ∧ w ≤ 40000 * pre.length) →
    Spec Tryd.prog 38 [Tr.raw (.pointer (some ⟨bk, 0, none⟩)), .agg [.int a.x, .int a.y], .int now, .int w] (skC bk h l s ad cap ad2 cap2 pre st)
      (fun r cs => r = .tup [] ∧ ∃ ad' cap', cs = skC bk h l s ad' cap' ad2 cap2 pre (seekD l h n pre a now w st)) := by
  intro n
  have hst := (stops_ok (trip_ok ht).1).2
  have hl60 := (stops_ok (trip_ok ht).1).1
  have hhb := (trip_ok ht).2.1
  have hL : (l.map Stop.row).length = l.length := List.length_map _
  induction n with
  | zero =>
    intro pre a now w st ad cap hn hab hnow hw
    have hpl := intRows_len pre
    have kC := cloneS_int (ad := ad) (cap := cap) (n := pre.length) (intRows pre) hpl.symm (by omega)
    have kF : PFn Tryd.prog 39 [.agg [.int a.x, .int a.y], .agg [.int h.x, .int h.y]] (· = .int (farI a h)) := far_ok hab hhb
    have hfb := farI_bd hab hhb
    obtain ⟨B, m⟩ := st
    have hpl2 : pre.length = (l.map Stop.row).length := by omega
    by_cases hc : 0 ≤ m ∧ m ≤ w + farI a h
    · rw [seekD_cut hc]
      generalize farI a h = g at *
      refine Spec.body Tryd.func38 rfl rfl (Tryd.ntmps38) rfl fun w0 own0 M => ?_
      repeat' (first | refine goH ?_ | refine goV ?_ | refine goB (fun b => ?_) | refine goC (fun ad cap => ?_) | refine goG ?_ | (refine Ops.k_guard ?_; first | (refine Ops.guard_dec rfl rfl (fun hc => ?_) (fun hc => ?_) <;> try (exfalso; omega)) | refine Ops.guard_split rfl rfl (fun hc => ?_) (fun hc => ?_)) | refine goI ?_ | (refine Cw.k_cond ?_; first | (refine Cw.cond_dec rfl (fun hc => ?_) (fun hc => ?_) <;> try (exfalso; omega)) | refine Cw.cond_bool rfl (fun hc => ?_) (fun hc => ?_)) | (refine Ops.k_calla ?_; first | (refine Ops.k_callf 39 ?_; refine Ops.callV kF (Evs.cons rfl (Evs.cons rfl Evs.nil)) rfl ?_)) | (apply OpW.k_call; first | (apply OpW.k_callf 39; exact OpW.callV kF (Evs.cons rfl (Evs.cons rfl Evs.nil)))) | refine goR ?_ | refine goP ?_ | apply PSeq.cons | apply PSeq.yes rfl rfl rfl | exact goW | fail)
      exact Fin.ret (Ent.take goTk) (Outs.zero rfl) ⟨rfl, ad, cap, rfl⟩
    · have hs : seekD l h 0 pre a now w (B, m) = (pre, w + farI a h) := by
        rw [seekD, if_neg hc]
      rw [hs]
      generalize farI a h = g at *
      clear hs
      refine Spec.body Tryd.func38 rfl rfl (Tryd.ntmps38) rfl fun w0 own0 M => ?_
      by_cases hm0 : 0 ≤ m
      all_goals
        repeat' (first | refine goH ?_ | refine goV ?_ | refine goB (fun b => ?_) | refine goC (fun ad cap => ?_) | refine goG ?_ | (refine Ops.k_guard ?_; first | (refine Ops.guard_dec rfl rfl (fun hc => ?_) (fun hc => ?_) <;> try (exfalso; omega)) | refine Ops.guard_split rfl rfl (fun hc => ?_) (fun hc => ?_)) | refine goI ?_ | (refine Cw.k_cond ?_; first | (refine Cw.cond_dec rfl (fun hc => ?_) (fun hc => ?_) <;> try (exfalso; omega)) | refine Cw.cond_bool rfl (fun hc => ?_) (fun hc => ?_)) | (refine Ops.k_calla ?_; first | (refine Ops.k_callf 39 ?_; refine Ops.callV kF (Evs.cons rfl (Evs.cons rfl Evs.nil)) rfl ?_)) | (apply OpW.k_call; first | (apply OpW.k_callf 39; exact OpW.callV kF (Evs.cons rfl (Evs.cons rfl Evs.nil)))) | refine goR ?_ | refine goP ?_ | apply PSeq.cons | apply PSeq.yes rfl rfl rfl | exact goW | fail)
        first | refine Cw.region_YP (fun ξ S => Chunk.box b 30 [.int a.x, .int a.y] :: Chunk.box bk 72 [.int h.x, .int h.y, .stops l, .int s, Tr.raw (.slice ad pre.length cap), Tr.raw (.slice ad2 l.length cap2), stg (S 18) (.ints B) (.ints pre), stg (S 21) (.int m) (.int (w + g))] :: Chunk.own ad cap 1 3 (intRows pre) :: Chunk.own ad2 cap2 1 4 (inR l.length pre) :: []) rfl (by decide +kernel) rfl ((fun (ξ : Nat → Value) (S : Nat → Bool) => Chunk.box b 30 [.int a.x, .int a.y] :: Chunk.box bk 72 [.int h.x, .int h.y, .stops l, .int s, Tr.raw (.slice ad pre.length cap), Tr.raw (.slice ad2 l.length cap2), stg (S 18) (.ints B) (.ints pre), stg (S 21) (.int m) (.int (w + g))] :: Chunk.own ad cap 1 3 (intRows pre) :: Chunk.own ad2 cap2 1 4 (inR l.length pre) :: []) (fun _ => undef) (fun _ => false)) (by simp only [upd_same, updD_same, upd_ne, updD_ne, ne_eq, Nat.reduceEqDiff, not_false_eq_true, stg_t, stg_f, vAd_s, vCap_s, blk_p, List.cons_append, List.nil_append, b2n_t, b2n_f]; exact goXm) (fun _ => rfl) ?_ | fail
        apply YSeq.w (by intro _ _ _; rfl)
        · intro ξ S h1 h2 h3 h4
          have hN0_18 := closed_false h1 h3 (k := 18) rfl (by decide)
          have hN0_21 := closed_false h1 h3 (k := 21) rfl (by decide)
          try simp only [upd_same, updD_same, upd_ne, updD_ne, ne_eq, Nat.reduceEqDiff, not_false_eq_true, stg_t, stg_f, vAd_s, vCap_s, blk_p, List.cons_append, List.nil_append, b2n_t, b2n_f, hN0_18, hN0_21]
          exact goW
        · intro ξ v; rfl
        · intro ξ k v S h3 hn hk
          first
          | rfl
        apply YSeq.w (by intro _ _ _; rfl)
        · intro ξ S h1 h2 h3 h4
          have hN1_21 := closed_false h1 h3 (k := 21) rfl (by decide)
          try simp only [upd_same, updD_same, upd_ne, updD_ne, ne_eq, Nat.reduceEqDiff, not_false_eq_true, stg_t, stg_f, vAd_s, vCap_s, blk_p, List.cons_append, List.nil_append, b2n_t, b2n_f, hN1_21]
          exact goW
        · intro ξ v; rfl
        · intro ξ k v S h3 hn hk
          first
          | rfl
        apply YSeq.w (by intro _ _ _; rfl)
        · intro ξ S h1 h2 h3 h4
          have hN2_18 := closed_false h1 h3 (k := 18) rfl (by decide)
          have hN2_21 := closed_false h1 h3 (k := 21) rfl (by decide)
          try simp only [upd_same, updD_same, upd_ne, updD_ne, ne_eq, Nat.reduceEqDiff, not_false_eq_true, stg_t, stg_f, vAd_s, vCap_s, blk_p, List.cons_append, List.nil_append, b2n_t, b2n_f, hN2_18, hN2_21]
          exact goW
        · intro ξ v; rfl
        · intro ξ k v S h3 hn hk
          first
          | rfl
        apply YSeq.w (by intro _ _ _; rfl)
        · intro ξ S h1 h2 h3 h4
          have hN3_18 := closed_false h1 h3 (k := 18) rfl (by decide)
          have hN3_21 := closed_false h1 h3 (k := 21) rfl (by decide)
          try simp only [upd_same, updD_same, upd_ne, updD_ne, ne_eq, Nat.reduceEqDiff, not_false_eq_true, stg_t, stg_f, vAd_s, vCap_s, blk_p, List.cons_append, List.nil_append, b2n_t, b2n_f, hN3_18, hN3_21]
          exact goW
        · intro ξ v; rfl
        · intro ξ k v S h3 hn hk
          first
          | rfl
        apply YSeq.w (by intro _ _ _; rfl)
        · intro ξ S h1 h2 h3 h4
          have hN4_18 := closed_false h1 h3 (k := 18) rfl (by decide)
          have hN4_21 := closed_false h1 h3 (k := 21) rfl (by decide)
          try simp only [upd_same, updD_same, upd_ne, updD_ne, ne_eq, Nat.reduceEqDiff, not_false_eq_true, stg_t, stg_f, vAd_s, vCap_s, blk_p, List.cons_append, List.nil_append, b2n_t, b2n_f, hN4_18, hN4_21]
          exact goW
        · intro ξ v; rfl
        · intro ξ k v S h3 hn hk
          first
          | rfl
        apply YSeq.w (by intro _ _ _; rfl)
        · intro ξ S h1 h2 h3 h4
          have hN5_18 := closed_false h1 h3 (k := 18) rfl (by decide)
          have hN5_21 := closed_false h1 h3 (k := 21) rfl (by decide)
          try simp only [upd_same, updD_same, upd_ne, updD_ne, ne_eq, Nat.reduceEqDiff, not_false_eq_true, stg_t, stg_f, vAd_s, vCap_s, blk_p, List.cons_append, List.nil_append, b2n_t, b2n_f, hN5_18, hN5_21]
          exact goW
        · intro ξ v; rfl
        · intro ξ k v S h3 hn hk
          first
          | rfl
        apply YSeq.callC
        · intro ξ S h1 h2 h3 h4
          have hN6_18 := closed_false h1 h3 (k := 18) rfl (by decide)
          have hN6_21 := closed_false h1 h3 (k := 21) rfl (by decide)
          try simp only [upd_same, updD_same, upd_ne, updD_ne, ne_eq, Nat.reduceEqDiff, not_false_eq_true, stg_t, stg_f, vAd_s, vCap_s, blk_p, List.cons_append, List.nil_append, b2n_t, b2n_f, hN6_18, hN6_21]
          exact ⟨_, _, _, _, kC, (Evs.cons rfl Evs.nil), goXp, fun v => (by first | exact goXp | (simp only [upd_same, updD_same, upd_ne, updD_ne, ne_eq, Nat.reduceEqDiff, not_false_eq_true, stg_t, stg_f, vAd_s, vCap_s, blk_p, List.cons_append, List.nil_append, b2n_t, b2n_f]; exact goXp))⟩
        · intro ξ v; rfl
        · intro ξ k v S h3 hn hk
          first
          | rfl
        apply YSeq.w (by intro _ _ _; rfl)
        · intro ξ S h1 h2 h3 h4
          have hN7_21 := closed_false h1 h3 (k := 21) rfl (by decide)
          try simp only [upd_same, updD_same, upd_ne, updD_ne, ne_eq, Nat.reduceEqDiff, not_false_eq_true, stg_t, stg_f, vAd_s, vCap_s, blk_p, List.cons_append, List.nil_append, b2n_t, b2n_f, hN7_21]
          exact goW
        · intro ξ v; rfl
        · intro ξ k v S h3 hn hk
          first
          | rfl
        apply YSeq.w (by intro _ _ _; rfl)
        · intro ξ S h1 h2 h3 h4
          have hN8_14 := closed_false h1 h3 (k := 14) rfl (by decide)
          have hN8_18 := closed_false hN8_14 h3 (k := 18) rfl (by decide)
          have hN8_21 := closed_false h1 h3 (k := 21) rfl (by decide)
          try simp only [upd_same, updD_same, upd_ne, updD_ne, ne_eq, Nat.reduceEqDiff, not_false_eq_true, stg_t, stg_f, vAd_s, vCap_s, blk_p, List.cons_append, List.nil_append, b2n_t, b2n_f, hN8_18, hN8_21]
          exact goW
        · intro ξ v; rfl
        · intro ξ k v S h3 hn hk
          first
          | rfl
        apply YSeq.w (by intro _ _ _; rfl)
        · intro ξ S h1 h2 h3 h4
          have hN9_10 := closed_false h1 h3 (k := 10) rfl (by decide)
          have hN9_11 := closed_false hN9_10 h3 (k := 11) rfl (by decide)
          have hN9_12 := closed_false hN9_11 h3 (k := 12) rfl (by decide)
          have hN9_13 := closed_false hN9_12 h3 (k := 13) rfl (by decide)
          have hN9_18 := closed_false hN9_13 h3 (k := 18) rfl (by decide)
          have hN9_21 := closed_false h1 h3 (k := 21) rfl (by decide)
          try simp only [upd_same, updD_same, upd_ne, updD_ne, ne_eq, Nat.reduceEqDiff, not_false_eq_true, stg_t, stg_f, vAd_s, vCap_s, blk_p, List.cons_append, List.nil_append, b2n_t, b2n_f, hN9_18, hN9_21]
          exact goW
        · intro ξ v; rfl
        · intro ξ k v S h3 hn hk
          first
          | rfl
        apply YSeq.w (by intro _ _ _; rfl)
        · intro ξ S h1 h2 h3 h4
          have hN10_11 := closed_false h1 h3 (k := 11) rfl (by decide)
          have hN10_12 := closed_false hN10_11 h3 (k := 12) rfl (by decide)
          have hN10_13 := closed_false hN10_12 h3 (k := 13) rfl (by decide)
          have hN10_18 := closed_false hN10_13 h3 (k := 18) rfl (by decide)
          have hN10_21 := closed_false h1 h3 (k := 21) rfl (by decide)
          try simp only [upd_same, updD_same, upd_ne, updD_ne, ne_eq, Nat.reduceEqDiff, not_false_eq_true, stg_t, stg_f, vAd_s, vCap_s, blk_p, List.cons_append, List.nil_append, b2n_t, b2n_f, hN10_18, hN10_21]
          exact goW
        · intro ξ v; rfl
        · intro ξ k v S h3 hn hk
          first
          | rfl
        apply YSeq.w (by intro _ _ _; rfl)
        · intro ξ S h1 h2 h3 h4
          have hN11_12 := closed_false h1 h3 (k := 12) rfl (by decide)
          have hN11_13 := closed_false hN11_12 h3 (k := 13) rfl (by decide)
          have hN11_18 := closed_false hN11_13 h3 (k := 18) rfl (by decide)
          have hN11_21 := closed_false h1 h3 (k := 21) rfl (by decide)
          try simp only [upd_same, updD_same, upd_ne, updD_ne, ne_eq, Nat.reduceEqDiff, not_false_eq_true, stg_t, stg_f, vAd_s, vCap_s, blk_p, List.cons_append, List.nil_append, b2n_t, b2n_f, hN11_18, hN11_21]
          exact goW
        · intro ξ v; rfl
        · intro ξ k v S h3 hn hk
          first
          | rfl
        apply YSeq.w (by intro _ _ _; rfl)
        · intro ξ S h1 h2 h3 h4
          have hN12_13 := closed_false h1 h3 (k := 13) rfl (by decide)
          have hN12_18 := closed_false hN12_13 h3 (k := 18) rfl (by decide)
          have hN12_21 := closed_false h1 h3 (k := 21) rfl (by decide)
          try simp only [upd_same, updD_same, upd_ne, updD_ne, ne_eq, Nat.reduceEqDiff, not_false_eq_true, stg_t, stg_f, vAd_s, vCap_s, blk_p, List.cons_append, List.nil_append, b2n_t, b2n_f, hN12_18, hN12_21]
          exact goW
        · intro ξ v; rfl
        · intro ξ k v S h3 hn hk
          first
          | rfl
        apply YSeq.w (by intro _ _ _; rfl)
        · intro ξ S h1 h2 h3 h4
          have hN13_18 := closed_false h1 h3 (k := 18) rfl (by decide)
          have hN13_21 := closed_false h1 h3 (k := 21) rfl (by decide)
          try simp only [upd_same, updD_same, upd_ne, updD_ne, ne_eq, Nat.reduceEqDiff, not_false_eq_true, stg_t, stg_f, vAd_s, vCap_s, blk_p, List.cons_append, List.nil_append, b2n_t, b2n_f, hN13_18, hN13_21]
          exact goW
        · intro ξ v; rfl
        · intro ξ k v S h3 hn hk
          first
          | rfl
        apply YSeq.callV (by intro _ _ _; rfl)
        · intro ξ S h1 h2 h3 h4
          have hN14_18 := closed_false h1 h3 (k := 18) rfl (by decide)
          have hN14_21 := closed_false h1 h3 (k := 21) rfl (by decide)
          try simp only [upd_same, updD_same, upd_ne, updD_ne, ne_eq, Nat.reduceEqDiff, not_false_eq_true, stg_t, stg_f, vAd_s, vCap_s, blk_p, List.cons_append, List.nil_append, b2n_t, b2n_f, hN14_18, hN14_21]
          exact ⟨_, (Evs.cons rfl (Evs.cons rfl Evs.nil)), kF⟩
        · intro ξ v; rfl
        · intro ξ k v S h3 hn hk
          first
          | rfl
        apply YSeq.w (by intro _ _ _; rfl)
        · intro ξ S h1 h2 h3 h4
          have hN15_21 := closed_false h1 h3 (k := 21) rfl (by decide)
          try simp only [upd_same, updD_same, upd_ne, updD_ne, ne_eq, Nat.reduceEqDiff, not_false_eq_true, stg_t, stg_f, vAd_s, vCap_s, blk_p, List.cons_append, List.nil_append, b2n_t, b2n_f, hN15_21]
          exact goW
        · intro ξ v; rfl
        · intro ξ k v S h3 hn hk
          first
          | rfl
        apply YSeq.w (by intro _ _ _; rfl)
        · intro ξ S h1 h2 h3 h4
          have hN16_17 := closed_false h1 h3 (k := 17) rfl (by decide)
          have hN16_18 := closed_false hN16_17 h3 (k := 18) rfl (by decide)
          have hN16_21 := closed_false h1 h3 (k := 21) rfl (by decide)
          try simp only [upd_same, updD_same, upd_ne, updD_ne, ne_eq, Nat.reduceEqDiff, not_false_eq_true, stg_t, stg_f, vAd_s, vCap_s, blk_p, List.cons_append, List.nil_append, b2n_t, b2n_f, hN16_18, hN16_21]
          exact goW
        · intro ξ v; rfl
        · intro ξ k v S h3 hn hk
          first
          | rfl
        apply YSeq.w (by intro _ _ _; rfl)
        · intro ξ S h1 h2 h3 h4
          have hN17_18 := closed_false h1 h3 (k := 18) rfl (by decide)
          have hN17_21 := closed_false h1 h3 (k := 21) rfl (by decide)
          try simp only [upd_same, updD_same, upd_ne, updD_ne, ne_eq, Nat.reduceEqDiff, not_false_eq_true, stg_t, stg_f, vAd_s, vCap_s, blk_p, List.cons_append, List.nil_append, b2n_t, b2n_f, hN17_18, hN17_21]
          exact goW
        · intro ξ v; rfl
        · intro ξ k v S h3 hn hk
          first
          | rfl
        apply YSeq.store
        · intro ξ S h1 h2 h3 h4
          have hN18_21 := closed_false h1 h3 (k := 21) rfl (by decide)
          simp only [upd_same, updD_same, upd_ne, updD_ne, ne_eq, Nat.reduceEqDiff, not_false_eq_true, stg_t, stg_f, vAd_s, vCap_s, blk_p, List.cons_append, List.nil_append, b2n_t, b2n_f, h1, hN18_21]
          refine ⟨_, _, _, _, _, _, _, rfl, rfl, inferInstance, goXp, rfl, Nat.le_of_ble_eq_true rfl, ?_⟩
          exact goXm
        apply YSeq.w (by intro _ _ _; rfl)
        · intro ξ S h1 h2 h3 h4
          have hY19_18 : S 18 = true := h2 18 (by decide)
          have hN19_20 := closed_false h1 h3 (k := 20) rfl (by decide)
          have hN19_21 := closed_false hN19_20 h3 (k := 21) rfl (by decide)
          try simp only [upd_same, updD_same, upd_ne, updD_ne, ne_eq, Nat.reduceEqDiff, not_false_eq_true, stg_t, stg_f, vAd_s, vCap_s, blk_p, List.cons_append, List.nil_append, b2n_t, b2n_f, hY19_18, hN19_21]
          exact goW
        · intro ξ v; rfl
        · intro ξ k v S h3 hn hk
          first
          | rfl
        apply YSeq.w (by intro _ _ _; rfl)
        · intro ξ S h1 h2 h3 h4
          have hY20_18 : S 18 = true := h2 18 (by decide)
          have hN20_21 := closed_false h1 h3 (k := 21) rfl (by decide)
          try simp only [upd_same, updD_same, upd_ne, updD_ne, ne_eq, Nat.reduceEqDiff, not_false_eq_true, stg_t, stg_f, vAd_s, vCap_s, blk_p, List.cons_append, List.nil_append, b2n_t, b2n_f, hY20_18, hN20_21]
          exact goW
        · intro ξ v; rfl
        · intro ξ k v S h3 hn hk
          first
          | rfl
        apply YSeq.store
        · intro ξ S h1 h2 h3 h4
          have hY21_18 : S 18 = true := h2 18 (by decide)
          simp only [upd_same, updD_same, upd_ne, updD_ne, ne_eq, Nat.reduceEqDiff, not_false_eq_true, stg_t, stg_f, vAd_s, vCap_s, blk_p, List.cons_append, List.nil_append, b2n_t, b2n_f, hY21_18, h1]
          refine ⟨_, _, _, _, _, _, _, rfl, rfl, inferInstance, goXp, rfl, Nat.le_of_ble_eq_true rfl, ?_⟩
          exact goXm
        refine YSeq.nil fun ξ hf => ?_
        refine ⟨[(0, _)], _, Ent.trans (Ent.eqc rfl (by first | (simp only [upd_same, updD_same, upd_ne, updD_ne, ne_eq, Nat.reduceEqDiff, not_false_eq_true, stg_t, stg_f, vAd_s, vCap_s, blk_p, List.cons_append, List.nil_append, b2n_t, b2n_f, ownV, slV, ptV] <;> rfl) | rfl)) (Ent.sub goSub), ?_⟩
        clear hf
        refine Then.norm ?_
        repeat' (first | refine goH ?_ | refine goV ?_ | refine goB (fun b => ?_) | refine goC (fun ad cap => ?_) | refine goG ?_ | (refine Ops.k_guard ?_; first | (refine Ops.guard_dec rfl rfl (fun hc => ?_) (fun hc => ?_) <;> try (exfalso; omega)) | refine Ops.guard_split rfl rfl (fun hc => ?_) (fun hc => ?_)) | refine goI ?_ | (refine Cw.k_cond ?_; first | (refine Cw.cond_dec rfl (fun hc => ?_) (fun hc => ?_) <;> try (exfalso; omega)) | refine Cw.cond_bool rfl (fun hc => ?_) (fun hc => ?_)) | refine goR ?_ | refine goP ?_ | apply PSeq.cons | apply PSeq.yes rfl rfl rfl | exact goW | fail)
        exact Fin.ret (Ent.take goTk) (Outs.zero rfl) ⟨rfl, ad, cap, rfl⟩
  | succ n ih =>
    intro pre a now w st ad cap hn hab hnow hw
    have hpl := intRows_len pre
    have kF : PFn Tryd.prog 39 [.agg [.int a.x, .int a.y], .agg [.int h.x, .int h.y]] (· = .int (farI a h)) := far_ok hab hhb
    have hfb := farI_bd hab hhb
    obtain ⟨B, m⟩ := st
    have hpl2 : pre.length < (l.map Stop.row).length := by omega
    by_cases hc : 0 ≤ m ∧ m ≤ w + farI a h
    · rw [seekD_cut hc]
      generalize farI a h = g at *
      refine Spec.body Tryd.func38 rfl rfl (Tryd.ntmps38) rfl fun w0 own0 M => ?_
      repeat' (first | refine goH ?_ | refine goV ?_ | refine goB (fun b => ?_) | refine goC (fun ad cap => ?_) | refine goG ?_ | (refine Ops.k_guard ?_; first | (refine Ops.guard_dec rfl rfl (fun hc => ?_) (fun hc => ?_) <;> try (exfalso; omega)) | refine Ops.guard_split rfl rfl (fun hc => ?_) (fun hc => ?_)) | refine goI ?_ | (refine Cw.k_cond ?_; first | (refine Cw.cond_dec rfl (fun hc => ?_) (fun hc => ?_) <;> try (exfalso; omega)) | refine Cw.cond_bool rfl (fun hc => ?_) (fun hc => ?_)) | (refine Ops.k_calla ?_; first | (refine Ops.k_callf 39 ?_; refine Ops.callV kF (Evs.cons rfl (Evs.cons rfl Evs.nil)) rfl ?_)) | (apply OpW.k_call; first | (apply OpW.k_callf 39; exact OpW.callV kF (Evs.cons rfl (Evs.cons rfl Evs.nil)))) | refine goR ?_ | refine goP ?_ | apply PSeq.cons | apply PSeq.yes rfl rfl rfl | exact goW | fail)
      exact Fin.ret (Ent.take goTk) (Outs.zero rfl) ⟨rfl, ad, cap, rfl⟩
    obtain ⟨F, hF⟩ : ∃ F : Nat → BS → BS, F = fun k st => match l[k]? with
      | none => st
      | some x => if (k : Int) ∈ pre ∨ x.t < max (now + farI a x.spot) x.f then st else seekD l h n (pre ++ [(k : Int)]) x.spot (max (now + farI a x.spot) x.f + x.n) (w + farI a x.spot) st := ⟨_, rfl⟩
    have hs : seekD l h (n + 1) pre a now w (B, m) = itF F 0 l.length (B, m) := by
      rw [seekD, if_neg hc, hF]
      all_goals with_unfolding_all rfl
    rw [hs]
    clear hs
    have hFx : ∀ {k : Nat} {x : Stop} {st : BS}, l[k]? = some x → F k st = if (k : Int) ∈ pre ∨ x.t < max (now + farI a x.spot) x.f then st else seekD l h n (pre ++ [(k : Int)]) x.spot (max (now + farI a x.spot) x.f + x.n) (w + farI a x.spot) st := by
      intro k x st hx
      rw [hF]
      simp only [hx]
    clear hF
    obtain ⟨S, hS⟩ : ∃ S, S = itF F 0 l.length (B, m) := ⟨_, rfl⟩
    rw [← hS]
    generalize farI a h = g at *
    refine Spec.body Tryd.func38 rfl rfl (Tryd.ntmps38) rfl fun w0 own0 M => ?_
    by_cases hm0 : 0 ≤ m
    all_goals
      repeat' (first | refine goH ?_ | refine goV ?_ | refine goB (fun b => ?_) | refine goC (fun ad cap => ?_) | refine goG ?_ | (refine Ops.k_guard ?_; first | (refine Ops.guard_dec rfl rfl (fun hc => ?_) (fun hc => ?_) <;> try (exfalso; omega)) | refine Ops.guard_split rfl rfl (fun hc => ?_) (fun hc => ?_)) | refine goI ?_ | (refine Cw.k_cond ?_; first | (refine Cw.cond_dec rfl (fun hc => ?_) (fun hc => ?_) <;> try (exfalso; omega)) | refine Cw.cond_bool rfl (fun hc => ?_) (fun hc => ?_)) | (refine Ops.k_calla ?_; first | (refine Ops.k_callf 39 ?_; refine Ops.callV kF (Evs.cons rfl (Evs.cons rfl Evs.nil)) rfl ?_)) | (apply OpW.k_call; first | (apply OpW.k_callf 39; exact OpW.callV kF (Evs.cons rfl (Evs.cons rfl Evs.nil)))) | refine goR ?_ | refine goP ?_ | apply PSeq.cons | apply PSeq.yes rfl rfl rfl | exact goW | fail)
      refine Cw.loopI [(0, _), (2, _), (3, _), (5, _), (69, _), (70, _)] _ (fun q e cc => ∃ (k : Nat) (B2 : List Int) (m2 : Int) (ad : Option Addr) (cap : Nat) (rows rows2 : List (List Tr)), q = l.length - k ∧ (k ≤ l.length ∧ rows = intRows pre ∧ rows2 = inR l.length pre ∧ S = itF F k (l.length - k) (B2, m2)) ∧ e = [(71, .int k)] ∧ cc = [Chunk.box bk 72 [.int h.x, .int h.y, .stops l, .int s, Tr.raw (.slice ad pre.length cap), Tr.raw (.slice ad2 l.length cap2), .ints B2, .int m2], Chunk.own ad cap 1 3 rows, Chunk.own ad2 cap2 1 4 rows2])
        ⟨_, _, _, (Ent.mkP goSub goPm), 0, B, m, ad, cap, _, _, rfl, ⟨by omega, rfl, rfl, by rw [Nat.sub_zero]; exact hS⟩, rfl, rfl⟩ ?_
      clear hS kF
      rintro _ _ _ ⟨k, B2, m2, ad3, cap3, _, _, rfl, ⟨hk, rfl, rfl, hV⟩, rfl, rfl⟩
      have hiR := inR_len l.length pre
      by_cases hkl : k < l.length
      rotate_left
      · rw [itF_end hkl] at hV
        subst hV
        repeat' (first | refine goH ?_ | refine goV ?_ | refine goB (fun b => ?_) | refine goC (fun ad cap => ?_) | refine goG ?_ | (refine Ops.k_guard ?_; first | (refine Ops.guard_dec rfl rfl (fun hc => ?_) (fun hc => ?_) <;> try (exfalso; omega)) | refine Ops.guard_split rfl rfl (fun hc => ?_) (fun hc => ?_)) | refine goI ?_ | (refine Cw.k_cond ?_; first | (refine Cw.cond_dec rfl (fun hc => ?_) (fun hc => ?_) <;> try (exfalso; omega)) | refine Cw.cond_bool rfl (fun hc => ?_) (fun hc => ?_)) | refine goR ?_ | refine goP ?_ | apply PSeq.cons | apply PSeq.yes rfl rfl rfl | exact goW | fail)
        exact Fin.norm (Ent.take goTk) (Outs.zero rfl) ⟨rfl, ad3, cap3, rfl⟩
      obtain ⟨x, hx⟩ := at_lt hkl
      rw [itF_step hkl, hFx hx] at hV
      have hrow : (l.map Stop.row)[k]? = some [.str x.key, .int x.x, .int x.y, .int x.f, .int x.t, .int x.n] := rows_at hx
      obtain ⟨⟨hxs, hx1⟩, hx2⟩ := stopB_ok (hst x (List.mem_of_getElem? hx))
      have kS : PFn Tryd.prog 39 [.agg [.int a.x, .int a.y], .agg [.int x.x, .int x.y]] (· = .int (farI a x.spot)) := far_ok hab hxs
      have hgb := farI_bd hab hxs
      have hq := inR_at (n := l.length) (pre := pre) hkl
      clear hFx hx hst
      by_cases hm : (k : Int) ∈ pre
      · rw [if_pos (.inl hm)] at hV
        rw [decide_eq_true hm] at hq
        clear ih
        generalize farI a x.spot = f at *
        repeat' (first | refine goH ?_ | refine goV ?_ | refine goB (fun b => ?_) | refine goC (fun ad cap => ?_) | refine goG ?_ | (refine Ops.k_guard ?_; first | (refine Ops.guard_dec rfl rfl (fun hc => ?_) (fun hc => ?_) <;> try (exfalso; omega)) | refine Ops.guard_split rfl rfl (fun hc => ?_) (fun hc => ?_)) | refine goI ?_ | (refine Cw.k_cond ?_; first | (refine Cw.cond_dec rfl (fun hc => ?_) (fun hc => ?_) <;> try (exfalso; omega)) | refine Cw.cond_bool rfl (fun hc => ?_) (fun hc => ?_)) | (refine Ops.k_calla ?_; first | (refine Ops.k_callf 39 ?_; refine Ops.callV kS (Evs.cons rfl (Evs.cons rfl Evs.nil)) rfl ?_)) | (apply OpW.k_call; first | (apply OpW.k_callf 39; exact OpW.callV kS (Evs.cons rfl (Evs.cons rfl Evs.nil)))) | refine goR ?_ | refine goP ?_ | apply PSeq.cons | apply PSeq.yes rfl rfl rfl | exact goW | fail)
        exact ⟨_, _, _, (Ent.mk goSub goTk), ⟨k + 1, _, _, _, _, _, _, rfl, ⟨by omega, rfl, rfl, hV⟩, rfl, rfl⟩, by omega⟩
      rw [decide_eq_false hm] at hq
      obtain ⟨mx, hmx⟩ : ∃ mx, mx = max (now + farI a x.spot) x.f := ⟨_, rfl⟩
      rw [← hmx] at hV
      by_cases hlate : x.t < mx
      · rw [if_pos (.inr hlate)] at hV
        clear ih
        rw [hmx] at hlate
        generalize farI a x.spot = f at *
        repeat' (first | refine goH ?_ | refine goV ?_ | refine goB (fun b => ?_) | refine goC (fun ad cap => ?_) | refine goG ?_ | (refine Ops.k_guard ?_; first | (refine Ops.guard_dec rfl rfl (fun hc => ?_) (fun hc => ?_) <;> try (exfalso; omega)) | refine Ops.guard_split rfl rfl (fun hc => ?_) (fun hc => ?_)) | refine goI ?_ | (refine Cw.k_cond ?_; first | (refine Cw.cond_dec rfl (fun hc => ?_) (fun hc => ?_) <;> try (exfalso; omega)) | refine Cw.cond_bool rfl (fun hc => ?_) (fun hc => ?_)) | (refine Ops.k_calla ?_; first | (refine Ops.k_callf 39 ?_; refine Ops.callV kS (Evs.cons rfl (Evs.cons rfl Evs.nil)) rfl ?_)) | (apply OpW.k_call; first | (apply OpW.k_callf 39; exact OpW.callV kS (Evs.cons rfl (Evs.cons rfl Evs.nil)))) | refine goR ?_ | refine goP ?_ | apply PSeq.cons | apply PSeq.yes rfl rfl rfl | exact goW | fail)
        exact ⟨_, _, _, (Ent.mk goSub goTk), ⟨k + 1, _, _, _, _, _, _, rfl, ⟨by omega, rfl, rfl, hV⟩, rfl, rfl⟩, by omega⟩
      rw [if_neg (by simp only [hm, hlate, or_self, not_false_eq_true])] at hV
      have kI := fun (ad : Option Addr) (cap : Nat) => ih (pre ++ [(k : Int)]) x.spot (mx + x.n) (w + farI a x.spot) (B2, m2) ad cap (by rw [List.length_append]; simp; omega) hxs (by omega) (by rw [List.length_append]; simp; omega)
      have hset := inR_set (n := l.length) (pre := pre) hkl
      have hback := inR_back (n := l.length) (pre := pre) hkl hm
      have hlate2 : ¬ x.t < max (now + farI a x.spot) x.f := by rw [← hmx]; exact hlate
      generalize farI a x.spot = f at *
      obtain ⟨B4, m4, hst4⟩ : ∃ B4 m4, seekD l h n (pre ++ [(k : Int)]) x.spot (mx + x.n) (w + f) (B2, m2) = (B4, m4) := ⟨_, _, rfl⟩
      rw [hst4] at hV
      simp only [hst4] at kI
      simp only [skC, hmx] at kI
      clear ih hst4
      repeat' (first | refine goH ?_ | refine goV ?_ | refine goB (fun b => ?_) | refine goC (fun ad cap => ?_) | refine goG ?_ | (refine Ops.k_guard ?_; first | (refine Ops.guard_dec rfl rfl (fun hc => ?_) (fun hc => ?_) <;> try (exfalso; omega)) | refine Ops.guard_split rfl rfl (fun hc => ?_) (fun hc => ?_)) | refine goI ?_ | (refine Cw.k_cond ?_; first | (refine Cw.cond_dec rfl (fun hc => ?_) (fun hc => ?_) <;> try (exfalso; omega)) | refine Cw.cond_bool rfl (fun hc => ?_) (fun hc => ?_)) | (refine Ops.k_calla ?_; first | (refine Ops.k_callf 39 ?_; refine Ops.callV kS (Evs.cons rfl (Evs.cons rfl Evs.nil)) rfl ?_)) | (apply OpW.k_call; first | (apply OpW.k_callf 39; exact OpW.callV kS (Evs.cons rfl (Evs.cons rfl Evs.nil)))) | refine goR ?_ | refine goP ?_ | apply PSeq.cons | apply PSeq.yes rfl rfl rfl | exact goW | fail)
      have hsn : intRows pre ++ [[Tr.int (k : Int)]] = intRows (pre ++ [(k : Int)]) := intRows_snoc pre k
      erw [hset]
      rw [hsn, intRows_len]
      refine Ops.call (kI ad cap) (Evs.cons rfl (Evs.cons rfl (Evs.cons rfl (Evs.cons rfl Evs.nil)))) goPm rfl ?_
      rintro r cs' ⟨rfl, ad', cap', rfl⟩
      have hq2 := inR_at (n := l.length) (pre := pre ++ [(k : Int)]) hkl
      rw [decide_eq_true (by simp)] at hq2
      have hiR2 := inR_len l.length (pre ++ [(k : Int)])
      have hpl3 := intRows_len (pre ++ [(k : Int)])
      have hpl4 : (pre ++ [(k : Int)]).length = pre.length + 1 := by simp
      have ht3 : (intRows (pre ++ [(k : Int)])).take pre.length = intRows pre := by
        rw [← intRows_snoc, List.take_left' hpl]
      clear kI hset hsn hlate2 hmx hlate kS hrow hL
      repeat' (first | refine goH ?_ | refine goV ?_ | refine goB (fun b => ?_) | refine goC (fun ad cap => ?_) | refine goG ?_ | (refine Ops.k_guard ?_; first | (refine Ops.guard_dec rfl rfl (fun hc => ?_) (fun hc => ?_) <;> try (exfalso; omega)) | refine Ops.guard_split rfl rfl (fun hc => ?_) (fun hc => ?_)) | refine goI ?_ | (refine Cw.k_cond ?_; first | (refine Cw.cond_dec rfl (fun hc => ?_) (fun hc => ?_) <;> try (exfalso; omega)) | refine Cw.cond_bool rfl (fun hc => ?_) (fun hc => ?_)) | fail)
      refine Cw.region_seqF (m := 12) [0] rfl (by decide +kernel) rfl (fun a w d => FlRun.move rfl rfl rfl rfl FlRun.nil) ?_
      iterate 11 (apply PSeq.cons; exact goW)
      apply PSeq.cons
      exact OpV.w (OpV.slice_own_hP rfl rfl goPk (by omega) (by omega))
      repeat' (first | refine goH ?_ | refine goV ?_ | refine goB (fun b => ?_) | refine goC (fun ad cap => ?_) | refine goG ?_ | (refine Ops.k_guard ?_; first | (refine Ops.guard_dec rfl rfl (fun hc => ?_) (fun hc => ?_) <;> try (exfalso; omega)) | refine Ops.guard_split rfl rfl (fun hc => ?_) (fun hc => ?_)) | refine goI ?_ | (refine Cw.k_cond ?_; first | (refine Cw.cond_dec rfl (fun hc => ?_) (fun hc => ?_) <;> try (exfalso; omega)) | refine Cw.cond_bool rfl (fun hc => ?_) (fun hc => ?_)) | refine NoP.norm ?_ | refine goR ?_ | refine goP ?_ | apply PSeq.cons | apply PSeq.yes rfl rfl rfl | exact goW | fail)
      have e1 : ((pre ++ [(k : Int)]).length - 1 : Int).toNat = pre.length := by omega
      rw [e1]
      erw [hback]
      exact ⟨_, _, _, Ent.trans (Ent.own_head pre.length ht3 goPk (by omega)) (Ent.mk goSub goTk), ⟨k + 1, B4, m4, _, _, _, _, rfl, ⟨by omega, rfl, rfl, hV⟩, rfl, rfl⟩, by omega⟩
end Lg
end
