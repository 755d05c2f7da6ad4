/- A part of the proof of a law of this seat: it adds no condition. By an AI agent. -/
import Derived.Test.YtflfdomajimpjaaDoorRt14
section
set_option linter.all false
set_option maxRecDepth 100000
set_option maxHeartbeats 8000000
namespace Lg
open Go Go.Proofs

theorem revI_eq (b : List Int) (i j : Nat) : revG i (j + 1 - i) 0 (j + 1 - i) b = revI b i j := rfl
theorem impR_step {l : List Stop} {h : Spot} {s : Int} {n : Nat} {b : List Int} {w : Int} {k : Nat} (hk : k < n) : impR l h s (n - k) (b, w) = if (impI l h s b 0 (b.length - 0) (b, w)).1 = b then impI l h s b 0 (b.length - 0) (b, w) else impR l h s (n - (k + 1)) (impI l h s b 0 (b.length - 0) (b, w)) := by
  obtain ⟨m, hm⟩ : ∃ m, n - k = m + 1 := ⟨n - k - 1, by omega⟩
  rw [hm, impR, show n - (k + 1) = m by omega, Nat.sub_zero]
theorem impR_end {l : List Stop} {h : Spot} {s : Int} {n : Nat} {st : IS} {k : Nat} (hk : ¬ k < n) : impR l h s (n - k) st = st := by
  rw [show n - k = 0 by omega, impR]
attribute [local irreducible] intRows insAt drv drvU drvE ordersE tripE revI impR impI impJ
theorem improveE_fn (h : Spot) (l : List Stop) (s r : Int) (o : List Int) (ht : tripE h l s ≠ 0) (hl : l.length ≤ 1000) (hol : o.length ≤ 100) : PFn Tryd.prog 18 [.agg h.row, .stops l, .int s, .ints o, .int r] (· = .tup [.sl 1 [], .int 0, .int (tripE h l s)]) := by
  have k0 := driveU_fn h l s o hl (by omega)
  unfold drvA at k0
  rw [if_pos ht] at k0
  unfold Spot.row at *
  generalize tripE h l s = E at *
  refine PFn.mk (Spec.body Tryd.func18 rfl rfl (Tryd.ntmps18) rfl fun w0 own0 M => ?_)
  repeat' (first | refine goH ?_ | refine goV ?_ | refine goB (fun b => ?_) | refine goG ?_ | (refine Ops.k_guard ?_; first | (refine Ops.guard_dec rfl rfl (fun hc => ?_) (fun hc => ?_) <;> try (exfalso; omega)) | refine Ops.guard_split rfl rfl (fun hc => ?_) (fun hc => ?_)) | refine goI ?_ | (refine Cw.k_cond ?_; first | (refine Cw.cond_dec rfl (fun hc => ?_) (fun hc => ?_) <;> try (exfalso; omega)) | refine Cw.cond_bool rfl (fun hc => ?_) (fun hc => ?_)) | (refine Ops.k_calla ?_; first | (refine Ops.k_callf 28 ?_; refine Ops.callV k0 (Evs.cons rfl (Evs.cons rfl (Evs.cons rfl (Evs.cons rfl Evs.nil)))) rfl ?_)) | (apply OpW.k_call; first | (apply OpW.k_callf 28; exact OpW.callV k0 (Evs.cons rfl (Evs.cons rfl (Evs.cons rfl (Evs.cons rfl Evs.nil)))))) | refine goR ?_ | refine goP ?_ | apply PSeq.cons | apply PSeq.yes rfl rfl rfl | exact goW | fail)
  refine Fin.ret (Ent.trans (Ent.nilsl 1 (s := 10) rfl) (Ent.take goTk)) (Outs.many rfl (OutL.cons goOe (OutL.cons goOe (OutL.cons goOe OutL.nil))) rfl) ⟨rfl, rfl⟩
theorem improveU_fn (h : Spot) (l : List Stop) (s r : Int) (o : List Int) (ht : tripE h l s = 0) (hrb : -1000000 ≤ r ∧ r ≤ 1000000) (hol : o.length ≤ 100) : PFn Tryd.prog 18 [.agg h.row, .stops l, .int s, .ints o, .int r] (· = impE l h s o r) := by
  have hL : (l.map Stop.row).length = l.length := List.length_map _
  have hl60 := (stops_ok (trip_ok ht).1).1
  have k0 := driveU_fn h l s o (by omega) (by omega)
  unfold drvA at k0
  rw [if_neg (by omega)] at k0
  unfold impE Spot.row at *
  by_cases h1 : drvE l h s o ≠ 0
  · rw [if_pos h1]
    obtain ⟨bs0, e0, W0, q0, hU⟩ := drvU_tup l h s o
    rw [hU] at k0
    clear hU
    generalize drvE l h s o = E at *
    refine PFn.mk (Spec.body Tryd.func18 rfl rfl (Tryd.ntmps18) rfl fun w0 own0 M => ?_)
    repeat' (first | refine goH ?_ | refine goV ?_ | refine goB (fun b => ?_) | refine goG ?_ | (refine Ops.k_guard ?_; first | (refine Ops.guard_dec rfl rfl (fun hc => ?_) (fun hc => ?_) <;> try (exfalso; omega)) | refine Ops.guard_split rfl rfl (fun hc => ?_) (fun hc => ?_)) | refine goI ?_ | (refine Cw.k_cond ?_; first | (refine Cw.cond_dec rfl (fun hc => ?_) (fun hc => ?_) <;> try (exfalso; omega)) | refine Cw.cond_bool rfl (fun hc => ?_) (fun hc => ?_)) | (refine Ops.k_calla ?_; first | (refine Ops.k_callf 28 ?_; refine Ops.callV k0 (Evs.cons rfl (Evs.cons rfl (Evs.cons rfl (Evs.cons rfl Evs.nil)))) rfl ?_)) | (apply OpW.k_call; first | (apply OpW.k_callf 28; exact OpW.callV k0 (Evs.cons rfl (Evs.cons rfl (Evs.cons rfl (Evs.cons rfl Evs.nil)))))) | refine goR ?_ | refine goP ?_ | apply PSeq.cons | apply PSeq.yes rfl rfl rfl | exact goW | fail)
    refine Fin.ret (Ent.trans (Ent.nilsl 1 (s := 10) rfl) (Ent.take goTk)) (Outs.many rfl (OutL.cons goOe (OutL.cons goOe (OutL.cons goOe OutL.nil))) rfl) ⟨rfl, rfl⟩
  rw [if_neg h1]
  have ho0 : ordersE l.length o = 0 := by
    unfold drvE at h1
    by_cases h2 : ordersE l.length o ≠ 0
    · rw [if_pos h2] at h1; exact absurd h2 h1
    · omega
  obtain ⟨bs0, e0, W0, q0, hD⟩ : ∃ bs e w q, drv l h o h s [] 0 0 = some (bs, e, w, q) := by
    unfold drvE at h1
    rw [if_neg (by omega)] at h1
    cases hd : drv l h o h s [] 0 0 with
    | none => rw [hd] at h1; exact absurd (by decide) h1
    | some r => exact ⟨r.1, r.2.1, r.2.2.1, r.2.2.2, rfl⟩
  unfold drvU at k0
  rw [if_neg (by omega), hD] at k0
  unfold drvV at k0
  simp only at k0
  by_cases h2 : r < 0 ∨ 100 < r
  · rw [if_pos h2]
    have kO := out_t r 0 100 h2
    refine PFn.mk (Spec.body Tryd.func18 rfl rfl (Tryd.ntmps18) rfl fun w0 own0 M => ?_)
    repeat' (first | refine goH ?_ | refine goV ?_ | refine goB (fun b => ?_) | refine goG ?_ | (refine Ops.k_guard ?_; first | (refine Ops.guard_dec rfl rfl (fun hc => ?_) (fun hc => ?_) <;> try (exfalso; omega)) | refine Ops.guard_split rfl rfl (fun hc => ?_) (fun hc => ?_)) | refine goI ?_ | (refine Cw.k_cond ?_; first | (refine Cw.cond_dec rfl (fun hc => ?_) (fun hc => ?_) <;> try (exfalso; omega)) | refine Cw.cond_bool rfl (fun hc => ?_) (fun hc => ?_)) | (refine Ops.k_calla ?_; first | (refine Ops.k_callf 28 ?_; refine Ops.callV k0 (Evs.cons rfl (Evs.cons rfl (Evs.cons rfl (Evs.cons rfl Evs.nil)))) rfl ?_) | (refine Ops.k_callf 45 ?_; refine Ops.callV kO (Evs.cons rfl (Evs.cons rfl (Evs.cons rfl Evs.nil))) rfl ?_)) | (apply OpW.k_call; first | (apply OpW.k_callf 28; exact OpW.callV k0 (Evs.cons rfl (Evs.cons rfl (Evs.cons rfl (Evs.cons rfl Evs.nil))))) | (apply OpW.k_callf 45; exact OpW.callV kO (Evs.cons rfl (Evs.cons rfl (Evs.cons rfl Evs.nil))))) | refine goR ?_ | refine goP ?_ | apply PSeq.cons | apply PSeq.yes rfl rfl rfl | exact goW | fail)
    refine Fin.ret (Ent.trans (Ent.nilsl 1 (s := 10) rfl) (Ent.take goTk)) (Outs.many rfl (OutL.cons goOe (OutL.cons goOe (OutL.cons goOe OutL.nil))) rfl) ⟨rfl, rfl⟩
  rw [if_neg h2, hD]
  simp only
  have kO := out_f r 0 100 (by omega)
  have kC := clone_int (intRows o) (intRows_k o) (by rw [intRows_len]; omega)
  obtain ⟨n, hn⟩ : ∃ n : Nat, r.toNat = n := ⟨_, rfl⟩
  have hrn : r = n := by omega
  rw [hn]
  subst hrn
  clear hn h1
  obtain ⟨S, hS⟩ : ∃ S, S = impR l h s n (o, W0) := ⟨_, rfl⟩
  rw [← hS]
  obtain ⟨m, hm⟩ : ∃ m, m = o.length := ⟨_, rfl⟩
  have hoR := (intRows_len o).trans hm.symm
  rw [← hm] at hol
  refine PFn.mk (Spec.body Tryd.func18 rfl rfl (Tryd.ntmps18) rfl fun w0 own0 M => ?_)
  repeat' (first | refine goH ?_ | refine goV ?_ | refine goB (fun b => ?_) | refine goG ?_ | (refine Ops.k_guard ?_; first | (refine Ops.guard_dec rfl rfl (fun hc => ?_) (fun hc => ?_) <;> try (exfalso; omega)) | refine Ops.guard_split rfl rfl (fun hc => ?_) (fun hc => ?_)) | refine goI ?_ | (refine Cw.k_cond ?_; first | (refine Cw.cond_dec rfl (fun hc => ?_) (fun hc => ?_) <;> try (exfalso; omega)) | refine Cw.cond_bool rfl (fun hc => ?_) (fun hc => ?_)) | (refine Ops.k_calla ?_; first | (refine Ops.k_callf 28 ?_; refine Ops.callV k0 (Evs.cons rfl (Evs.cons rfl (Evs.cons rfl (Evs.cons rfl Evs.nil)))) rfl ?_) | (refine Ops.k_callf 45 ?_; refine Ops.callV kO (Evs.cons rfl (Evs.cons rfl (Evs.cons rfl Evs.nil))) rfl ?_)) | (apply OpW.k_call; first | (apply OpW.k_callf 28; exact OpW.callV k0 (Evs.cons rfl (Evs.cons rfl (Evs.cons rfl (Evs.cons rfl Evs.nil))))) | (apply OpW.k_callf 45; exact OpW.callV kO (Evs.cons rfl (Evs.cons rfl (Evs.cons rfl Evs.nil))))) | fail)
  rename_i b5 b13
  first | refine Cw.region_YP (fun ξ S => Chunk.box b 67 [.int h.x, .int h.y, .stops l, .int s] :: Chunk.box b13 53 [.ints bs0, .int e0, .int W0, .int q0] :: Chunk.box b5 30 [.int h.x, .int h.y] :: (stg (S 1) [] [ownV (ξ 1) 1 3 (intRows o)] ++ [])) rfl (by decide +kernel) rfl ((fun (ξ : Nat → Value) (S : Nat → Bool) => Chunk.box b 67 [.int h.x, .int h.y, .stops l, .int s] :: Chunk.box b13 53 [.ints bs0, .int e0, .int W0, .int q0] :: Chunk.box b5 30 [.int h.x, .int h.y] :: (stg (S 1) [] [ownV (ξ 1) 1 3 (intRows o)] ++ [])) (fun _ => undef) (fun _ => false)) (by simp only [upd_same, updD_same, upd_ne, updD_ne, ne_eq, Nat.reduceEqDiff, not_false_eq_true, stg_t, stg_f, vAd_s, vCap_s, blk_p, List.cons_append, List.nil_append, b2n_t, b2n_f]; exact goXm) (fun _ => rfl) ?_ | fail
  apply YSeq.w (by intro _ _ _; rfl)
  · intro ξ S h1 h2 h3 h4
    have hN0_1 := closed_false h1 h3 (k := 1) rfl (by decide)
    try simp only [upd_same, updD_same, upd_ne, updD_ne, ne_eq, Nat.reduceEqDiff, not_false_eq_true, stg_t, stg_f, vAd_s, vCap_s, blk_p, List.cons_append, List.nil_append, b2n_t, b2n_f, hN0_1]
    exact goW
  · intro ξ v; rfl
  · intro ξ k v S h3 hn hk
    first
    | rfl
  apply YSeq.callO ((intRows o).length)
  · intro ξ S h1 h2 h3 h4
    refine ⟨_, _, kC, (Evs.cons rfl Evs.nil), (by first | rfl | simp | omega), fun ad cap => ?_⟩
    simp only [upd_same, updD_same, upd_ne, updD_ne, ne_eq, Nat.reduceEqDiff, not_false_eq_true, stg_t, stg_f, vAd_s, vCap_s, blk_p, List.cons_append, List.nil_append, b2n_t, b2n_f, h1]
    exact goXm
  apply YSeq.w (by intro _ _ _; rfl)
  · intro ξ S h1 h2 h3 h4
    try simp only [upd_same, updD_same, upd_ne, updD_ne, ne_eq, Nat.reduceEqDiff, not_false_eq_true, stg_t, stg_f, vAd_s, vCap_s, blk_p, List.cons_append, List.nil_append, b2n_t, b2n_f]
    exact goW
  · intro ξ v; rfl
  · intro ξ k v S h3 hn hk
    first
    | rfl
  apply YSeq.w (by intro _ _ _; rfl)
  · intro ξ S h1 h2 h3 h4
    try simp only [upd_same, updD_same, upd_ne, updD_ne, ne_eq, Nat.reduceEqDiff, not_false_eq_true, stg_t, stg_f, vAd_s, vCap_s, blk_p, List.cons_append, List.nil_append, b2n_t, b2n_f]
    exact goW
  · intro ξ v; rfl
  · intro ξ k v S h3 hn hk
    first
    | rfl
  apply YSeq.w (by intro _ _ _; rfl)
  · intro ξ S h1 h2 h3 h4
    have hY4_1 : S 1 = true := h2 1 (by decide)
    try simp only [upd_same, updD_same, upd_ne, updD_ne, ne_eq, Nat.reduceEqDiff, not_false_eq_true, stg_t, stg_f, vAd_s, vCap_s, blk_p, List.cons_append, List.nil_append, b2n_t, b2n_f, hY4_1]
    exact goW
  · intro ξ v; rfl
  · intro ξ k v S h3 hn hk
    first
    | rfl
    | skip
      have hY4_1 : S 1 = true := h3 4 _ rfl hn 1 (by decide)
      simp only [upd_S hY4_1 hk]
  apply YSeq.w (by intro _ _ _; rfl)
  · intro ξ S h1 h2 h3 h4
    have hY5_1 : S 1 = true := h2 1 (by decide)
    try simp only [upd_same, updD_same, upd_ne, updD_ne, ne_eq, Nat.reduceEqDiff, not_false_eq_true, stg_t, stg_f, vAd_s, vCap_s, blk_p, List.cons_append, List.nil_append, b2n_t, b2n_f, hY5_1]
    exact goW
  · intro ξ v; rfl
  · intro ξ k v S h3 hn hk
    first
    | rfl
    | skip
      have hY5_1 : S 1 = true := h3 5 _ rfl hn 1 (by decide)
      simp only [upd_S hY5_1 hk]
  refine YSeq.nil fun ξ hf => ?_
  refine ⟨[(4, _), (15, _), (16, _), (17, _)], _, Ent.trans (Ent.eqc rfl (by simp only [upd_same, updD_same, upd_ne, updD_ne, ne_eq, Nat.reduceEqDiff, not_false_eq_true, stg_t, stg_f, vAd_s, vCap_s, blk_p, List.cons_append, List.nil_append, b2n_t, b2n_f, ownV, slV, ptV] <;> rfl)) (Ent.sub goSub), ?_⟩
  clear hf
  generalize vAd (ξ 1) = ad42
  generalize vCap (ξ 1) = cap42
  refine Then.norm ?_
  refine Cw.ent (Ent.settle (s := 16) rfl goPk rfl) ?_
  repeat' (first | refine goH ?_ | refine goV ?_ | refine goB (fun b => ?_) | refine goG ?_ | (refine Ops.k_guard ?_; first | (refine Ops.guard_dec rfl rfl (fun hc => ?_) (fun hc => ?_) <;> try (exfalso; omega)) | refine Ops.guard_split rfl rfl (fun hc => ?_) (fun hc => ?_)) | refine goI ?_ | (refine Cw.k_cond ?_; first | (refine Cw.cond_dec rfl (fun hc => ?_) (fun hc => ?_) <;> try (exfalso; omega)) | refine Cw.cond_bool rfl (fun hc => ?_) (fun hc => ?_)) | refine goR ?_ | refine goP ?_ | apply PSeq.cons | apply PSeq.yes rfl rfl rfl | exact goW | fail)
  refine Cw.loopI [(15, _), (45, _)] _ (fun z e cc => ∃ (k : Nat) (w : Int) (bt : List Int) (rows : List (List Tr)), z = n - k ∧ (k ≤ n ∧ rows = intRows bt ∧ bt.length = m ∧ ordersE l.length bt = 0 ∧ S = impR l h s (n - k) (bt, w)) ∧ e = [(16, .sl 1 rows), (17, .int w), (46, .int k)] ∧ cc = [])
    ⟨_, _, _, (Ent.mkP goSub goPm), 0, W0, o, _, rfl, ⟨by omega, rfl, hm.symm, ho0, by rw [Nat.sub_zero]; exact hS⟩, rfl, rfl⟩ ?_
  clear hS hD ho0 k0 kC kO hoR hm
  rintro _ _ _ ⟨k, w, bt, _, rfl, ⟨hk, rfl, hbl, hbo, hV⟩, rfl, rfl⟩
  have hbR := (intRows_len bt).trans hbl
  by_cases hkn : k < n
  rotate_left
  · rw [impR_end hkn] at hV
    subst hV
    repeat' (first | refine goH ?_ | refine goV ?_ | refine goB (fun b => ?_) | refine goG ?_ | (refine Ops.k_guard ?_; first | (refine Ops.guard_dec rfl rfl (fun hc => ?_) (fun hc => ?_) <;> try (exfalso; omega)) | refine Ops.guard_split rfl rfl (fun hc => ?_) (fun hc => ?_)) | refine goI ?_ | (refine Cw.k_cond ?_; first | (refine Cw.cond_dec rfl (fun hc => ?_) (fun hc => ?_) <;> try (exfalso; omega)) | refine Cw.cond_bool rfl (fun hc => ?_) (fun hc => ?_)) | refine goR ?_ | refine goP ?_ | apply PSeq.cons | apply PSeq.yes rfl rfl rfl | exact goW | fail)
    refine Fin.ret (Ent.take goTk) (Outs.many rfl (OutL.cons goOe (OutL.cons goOe (OutL.cons goOe OutL.nil))) rfl) ⟨rfl, rfl⟩
  rw [impR_step hkn] at hV
  obtain ⟨T, hT⟩ : ∃ T, T = impI l h s bt 0 (bt.length - 0) (bt, w) := ⟨_, rfl⟩
  rw [← hT] at hV
  have hbr := (ordersE_iff.1 hbo).1
  have kC := clone_int (intRows bt) (intRows_k bt) (by rw [intRows_len]; omega)
  repeat' (first | refine goH ?_ | refine goV ?_ | refine goB (fun b => ?_) | refine goG ?_ | (refine Ops.k_guard ?_; first | (refine Ops.guard_dec rfl rfl (fun hc => ?_) (fun hc => ?_) <;> try (exfalso; omega)) | refine Ops.guard_split rfl rfl (fun hc => ?_) (fun hc => ?_)) | refine goI ?_ | (refine Cw.k_cond ?_; first | (refine Cw.cond_dec rfl (fun hc => ?_) (fun hc => ?_) <;> try (exfalso; omega)) | refine Cw.cond_bool rfl (fun hc => ?_) (fun hc => ?_)) | refine goR ?_ | refine goP ?_ | apply PSeq.cons | apply PSeq.yes rfl rfl rfl | exact goW | fail)
  refine Cw.loopI [(15, _), (45, _), (18, _), (46, _), (50, _)] _ (fun z e cc => ∃ (i : Nat) (w : Int) (b2 : List Int) (rows : List (List Tr)), z = m - i ∧ (i ≤ m ∧ rows = intRows b2 ∧ b2.length = m ∧ ordersE l.length b2 = 0 ∧ T = impI l h s bt i (bt.length - i) (b2, w)) ∧ e = [(16, .sl 1 rows), (17, .int w), (51, .int i)] ∧ cc = [])
    ⟨_, _, _, (Ent.mkP goSub goPm), 0, w, bt, _, rfl, ⟨by omega, rfl, hbl, hbo, hT⟩, rfl, rfl⟩ ?_
  clear hT
  rintro _ _ _ ⟨i, w2, b2, _, rfl, ⟨hi, rfl, hb2l, hb2o, hV2⟩, rfl, rfl⟩
  have hb2R := (intRows_len b2).trans hb2l
  by_cases him : i < m
  rotate_left
  · rw [impI_end (by omega)] at hV2
    subst hV2
    have kE := equalInts_fn bt b2 (by omega) (by omega)
    simp only at hV
    by_cases he : b2 = bt
    · rw [if_pos he] at hV
      rw [decide_eq_true he.symm] at kE
      subst hV
      repeat' (first | refine goH ?_ | refine goV ?_ | refine goB (fun b => ?_) | refine goG ?_ | (refine Ops.k_guard ?_; first | (refine Ops.guard_dec rfl rfl (fun hc => ?_) (fun hc => ?_) <;> try (exfalso; omega)) | refine Ops.guard_split rfl rfl (fun hc => ?_) (fun hc => ?_)) | refine goI ?_ | (refine Cw.k_cond ?_; first | (refine Cw.cond_dec rfl (fun hc => ?_) (fun hc => ?_) <;> try (exfalso; omega)) | refine Cw.cond_bool rfl (fun hc => ?_) (fun hc => ?_)) | (refine Ops.k_calla ?_; first | (refine Ops.k_callf 14 ?_; refine Ops.callV kE (Evs.cons rfl (Evs.cons rfl Evs.nil)) rfl ?_)) | (apply OpW.k_call; first | (apply OpW.k_callf 14; exact OpW.callV kE (Evs.cons rfl (Evs.cons rfl Evs.nil)))) | refine goR ?_ | refine goP ?_ | apply PSeq.cons | apply PSeq.yes rfl rfl rfl | exact goW | fail)
      refine Fin.ret (Ent.take goTk) (Outs.many rfl (OutL.cons goOe (OutL.cons goOe (OutL.cons goOe OutL.nil))) rfl) ⟨rfl, rfl⟩
    · rw [if_neg he] at hV
      rw [decide_eq_false (fun e => he e.symm)] at kE
      repeat' (first | refine goH ?_ | refine goV ?_ | refine goB (fun b => ?_) | refine goG ?_ | (refine Ops.k_guard ?_; first | (refine Ops.guard_dec rfl rfl (fun hc => ?_) (fun hc => ?_) <;> try (exfalso; omega)) | refine Ops.guard_split rfl rfl (fun hc => ?_) (fun hc => ?_)) | refine goI ?_ | (refine Cw.k_cond ?_; first | (refine Cw.cond_dec rfl (fun hc => ?_) (fun hc => ?_) <;> try (exfalso; omega)) | refine Cw.cond_bool rfl (fun hc => ?_) (fun hc => ?_)) | (refine Ops.k_calla ?_; first | (refine Ops.k_callf 14 ?_; refine Ops.callV kE (Evs.cons rfl (Evs.cons rfl Evs.nil)) rfl ?_)) | (apply OpW.k_call; first | (apply OpW.k_callf 14; exact OpW.callV kE (Evs.cons rfl (Evs.cons rfl Evs.nil)))) | refine goR ?_ | refine goP ?_ | apply PSeq.cons | apply PSeq.yes rfl rfl rfl | exact goW | fail)
      exact ⟨_, _, _, (Ent.mk goSub goTk), ⟨k + 1, _, _, _, rfl, ⟨by omega, rfl, hb2l, hb2o, hV⟩, rfl, rfl⟩, by omega⟩
  rw [impI_step (by omega)] at hV2
  obtain ⟨U, hU⟩ : ∃ U, U = impJ l h s bt i (i + 1) (bt.length - (i + 1)) (b2, w2) := ⟨_, rfl⟩
  rw [← hU] at hV2
  repeat' (first | refine goH ?_ | refine goV ?_ | refine goB (fun b => ?_) | refine goG ?_ | (refine Ops.k_guard ?_; first | (refine Ops.guard_dec rfl rfl (fun hc => ?_) (fun hc => ?_) <;> try (exfalso; omega)) | refine Ops.guard_split rfl rfl (fun hc => ?_) (fun hc => ?_)) | refine goI ?_ | (refine Cw.k_cond ?_; first | (refine Cw.cond_dec rfl (fun hc => ?_) (fun hc => ?_) <;> try (exfalso; omega)) | refine Cw.cond_bool rfl (fun hc => ?_) (fun hc => ?_)) | refine goR ?_ | refine goP ?_ | apply PSeq.cons | apply PSeq.yes rfl rfl rfl | exact goW | fail)
  refine Cw.loopI [(15, _), (45, _), (18, _), (19, _), (46, _), (50, _), (51, _)] _ (fun z e cc => ∃ (j : Nat) (w : Int) (b2 : List Int) (rows : List (List Tr)), z = m - j ∧ (i + 1 ≤ j ∧ j ≤ m ∧ rows = intRows b2 ∧ b2.length = m ∧ ordersE l.length b2 = 0 ∧ U = impJ l h s bt i j (bt.length - j) (b2, w)) ∧ e = [(16, .sl 1 rows), (17, .int w), (20, .int j)] ∧ cc = [])
    ⟨_, _, _, (Ent.mkP goSub goPm), i + 1, w2, b2, _, rfl, ⟨by omega, by omega, rfl, hb2l, hb2o, hU⟩, rfl, rfl⟩ ?_
  clear hU hb2R hb2l hb2o
  rintro _ _ _ ⟨j, w3, b3, _, rfl, ⟨hij, hj, rfl, hb3l, hb3o, hV3⟩, rfl, rfl⟩
  by_cases hjm : j < m
  rotate_left
  · rw [impJ_end (by omega)] at hV3
    subst hV3
    repeat' (first | refine goH ?_ | refine goV ?_ | refine goB (fun b => ?_) | refine goG ?_ | (refine Ops.k_guard ?_; first | (refine Ops.guard_dec rfl rfl (fun hc => ?_) (fun hc => ?_) <;> try (exfalso; omega)) | refine Ops.guard_split rfl rfl (fun hc => ?_) (fun hc => ?_)) | refine goI ?_ | (refine Cw.k_cond ?_; first | (refine Cw.cond_dec rfl (fun hc => ?_) (fun hc => ?_) <;> try (exfalso; omega)) | refine Cw.cond_bool rfl (fun hc => ?_) (fun hc => ?_)) | refine goR ?_ | refine goP ?_ | apply PSeq.cons | apply PSeq.yes rfl rfl rfl | exact goW | fail)
    exact ⟨_, _, _, (Ent.mk goSub goTk), ⟨i + 1, _, _, _, rfl, ⟨by omega, rfl, hb3l, hb3o, hV2⟩, rfl, rfl⟩, by omega⟩
  rw [impJ_step (by omega)] at hV3
  unfold impS at hV3
  have hrl := (revI_len bt i j).trans hbl
  have hro := ordersE_perm (revI_perm (b := bt) (i := i) (j := j) (by omega) (by omega)) hbo
  have hrr := (ordersE_iff.1 hro).1
  have kD := drive_fn h l s (revI bt i j) ht hrr (by omega)
  have hset : (intRows bt).length = (intRows (revI bt i j)).length := by rw [intRows_len, intRows_len, hbl, hrl]
  have kV := fun (ad : Option Addr) (cap cap2 : Nat) => reverse_int bt ad cap cap2 i (j + 1 - i) (by omega) (by omega)
  rw [revI_eq] at kV
  have e1 : ((j : Int) + 1 - (i : Int)).toNat = j + 1 - i := by omega
  clear hrr hbr
  repeat' (first | refine goH ?_ | refine goV ?_ | refine goB (fun b => ?_) | refine goG ?_ | (refine Ops.k_guard ?_; first | (refine Ops.guard_dec rfl rfl (fun hc => ?_) (fun hc => ?_) <;> try (exfalso; omega)) | refine Ops.guard_split rfl rfl (fun hc => ?_) (fun hc => ?_)) | refine goI ?_ | (refine Cw.k_cond ?_; first | (refine Cw.cond_dec rfl (fun hc => ?_) (fun hc => ?_) <;> try (exfalso; omega)) | refine Cw.cond_bool rfl (fun hc => ?_) (fun hc => ?_)) | refine goR ?_ | refine goP ?_ | apply PSeq.cons | apply PSeq.yes rfl rfl rfl | exact goW | fail)
  refine Ops.k_calla ?_
  refine Ops.callO kC (Evs.cons rfl Evs.nil) rfl (fun ad cap rows hr => ?_)
  subst hr
  repeat' (first | refine goH ?_ | refine goV ?_ | refine goB (fun b => ?_) | (refine Ops.k_slice ?_; first | refine Ops.slice_own_lh rfl rfl rfl goPk rfl (by omega) rfl ?_) | refine goG ?_ | (refine Ops.k_guard ?_; first | (refine Ops.guard_dec rfl rfl (fun hc => ?_) (fun hc => ?_) <;> try (exfalso; omega)) | refine Ops.guard_split rfl rfl (fun hc => ?_) (fun hc => ?_)) | refine goI ?_ | (refine Cw.k_cond ?_; first | (refine Cw.cond_dec rfl (fun hc => ?_) (fun hc => ?_) <;> try (exfalso; omega)) | refine Cw.cond_bool rfl (fun hc => ?_) (fun hc => ?_)) | refine goR ?_ | refine goP ?_ | apply PSeq.cons | apply PSeq.yes rfl rfl rfl | exact goW | fail)
  rw [e1]
  refine Ops.k_calla ?_
  refine Ops.call (kV _ _ _) (Evs.cons rfl Evs.nil) goPm rfl ?_
  rintro y cs' ⟨rfl, rfl⟩
  clear kV
  repeat' (first | refine goH ?_ | ((fail_if_success refine Ops.k_load ?_); refine goV ?_) | ((fail_if_success refine Ops.k_load ?_); refine goB (fun b => ?_)) | refine goG ?_ | (refine Ops.k_guard ?_; first | (refine Ops.guard_dec rfl rfl (fun hc => ?_) (fun hc => ?_) <;> try (exfalso; omega)) | refine Ops.guard_split rfl rfl (fun hc => ?_) (fun hc => ?_)) | refine goI ?_ | (refine Cw.k_cond ?_; first | (refine Cw.cond_dec rfl (fun hc => ?_) (fun hc => ?_) <;> try (exfalso; omega)) | refine Cw.cond_bool rfl (fun hc => ?_) (fun hc => ?_)) | refine goR ?_ | refine goP ?_ | apply PSeq.cons | apply PSeq.yes rfl rfl rfl | exact goW | fail)
  refine Ops.ent (Ent.settle (s := 21) rfl goPk hset) ?_
  cases hD : drv l h (revI bt i j) h s [] 0 0 with
  | none =>
    rw [hD] at hV3 kD
    unfold drvT at kD
    simp only at hV3 kD
    repeat' (first | refine goH ?_ | refine goV ?_ | refine goB (fun b => ?_) | refine goG ?_ | (refine Ops.k_guard ?_; first | (refine Ops.guard_dec rfl rfl (fun hc => ?_) (fun hc => ?_) <;> try (exfalso; omega)) | refine Ops.guard_split rfl rfl (fun hc => ?_) (fun hc => ?_)) | refine goI ?_ | (refine Cw.k_cond ?_; first | (refine Cw.cond_dec rfl (fun hc => ?_) (fun hc => ?_) <;> try (exfalso; omega)) | refine Cw.cond_bool rfl (fun hc => ?_) (fun hc => ?_)) | (refine Ops.k_calla ?_; first | (refine Ops.k_callf 48 ?_; refine Ops.callV kD (Evs.cons rfl (Evs.cons rfl Evs.nil)) rfl ?_)) | (apply OpW.k_call; first | (apply OpW.k_callf 48; exact OpW.callV kD (Evs.cons rfl (Evs.cons rfl Evs.nil)))) | refine goR ?_ | refine goP ?_ | apply PSeq.cons | apply PSeq.yes rfl rfl rfl | exact goW | fail)
    exact ⟨_, _, _, (Ent.mk goSub goTk), ⟨j + 1, _, _, _, rfl, ⟨by omega, by omega, rfl, hb3l, hb3o, hV3⟩, rfl, rfl⟩, by omega⟩
  | some r =>
    obtain ⟨bs, e, w4, q⟩ := r
    rw [hD] at hV3 kD
    unfold drvT at kD
    simp only at hV3 kD
    by_cases hw : w4 < w3
    · rw [if_pos hw] at hV3
      repeat' (first | refine goH ?_ | refine goV ?_ | refine goB (fun b => ?_) | refine goG ?_ | (refine Ops.k_guard ?_; first | (refine Ops.guard_dec rfl rfl (fun hc => ?_) (fun hc => ?_) <;> try (exfalso; omega)) | refine Ops.guard_split rfl rfl (fun hc => ?_) (fun hc => ?_)) | refine goI ?_ | (refine Cw.k_cond ?_; first | (refine Cw.cond_dec rfl (fun hc => ?_) (fun hc => ?_) <;> try (exfalso; omega)) | refine Cw.cond_bool rfl (fun hc => ?_) (fun hc => ?_)) | (refine Ops.k_calla ?_; first | (refine Ops.k_callf 48 ?_; refine Ops.callV kD (Evs.cons rfl (Evs.cons rfl Evs.nil)) rfl ?_)) | (apply OpW.k_call; first | (apply OpW.k_callf 48; exact OpW.callV kD (Evs.cons rfl (Evs.cons rfl Evs.nil)))) | refine goR ?_ | refine goP ?_ | apply PSeq.cons | apply PSeq.yes rfl rfl rfl | exact goW | fail)
      exact ⟨_, _, _, (Ent.mk goSub goTk), ⟨j + 1, _, _, _, rfl, ⟨by omega, by omega, rfl, hrl, hro, hV3⟩, rfl, rfl⟩, by omega⟩
    · rw [if_neg hw] at hV3
      repeat' (first | refine goH ?_ | refine goV ?_ | refine goB (fun b => ?_) | refine goG ?_ | (refine Ops.k_guard ?_; first | (refine Ops.guard_dec rfl rfl (fun hc => ?_) (fun hc => ?_) <;> try (exfalso; omega)) | refine Ops.guard_split rfl rfl (fun hc => ?_) (fun hc => ?_)) | refine goI ?_ | (refine Cw.k_cond ?_; first | (refine Cw.cond_dec rfl (fun hc => ?_) (fun hc => ?_) <;> try (exfalso; omega)) | refine Cw.cond_bool rfl (fun hc => ?_) (fun hc => ?_)) | (refine Ops.k_calla ?_; first | (refine Ops.k_callf 48 ?_; refine Ops.callV kD (Evs.cons rfl (Evs.cons rfl Evs.nil)) rfl ?_)) | (apply OpW.k_call; first | (apply OpW.k_callf 48; exact OpW.callV kD (Evs.cons rfl (Evs.cons rfl Evs.nil)))) | refine goR ?_ | refine goP ?_ | apply PSeq.cons | apply PSeq.yes rfl rfl rfl | exact goW | fail)
      exact ⟨_, _, _, (Ent.mk goSub goTk), ⟨j + 1, _, _, _, rfl, ⟨by omega, by omega, rfl, hb3l, hb3o, hV3⟩, rfl, rfl⟩, by omega⟩
end Lg
end
section
set_option linter.all false
set_option maxRecDepth 100000
set_option maxHeartbeats 8000000
namespace Lg
open Go Go.Proofs

attribute [local irreducible] intRows insAt drv drvU drvE ordersE tripE revI impR impI impJ
theorem improvedR_fn (h : Spot) (l : List Stop) (s r : Int) (o : List Int) (ht : tripE h l s = 0) (hrb : -1000000 ≤ r ∧ r ≤ 1000000) (hol : o.length ≤ 100) : PFn Tryd.prog 21 [.agg h.row, .stops l, .int s, .ints o, .int r] (· = impE l h s o r) := by
  have hL : (l.map Stop.row).length = l.length := List.length_map _
  have hl60 := (stops_ok (trip_ok ht).1).1
  have k0 := driveOf_fn h l s o ht (by omega)
  unfold impE Spot.row at *
  by_cases h1 : drvE l h s o ≠ 0
  · rw [if_pos h1]
    obtain ⟨bs0, e0, W0, q0, hU⟩ := drvU_tup l h s o
    rw [hU] at k0
    clear hU
    generalize drvE l h s o = E at *
    refine PFn.mk (Spec.body Tryd.func21 rfl rfl (Tryd.ntmps21) rfl fun w0 own0 M => ?_)
    repeat' (first | refine goH ?_ | refine goV ?_ | refine goB (fun b => ?_) | refine goG ?_ | (refine Ops.k_guard ?_; first | (refine Ops.guard_dec rfl rfl (fun hc => ?_) (fun hc => ?_) <;> try (exfalso; omega)) | refine Ops.guard_split rfl rfl (fun hc => ?_) (fun hc => ?_)) | refine goI ?_ | (refine Cw.k_cond ?_; first | (refine Cw.cond_dec rfl (fun hc => ?_) (fun hc => ?_) <;> try (exfalso; omega)) | refine Cw.cond_bool rfl (fun hc => ?_) (fun hc => ?_)) | (refine Ops.k_calla ?_; first | (refine Ops.k_callf 29 ?_; refine Ops.callV k0 (Evs.cons rfl (Evs.cons rfl (Evs.cons rfl (Evs.cons rfl Evs.nil)))) rfl ?_)) | (apply OpW.k_call; first | (apply OpW.k_callf 29; exact OpW.callV k0 (Evs.cons rfl (Evs.cons rfl (Evs.cons rfl (Evs.cons rfl Evs.nil)))))) | refine goR ?_ | refine goP ?_ | apply PSeq.cons | apply PSeq.yes rfl rfl rfl | exact goW | fail)
    refine Fin.ret (Ent.trans (Ent.nilsl 1 (s := 10) rfl) (Ent.take goTk)) (Outs.many rfl (OutL.cons goOe (OutL.cons goOe (OutL.cons goOe OutL.nil))) rfl) ⟨rfl, rfl⟩
  rw [if_neg h1]
  have ho0 : ordersE l.length o = 0 := by
    unfold drvE at h1
    by_cases h2 : ordersE l.length o ≠ 0
    · rw [if_pos h2] at h1; exact absurd h2 h1
    · omega
  obtain ⟨bs0, e0, W0, q0, hD⟩ : ∃ bs e w q, drv l h o h s [] 0 0 = some (bs, e, w, q) := by
    unfold drvE at h1
    rw [if_neg (by omega)] at h1
    cases hd : drv l h o h s [] 0 0 with
    | none => rw [hd] at h1; exact absurd (by decide) h1
    | some r => exact ⟨r.1, r.2.1, r.2.2.1, r.2.2.2, rfl⟩
  unfold drvU at k0
  rw [if_neg (by omega), hD] at k0
  unfold drvV at k0
  simp only at k0
  by_cases h2 : r < 0 ∨ 100 < r
  · rw [if_pos h2]
    refine PFn.mk (Spec.body Tryd.func21 rfl rfl (Tryd.ntmps21) rfl fun w0 own0 M => ?_)
    by_cases h3 : r < 0
    all_goals
      repeat' (first | refine goH ?_ | refine goV ?_ | refine goB (fun b => ?_) | refine goG ?_ | (refine Ops.k_guard ?_; first | (refine Ops.guard_dec rfl rfl (fun hc => ?_) (fun hc => ?_) <;> try (exfalso; omega)) | refine Ops.guard_split rfl rfl (fun hc => ?_) (fun hc => ?_)) | refine goI ?_ | (refine Cw.k_cond ?_; first | (refine Cw.cond_dec rfl (fun hc => ?_) (fun hc => ?_) <;> try (exfalso; omega)) | refine Cw.cond_bool rfl (fun hc => ?_) (fun hc => ?_)) | (refine Ops.k_calla ?_; first | (refine Ops.k_callf 29 ?_; refine Ops.callV k0 (Evs.cons rfl (Evs.cons rfl (Evs.cons rfl (Evs.cons rfl Evs.nil)))) rfl ?_)) | (apply OpW.k_call; first | (apply OpW.k_callf 29; exact OpW.callV k0 (Evs.cons rfl (Evs.cons rfl (Evs.cons rfl (Evs.cons rfl Evs.nil)))))) | refine goR ?_ | refine goP ?_ | apply PSeq.cons | apply PSeq.yes rfl rfl rfl | exact goW | fail)
      refine Fin.ret (Ent.trans (Ent.nilsl 1 (s := 10) rfl) (Ent.take goTk)) (Outs.many rfl (OutL.cons goOe (OutL.cons goOe (OutL.cons goOe OutL.nil))) rfl) ⟨rfl, rfl⟩
  rw [if_neg h2, hD]
  simp only
  have kC := clone_int (intRows o) (intRows_k o) (by rw [intRows_len]; omega)
  obtain ⟨n, hn⟩ : ∃ n : Nat, r.toNat = n := ⟨_, rfl⟩
  have hrn : r = n := by omega
  rw [hn]
  subst hrn
  clear hn h1
  obtain ⟨S, hS⟩ : ∃ S, S = impR l h s n (o, W0) := ⟨_, rfl⟩
  rw [← hS]
  obtain ⟨m, hm⟩ : ∃ m, m = o.length := ⟨_, rfl⟩
  have hoR := (intRows_len o).trans hm.symm
  rw [← hm] at hol
  refine PFn.mk (Spec.body Tryd.func21 rfl rfl (Tryd.ntmps21) rfl fun w0 own0 M => ?_)
  repeat' (first | refine goH ?_ | refine goV ?_ | refine goB (fun b => ?_) | refine goG ?_ | (refine Ops.k_guard ?_; first | (refine Ops.guard_dec rfl rfl (fun hc => ?_) (fun hc => ?_) <;> try (exfalso; omega)) | refine Ops.guard_split rfl rfl (fun hc => ?_) (fun hc => ?_)) | refine goI ?_ | (refine Cw.k_cond ?_; first | (refine Cw.cond_dec rfl (fun hc => ?_) (fun hc => ?_) <;> try (exfalso; omega)) | refine Cw.cond_bool rfl (fun hc => ?_) (fun hc => ?_)) | (refine Ops.k_calla ?_; first | (refine Ops.k_callf 29 ?_; refine Ops.callV k0 (Evs.cons rfl (Evs.cons rfl (Evs.cons rfl (Evs.cons rfl Evs.nil)))) rfl ?_)) | (apply OpW.k_call; first | (apply OpW.k_callf 29; exact OpW.callV k0 (Evs.cons rfl (Evs.cons rfl (Evs.cons rfl (Evs.cons rfl Evs.nil)))))) | fail)
  rename_i b5
  first | refine Cw.region_YP (fun ξ S => Chunk.box b 53 [.ints bs0, .int e0, .int W0, .int q0] :: Chunk.box b5 30 [.int h.x, .int h.y] :: (stg (S 1) [] [ownV (ξ 1) 1 3 (intRows o)] ++ [])) rfl (by decide +kernel) rfl ((fun (ξ : Nat → Value) (S : Nat → Bool) => Chunk.box b 53 [.ints bs0, .int e0, .int W0, .int q0] :: Chunk.box b5 30 [.int h.x, .int h.y] :: (stg (S 1) [] [ownV (ξ 1) 1 3 (intRows o)] ++ [])) (fun _ => undef) (fun _ => false)) (by simp only [upd_same, updD_same, upd_ne, updD_ne, ne_eq, Nat.reduceEqDiff, not_false_eq_true, stg_t, stg_f, vAd_s, vCap_s, blk_p, List.cons_append, List.nil_append, b2n_t, b2n_f]; exact goXm) (fun _ => rfl) ?_ | fail
  apply YSeq.w (by intro _ _ _; rfl)
  · intro ξ S h1 h2 h3 h4
    have hN0_1 := closed_false h1 h3 (k := 1) rfl (by decide)
    try simp only [upd_same, updD_same, upd_ne, updD_ne, ne_eq, Nat.reduceEqDiff, not_false_eq_true, stg_t, stg_f, vAd_s, vCap_s, blk_p, List.cons_append, List.nil_append, b2n_t, b2n_f, hN0_1]
    exact goW
  · intro ξ v; rfl
  · intro ξ k v S h3 hn hk
    first
    | rfl
  apply YSeq.callO ((intRows o).length)
  · intro ξ S h1 h2 h3 h4
    refine ⟨_, _, kC, (Evs.cons rfl Evs.nil), (by first | rfl | simp | omega), fun ad cap => ?_⟩
    simp only [upd_same, updD_same, upd_ne, updD_ne, ne_eq, Nat.reduceEqDiff, not_false_eq_true, stg_t, stg_f, vAd_s, vCap_s, blk_p, List.cons_append, List.nil_append, b2n_t, b2n_f, h1]
    exact goXm
  apply YSeq.w (by intro _ _ _; rfl)
  · intro ξ S h1 h2 h3 h4
    try simp only [upd_same, updD_same, upd_ne, updD_ne, ne_eq, Nat.reduceEqDiff, not_false_eq_true, stg_t, stg_f, vAd_s, vCap_s, blk_p, List.cons_append, List.nil_append, b2n_t, b2n_f]
    exact goW
  · intro ξ v; rfl
  · intro ξ k v S h3 hn hk
    first
    | rfl
  apply YSeq.w (by intro _ _ _; rfl)
  · intro ξ S h1 h2 h3 h4
    try simp only [upd_same, updD_same, upd_ne, updD_ne, ne_eq, Nat.reduceEqDiff, not_false_eq_true, stg_t, stg_f, vAd_s, vCap_s, blk_p, List.cons_append, List.nil_append, b2n_t, b2n_f]
    exact goW
  · intro ξ v; rfl
  · intro ξ k v S h3 hn hk
    first
    | rfl
  apply YSeq.w (by intro _ _ _; rfl)
  · intro ξ S h1 h2 h3 h4
    have hY4_1 : S 1 = true := h2 1 (by decide)
    try simp only [upd_same, updD_same, upd_ne, updD_ne, ne_eq, Nat.reduceEqDiff, not_false_eq_true, stg_t, stg_f, vAd_s, vCap_s, blk_p, List.cons_append, List.nil_append, b2n_t, b2n_f, hY4_1]
    exact goW
  · intro ξ v; rfl
  · intro ξ k v S h3 hn hk
    first
    | rfl
    | skip
      have hY4_1 : S 1 = true := h3 4 _ rfl hn 1 (by decide)
      simp only [upd_S hY4_1 hk]
  apply YSeq.w (by intro _ _ _; rfl)
  · intro ξ S h1 h2 h3 h4
    have hY5_1 : S 1 = true := h2 1 (by decide)
    try simp only [upd_same, updD_same, upd_ne, updD_ne, ne_eq, Nat.reduceEqDiff, not_false_eq_true, stg_t, stg_f, vAd_s, vCap_s, blk_p, List.cons_append, List.nil_append, b2n_t, b2n_f, hY5_1]
    exact goW
  · intro ξ v; rfl
  · intro ξ k v S h3 hn hk
    first
    | rfl
    | skip
      have hY5_1 : S 1 = true := h3 5 _ rfl hn 1 (by decide)
      simp only [upd_S hY5_1 hk]
  refine YSeq.nil fun ξ hf => ?_
  refine ⟨[(1, _), (2, _), (4, _), (5, _), (15, _), (16, _)], _, Ent.trans (Ent.eqc rfl (by simp only [upd_same, updD_same, upd_ne, updD_ne, ne_eq, Nat.reduceEqDiff, not_false_eq_true, stg_t, stg_f, vAd_s, vCap_s, blk_p, List.cons_append, List.nil_append, b2n_t, b2n_f, ownV, slV, ptV] <;> rfl)) (Ent.sub goSub), ?_⟩
  clear hf
  generalize vAd (ξ 1) = ad41
  generalize vCap (ξ 1) = cap41
  refine Then.norm ?_
  refine Cw.ent (Ent.settle (s := 15) rfl goPk rfl) ?_
  repeat' (first | refine goH ?_ | refine goV ?_ | refine goB (fun b => ?_) | refine goG ?_ | (refine Ops.k_guard ?_; first | (refine Ops.guard_dec rfl rfl (fun hc => ?_) (fun hc => ?_) <;> try (exfalso; omega)) | refine Ops.guard_split rfl rfl (fun hc => ?_) (fun hc => ?_)) | refine goI ?_ | (refine Cw.k_cond ?_; first | (refine Cw.cond_dec rfl (fun hc => ?_) (fun hc => ?_) <;> try (exfalso; omega)) | refine Cw.cond_bool rfl (fun hc => ?_) (fun hc => ?_)) | refine goR ?_ | refine goP ?_ | apply PSeq.cons | apply PSeq.yes rfl rfl rfl | exact goW | fail)
  refine Cw.loopI [(1, _), (2, _), (5, _), (44, _)] _ (fun z e cc => ∃ (k : Nat) (w : Int) (bt : List Int) (rows : List (List Tr)), z = n - k ∧ (k ≤ n ∧ rows = intRows bt ∧ bt.length = m ∧ ordersE l.length bt = 0 ∧ S = impR l h s (n - k) (bt, w)) ∧ e = [(15, .sl 1 rows), (16, .int w), (45, .int k)] ∧ cc = [])
    ⟨_, _, _, (Ent.mkP goSub goPm), 0, W0, o, _, rfl, ⟨by omega, rfl, hm.symm, ho0, by rw [Nat.sub_zero]; exact hS⟩, rfl, rfl⟩ ?_
  clear hS hD ho0 k0 kC hoR hm
  rintro _ _ _ ⟨k, w, bt, _, rfl, ⟨hk, rfl, hbl, hbo, hV⟩, rfl, rfl⟩
  have hbR := (intRows_len bt).trans hbl
  by_cases hkn : k < n
  rotate_left
  · rw [impR_end hkn] at hV
    subst hV
    repeat' (first | refine goH ?_ | refine goV ?_ | refine goB (fun b => ?_) | refine goG ?_ | (refine Ops.k_guard ?_; first | (refine Ops.guard_dec rfl rfl (fun hc => ?_) (fun hc => ?_) <;> try (exfalso; omega)) | refine Ops.guard_split rfl rfl (fun hc => ?_) (fun hc => ?_)) | refine goI ?_ | (refine Cw.k_cond ?_; first | (refine Cw.cond_dec rfl (fun hc => ?_) (fun hc => ?_) <;> try (exfalso; omega)) | refine Cw.cond_bool rfl (fun hc => ?_) (fun hc => ?_)) | refine goR ?_ | refine goP ?_ | apply PSeq.cons | apply PSeq.yes rfl rfl rfl | exact goW | fail)
    refine Fin.ret (Ent.take goTk) (Outs.many rfl (OutL.cons goOe (OutL.cons goOe (OutL.cons goOe OutL.nil))) rfl) ⟨rfl, rfl⟩
  rw [impR_step hkn] at hV
  obtain ⟨T, hT⟩ : ∃ T, T = impI l h s bt 0 (bt.length - 0) (bt, w) := ⟨_, rfl⟩
  rw [← hT] at hV
  have hbr := (ordersE_iff.1 hbo).1
  have kC := clone_int (intRows bt) (intRows_k bt) (by rw [intRows_len]; omega)
  repeat' (first | refine goH ?_ | refine goV ?_ | refine goB (fun b => ?_) | refine goG ?_ | (refine Ops.k_guard ?_; first | (refine Ops.guard_dec rfl rfl (fun hc => ?_) (fun hc => ?_) <;> try (exfalso; omega)) | refine Ops.guard_split rfl rfl (fun hc => ?_) (fun hc => ?_)) | refine goI ?_ | (refine Cw.k_cond ?_; first | (refine Cw.cond_dec rfl (fun hc => ?_) (fun hc => ?_) <;> try (exfalso; omega)) | refine Cw.cond_bool rfl (fun hc => ?_) (fun hc => ?_)) | refine goR ?_ | refine goP ?_ | apply PSeq.cons | apply PSeq.yes rfl rfl rfl | exact goW | fail)
  refine Cw.loopI [(1, _), (2, _), (5, _), (15, _), (44, _), (45, _), (49, _)] _ (fun z e cc => ∃ (i : Nat) (w : Int) (b2 : List Int) (rows : List (List Tr)), z = m - i ∧ (i ≤ m ∧ rows = intRows b2 ∧ b2.length = m ∧ ordersE l.length b2 = 0 ∧ T = impI l h s bt i (bt.length - i) (b2, w)) ∧ e = [(17, .sl 1 rows), (16, .int w), (50, .int i)] ∧ cc = [])
    ⟨_, _, _, (Ent.mkP goSub goPm), 0, w, bt, _, rfl, ⟨by omega, rfl, hbl, hbo, hT⟩, rfl, rfl⟩ ?_
  clear hT
  rintro _ _ _ ⟨i, w2, b2, _, rfl, ⟨hi, rfl, hb2l, hb2o, hV2⟩, rfl, rfl⟩
  have hb2R := (intRows_len b2).trans hb2l
  by_cases him : i < m
  rotate_left
  · rw [impI_end (by omega)] at hV2
    subst hV2
    have kE := equalInts_fn b2 bt (by omega) (by omega)
    simp only at hV
    by_cases he : b2 = bt
    · rw [if_pos he] at hV
      rw [decide_eq_true he] at kE
      subst he
      subst hV
      repeat' (first | refine goH ?_ | refine goV ?_ | refine goB (fun b => ?_) | refine goG ?_ | (refine Ops.k_guard ?_; first | (refine Ops.guard_dec rfl rfl (fun hc => ?_) (fun hc => ?_) <;> try (exfalso; omega)) | refine Ops.guard_split rfl rfl (fun hc => ?_) (fun hc => ?_)) | refine goI ?_ | (refine Cw.k_cond ?_; first | (refine Cw.cond_dec rfl (fun hc => ?_) (fun hc => ?_) <;> try (exfalso; omega)) | refine Cw.cond_bool rfl (fun hc => ?_) (fun hc => ?_)) | (refine Ops.k_calla ?_; first | (refine Ops.k_callf 14 ?_; refine Ops.callV kE (Evs.cons rfl (Evs.cons rfl Evs.nil)) rfl ?_)) | (apply OpW.k_call; first | (apply OpW.k_callf 14; exact OpW.callV kE (Evs.cons rfl (Evs.cons rfl Evs.nil)))) | refine goR ?_ | refine goP ?_ | apply PSeq.cons | apply PSeq.yes rfl rfl rfl | exact goW | fail)
      refine Fin.ret (Ent.take goTk) (Outs.many rfl (OutL.cons goOe (OutL.cons goOe (OutL.cons goOe OutL.nil))) rfl) ⟨rfl, rfl⟩
    · rw [if_neg he] at hV
      rw [decide_eq_false he] at kE
      repeat' (first | refine goH ?_ | refine goV ?_ | refine goB (fun b => ?_) | refine goG ?_ | (refine Ops.k_guard ?_; first | (refine Ops.guard_dec rfl rfl (fun hc => ?_) (fun hc => ?_) <;> try (exfalso; omega)) | refine Ops.guard_split rfl rfl (fun hc => ?_) (fun hc => ?_)) | refine goI ?_ | (refine Cw.k_cond ?_; first | (refine Cw.cond_dec rfl (fun hc => ?_) (fun hc => ?_) <;> try (exfalso; omega)) | refine Cw.cond_bool rfl (fun hc => ?_) (fun hc => ?_)) | (refine Ops.k_calla ?_; first | (refine Ops.k_callf 14 ?_; refine Ops.callV kE (Evs.cons rfl (Evs.cons rfl Evs.nil)) rfl ?_)) | (apply OpW.k_call; first | (apply OpW.k_callf 14; exact OpW.callV kE (Evs.cons rfl (Evs.cons rfl Evs.nil)))) | refine goR ?_ | refine goP ?_ | apply PSeq.cons | apply PSeq.yes rfl rfl rfl | exact goW | fail)
      exact ⟨_, _, _, (Ent.mk goSub goTk), ⟨k + 1, _, _, _, rfl, ⟨by omega, rfl, hb2l, hb2o, hV⟩, rfl, rfl⟩, by omega⟩
  rw [impI_step (by omega)] at hV2
  obtain ⟨U, hU⟩ : ∃ U, U = impJ l h s bt i (i + 1) (bt.length - (i + 1)) (b2, w2) := ⟨_, rfl⟩
  rw [← hU] at hV2
  repeat' (first | refine goH ?_ | refine goV ?_ | refine goB (fun b => ?_) | refine goG ?_ | (refine Ops.k_guard ?_; first | (refine Ops.guard_dec rfl rfl (fun hc => ?_) (fun hc => ?_) <;> try (exfalso; omega)) | refine Ops.guard_split rfl rfl (fun hc => ?_) (fun hc => ?_)) | refine goI ?_ | (refine Cw.k_cond ?_; first | (refine Cw.cond_dec rfl (fun hc => ?_) (fun hc => ?_) <;> try (exfalso; omega)) | refine Cw.cond_bool rfl (fun hc => ?_) (fun hc => ?_)) | refine goR ?_ | refine goP ?_ | apply PSeq.cons | apply PSeq.yes rfl rfl rfl | exact goW | fail)
  refine Cw.loopI [(1, _), (2, _), (5, _), (15, _), (18, _), (44, _), (45, _), (49, _), (50, _)] _ (fun z e cc => ∃ (j : Nat) (w : Int) (b2 : List Int) (rows : List (List Tr)), z = m - j ∧ (i + 1 ≤ j ∧ j ≤ m ∧ rows = intRows b2 ∧ b2.length = m ∧ ordersE l.length b2 = 0 ∧ U = impJ l h s bt i j (bt.length - j) (b2, w)) ∧ e = [(17, .sl 1 rows), (16, .int w), (19, .int j)] ∧ cc = [])
    ⟨_, _, _, (Ent.mkP goSub goPm), i + 1, w2, b2, _, rfl, ⟨by omega, by omega, rfl, hb2l, hb2o, hU⟩, rfl, rfl⟩ ?_
  clear hU hb2R hb2l hb2o
  rintro _ _ _ ⟨j, w3, b3, _, rfl, ⟨hij, hj, rfl, hb3l, hb3o, hV3⟩, rfl, rfl⟩
  by_cases hjm : j < m
  rotate_left
  · rw [impJ_end (by omega)] at hV3
    subst hV3
    repeat' (first | refine goH ?_ | refine goV ?_ | refine goB (fun b => ?_) | refine goG ?_ | (refine Ops.k_guard ?_; first | (refine Ops.guard_dec rfl rfl (fun hc => ?_) (fun hc => ?_) <;> try (exfalso; omega)) | refine Ops.guard_split rfl rfl (fun hc => ?_) (fun hc => ?_)) | refine goI ?_ | (refine Cw.k_cond ?_; first | (refine Cw.cond_dec rfl (fun hc => ?_) (fun hc => ?_) <;> try (exfalso; omega)) | refine Cw.cond_bool rfl (fun hc => ?_) (fun hc => ?_)) | refine goR ?_ | refine goP ?_ | apply PSeq.cons | apply PSeq.yes rfl rfl rfl | exact goW | fail)
    exact ⟨_, _, _, (Ent.mk goSub goTk), ⟨i + 1, _, _, _, rfl, ⟨by omega, rfl, hb3l, hb3o, hV2⟩, rfl, rfl⟩, by omega⟩
  rw [impJ_step (by omega)] at hV3
  unfold impS at hV3
  have hrl := (revI_len bt i j).trans hbl
  have hro := ordersE_perm (revI_perm (b := bt) (i := i) (j := j) (by omega) (by omega)) hbo
  have hrr := (ordersE_iff.1 hro).1
  have kD := driveOf_fn h l s (revI bt i j) ht (by omega)
  unfold drvU Spot.row at kD
  rw [if_neg (by omega)] at kD
  have hset : (intRows bt).length = (intRows (revI bt i j)).length := by rw [intRows_len, intRows_len, hbl, hrl]
  have kV := fun (ad : Option Addr) (cap cap2 : Nat) => reverse_int bt ad cap cap2 i (j + 1 - i) (by omega) (by omega)
  rw [revI_eq] at kV
  have e1 : ((j : Int) + 1 - (i : Int)).toNat = j + 1 - i := by omega
  clear hrr hbr
  repeat' (first | refine goH ?_ | refine goV ?_ | refine goB (fun b => ?_) | refine goG ?_ | (refine Ops.k_guard ?_; first | (refine Ops.guard_dec rfl rfl (fun hc => ?_) (fun hc => ?_) <;> try (exfalso; omega)) | refine Ops.guard_split rfl rfl (fun hc => ?_) (fun hc => ?_)) | refine goI ?_ | (refine Cw.k_cond ?_; first | (refine Cw.cond_dec rfl (fun hc => ?_) (fun hc => ?_) <;> try (exfalso; omega)) | refine Cw.cond_bool rfl (fun hc => ?_) (fun hc => ?_)) | refine goR ?_ | refine goP ?_ | apply PSeq.cons | apply PSeq.yes rfl rfl rfl | exact goW | fail)
  refine Ops.k_calla ?_
  refine Ops.callO kC (Evs.cons rfl Evs.nil) rfl (fun ad cap rows hr => ?_)
  subst hr
  repeat' (first | refine goH ?_ | refine goV ?_ | refine goB (fun b => ?_) | (refine Ops.k_slice ?_; first | refine Ops.slice_own_lh rfl rfl rfl goPk rfl (by omega) rfl ?_) | refine goG ?_ | (refine Ops.k_guard ?_; first | (refine Ops.guard_dec rfl rfl (fun hc => ?_) (fun hc => ?_) <;> try (exfalso; omega)) | refine Ops.guard_split rfl rfl (fun hc => ?_) (fun hc => ?_)) | refine goI ?_ | (refine Cw.k_cond ?_; first | (refine Cw.cond_dec rfl (fun hc => ?_) (fun hc => ?_) <;> try (exfalso; omega)) | refine Cw.cond_bool rfl (fun hc => ?_) (fun hc => ?_)) | refine goR ?_ | refine goP ?_ | apply PSeq.cons | apply PSeq.yes rfl rfl rfl | exact goW | fail)
  rw [e1]
  refine Ops.k_calla ?_
  refine Ops.call (kV _ _ _) (Evs.cons rfl Evs.nil) goPm rfl ?_
  rintro y cs' ⟨rfl, rfl⟩
  clear kV
  repeat' (first | refine goH ?_ | ((fail_if_success refine Ops.k_load ?_); refine goV ?_) | ((fail_if_success refine Ops.k_load ?_); refine goB (fun b => ?_)) | refine goG ?_ | (refine Ops.k_guard ?_; first | (refine Ops.guard_dec rfl rfl (fun hc => ?_) (fun hc => ?_) <;> try (exfalso; omega)) | refine Ops.guard_split rfl rfl (fun hc => ?_) (fun hc => ?_)) | refine goI ?_ | (refine Cw.k_cond ?_; first | (refine Cw.cond_dec rfl (fun hc => ?_) (fun hc => ?_) <;> try (exfalso; omega)) | refine Cw.cond_bool rfl (fun hc => ?_) (fun hc => ?_)) | refine goR ?_ | refine goP ?_ | apply PSeq.cons | apply PSeq.yes rfl rfl rfl | exact goW | fail)
  refine Ops.ent (Ent.settle (s := 20) rfl goPk hset) ?_
  cases hD : drv l h (revI bt i j) h s [] 0 0 with
  | none =>
    rw [hD] at hV3 kD
    unfold drvV at kD
    simp only at hV3 kD
    repeat' (first | refine goH ?_ | refine goV ?_ | refine goB (fun b => ?_) | refine goG ?_ | (refine Ops.k_guard ?_; first | (refine Ops.guard_dec rfl rfl (fun hc => ?_) (fun hc => ?_) <;> try (exfalso; omega)) | refine Ops.guard_split rfl rfl (fun hc => ?_) (fun hc => ?_)) | refine goI ?_ | (refine Cw.k_cond ?_; first | (refine Cw.cond_dec rfl (fun hc => ?_) (fun hc => ?_) <;> try (exfalso; omega)) | refine Cw.cond_bool rfl (fun hc => ?_) (fun hc => ?_)) | (refine Ops.k_calla ?_; first | (refine Ops.k_callf 29 ?_; refine Ops.callV kD (Evs.cons rfl (Evs.cons rfl (Evs.cons rfl (Evs.cons rfl Evs.nil)))) rfl ?_)) | (apply OpW.k_call; first | (apply OpW.k_callf 29; exact OpW.callV kD (Evs.cons rfl (Evs.cons rfl (Evs.cons rfl (Evs.cons rfl Evs.nil)))))) | refine goR ?_ | refine goP ?_ | apply PSeq.cons | apply PSeq.yes rfl rfl rfl | exact goW | fail)
    exact ⟨_, _, _, (Ent.mk goSub goTk), ⟨j + 1, _, _, _, rfl, ⟨by omega, by omega, rfl, hb3l, hb3o, hV3⟩, rfl, rfl⟩, by omega⟩
  | some r =>
    obtain ⟨bs, e, w4, q⟩ := r
    rw [hD] at hV3 kD
    unfold drvV at kD
    simp only at hV3 kD
    by_cases hw : w4 < w3
    · rw [if_pos hw] at hV3
      repeat' (first | refine goH ?_ | refine goV ?_ | refine goB (fun b => ?_) | refine goG ?_ | (refine Ops.k_guard ?_; first | (refine Ops.guard_dec rfl rfl (fun hc => ?_) (fun hc => ?_) <;> try (exfalso; omega)) | refine Ops.guard_split rfl rfl (fun hc => ?_) (fun hc => ?_)) | refine goI ?_ | (refine Cw.k_cond ?_; first | (refine Cw.cond_dec rfl (fun hc => ?_) (fun hc => ?_) <;> try (exfalso; omega)) | refine Cw.cond_bool rfl (fun hc => ?_) (fun hc => ?_)) | (refine Ops.k_calla ?_; first | (refine Ops.k_callf 29 ?_; refine Ops.callV kD (Evs.cons rfl (Evs.cons rfl (Evs.cons rfl (Evs.cons rfl Evs.nil)))) rfl ?_)) | (apply OpW.k_call; first | (apply OpW.k_callf 29; exact OpW.callV kD (Evs.cons rfl (Evs.cons rfl (Evs.cons rfl (Evs.cons rfl Evs.nil)))))) | refine goR ?_ | refine goP ?_ | apply PSeq.cons | apply PSeq.yes rfl rfl rfl | exact goW | fail)
      exact ⟨_, _, _, (Ent.mk goSub goTk), ⟨j + 1, _, _, _, rfl, ⟨by omega, by omega, rfl, hrl, hro, hV3⟩, rfl, rfl⟩, by omega⟩
    · rw [if_neg hw] at hV3
      repeat' (first | refine goH ?_ | refine goV ?_ | refine goB (fun b => ?_) | refine goG ?_ | (refine Ops.k_guard ?_; first | (refine Ops.guard_dec rfl rfl (fun hc => ?_) (fun hc => ?_) <;> try (exfalso; omega)) | refine Ops.guard_split rfl rfl (fun hc => ?_) (fun hc => ?_)) | refine goI ?_ | (refine Cw.k_cond ?_; first | (refine Cw.cond_dec rfl (fun hc => ?_) (fun hc => ?_) <;> try (exfalso; omega)) | refine Cw.cond_bool rfl (fun hc => ?_) (fun hc => ?_)) | (refine Ops.k_calla ?_; first | (refine Ops.k_callf 29 ?_; refine Ops.callV kD (Evs.cons rfl (Evs.cons rfl (Evs.cons rfl (Evs.cons rfl Evs.nil)))) rfl ?_)) | (apply OpW.k_call; first | (apply OpW.k_callf 29; exact OpW.callV kD (Evs.cons rfl (Evs.cons rfl (Evs.cons rfl (Evs.cons rfl Evs.nil)))))) | refine goR ?_ | refine goP ?_ | apply PSeq.cons | apply PSeq.yes rfl rfl rfl | exact goW | fail)
      exact ⟨_, _, _, (Ent.mk goSub goTk), ⟨j + 1, _, _, _, rfl, ⟨by omega, by omega, rfl, hb3l, hb3o, hV3⟩, rfl, rfl⟩, by omega⟩
end Lg
end
section
set_option linter.all false
set_option maxRecDepth 100000
set_option maxHeartbeats 8000000
namespace Lg
open Go Go.Proofs

/-! ### Split, in plain terms -/
theorem drv_le {l : List Stop} {h : Spot} (hl : ∀ s ∈ l, stopB s = true) (hh : spotB h = true) : ∀ (o : List Int) (a : Spot) (now : Int) (bs : List Int) (w q : Int) {bs2 : List Int} {e w2 q2 : Int}, spotB a = true → drv l h o a now bs w q = some (bs2, e, w2, q2) → w ≤ w2 ∧ w2 ≤ w + 40000 * (o.length + 1)
  | [], a, now, bs, w, q, bs2, e, w2, q2, ha, hd => by
    rw [drv] at hd
    have := farI_bd ha hh
    cases hd
    simp
    omega
  | i :: o, a, now, bs, w, q, bs2, e, w2, q2, ha, hd => by
    rw [drv] at hd
    cases hs : l[i.toNat]? with
    | none => rw [hs] at hd; cases hd
    | some s =>
      rw [hs] at hd
      simp only at hd
      have h1 := (stopB_ok (hl s (List.mem_of_getElem? hs))).1.1
      have h2 := farI_bd ha h1
      by_cases hc : s.t < max (now + farI a s.spot) s.f
      · rw [if_pos hc] at hd; cases hd
      · rw [if_neg hc] at hd
        have := drv_le hl hh o s.spot _ _ _ _ h1 hd
        rw [List.length_cons]
        omega
def itF {σ : Type} (f : Nat → σ → σ) : Nat → Nat → σ → σ
  | _, 0, s => s
  | k, n + 1, s => itF f (k + 1) n (f k s)
theorem itF_step {σ : Type} {f : Nat → σ → σ} {k D : Nat} {s : σ} (h : k < D) : itF f k (D - k) s = itF f (k + 1) (D - (k + 1)) (f k s) := by
  obtain ⟨m, hm⟩ : ∃ m, D - k = m + 1 := ⟨D - k - 1, by omega⟩
  rw [hm, itF, show D - (k + 1) = m by omega]
theorem itF_end {σ : Type} {f : Nat → σ → σ} {k D : Nat} {s : σ} (h : ¬ k < D) : itF f k (D - k) s = s := by
  rw [show D - k = 0 by omega, itF]
/-- a list of lists in a slice -/
def roI (rs : List (List Int)) : List (List Tr) := rs.map fun o => [Tr.ints o]
theorem roI_len (rs : List (List Int)) : (roI rs).length = rs.length := List.length_map _
theorem roI_at {rs : List (List Int)} {k : Nat} {o : List Int} (h : rs[k]? = some o) : (roI rs)[k]? = some [Tr.ints o] := by
  unfold roI
  rw [List.getElem?_map, h]
  rfl
theorem roI_set (rs : List (List Int)) (k : Nat) (o : List Int) : (roI rs).set k [Tr.ints o] = roI (rs.set k o) := by
  unfold roI
  rw [List.map_set]
theorem roI_k {rs : List (List Int)} : ∀ r ∈ roI rs, r.length = 1 := by
  intro r hr
  obtain ⟨o, _, rfl⟩ := List.mem_map.1 hr
  rfl
theorem roI_imp (n : Nat) : ImpL (List.replicate n [Tr.raw (.slice none 0 0)]).flatten (roI (List.replicate n [])).flatten := by
  induction n with
  | zero => exact .nil
  | succ n ih =>
    unfold roI at ih ⊢
    rw [List.replicate_succ, List.replicate_succ, List.map_cons, List.flatten_cons, List.flatten_cons]
    exact .cons Imp.nil ih
section spl
variable (l : List Stop) (h : Spot) (s : Int)
def wayO (o : List Int) : Int := match drv l h o h s [] 0 0 with
  | none => 0
  | some (_, _, w, _) => w
def insT (o : List Int) (x : Int) : ISt := insG l h s o x 0 (o.length + 1) ([], 0, false)
abbrev SS := Int × Int × List Int
def splK (rs : List (List Int)) (i : Nat) (k : Nat) (st : SS) : SS :=
  if (insT l h s (rs.getD k []) i).2.2 = true ∧ (st.1 < 0 ∨ (insT l h s (rs.getD k []) i).2.1 - wayO l h s (rs.getD k []) < st.2.1) then (k, (insT l h s (rs.getD k []) i).2.1 - wayO l h s (rs.getD k []), (insT l h s (rs.getD k []) i).1) else st
def splI (i : Nat) (rs : List (List Int)) : List (List Int) :=
  if 0 ≤ (itF (splK l h s rs i) 0 rs.length (-1, 0, [])).1 then rs.set (itF (splK l h s rs i) 0 rs.length (-1, 0, [])).1.toNat (itF (splK l h s rs i) 0 rs.length (-1, 0, [])).2.2 else rs
def splE (c : Int) : Tr := if c < 1 ∨ 10 < c then .tup [.sl 1 [], .int 1] else .tup [.sl 1 (roI (itF (splI l h s) 0 l.length (List.replicate c.toNat []))), .int 0]
/-- a route that holds stops before the i-th alone -/
def okR (i : Nat) (o : List Int) : Prop := ordersE l.length o = 0 ∧ (∃ r, drv l h o h s [] 0 0 = some r) ∧ (∀ y ∈ o, y < (i : Int)) ∧ o.length ≤ i
end spl
section spl
variable {l : List Stop} {h : Spot} {s : Int}
theorem okR_nil : okR l h s 0 [] := ⟨rfl, ⟨_, rfl⟩, by simp, Nat.le_refl 0⟩
theorem okR_mono {i : Nat} {o : List Int} (ho : okR l h s i o) : okR l h s (i + 1) o := ⟨ho.1, ho.2.1, fun y hy => by have := ho.2.2.1 y hy; omega, by have := ho.2.2.2; omega⟩
theorem okR_new {i : Nat} {o : List Int} (ho : okR l h s i o) : (i : Int) ∉ o := fun hm => by have := ho.2.2.1 _ hm; omega
theorem insG_ok {o : List Int} {x : Int} : ∀ (n k : Nat) (st : ISt), (st.2.2 = true → ∃ j, j ≤ o.length ∧ st.1 = insAt o j x ∧ ∃ bs e q, drv l h st.1 h s [] 0 0 = some (bs, e, st.2.1, q)) → k + n ≤ o.length + 1 →
    (insG l h s o x k n st).2.2 = true → ∃ j, j ≤ o.length ∧ (insG l h s o x k n st).1 = insAt o j x ∧ ∃ bs e q, drv l h (insG l h s o x k n st).1 h s [] 0 0 = some (bs, e, (insG l h s o x k n st).2.1, q)
  | 0, k, st, hst, _, hf => hst hf
  | n + 1, k, st, hst, hk, hf => by
    rw [insG] at hf ⊢
    refine insG_ok n (k + 1) _ ?_ (by omega) hf
    unfold insS
    cases hd : drv l h (insAt o k x) h s [] 0 0 with
    | none => exact hst
    | some r =>
      obtain ⟨bs, e, w, q⟩ := r
      simp only
      by_cases hc : st.2.2 = false ∨ w < st.2.1
      · rw [if_pos hc]
        exact fun _ => ⟨k, by omega, rfl, bs, e, q, hd⟩
      · rw [if_neg hc]
        exact hst
theorem insT_ok {i : Nat} {o : List Int} (ho : okR l h s i o) (hi : i < l.length) (hf : (insT l h s o i).2.2 = true) : okR l h s (i + 1) (insT l h s o i).1 ∧ wayO l h s (insT l h s o i).1 = (insT l h s o i).2.1 := by
  obtain ⟨j, hj, he, bs, e, q, hd⟩ := insG_ok (l := l) (h := h) (s := s) (o := o) (x := (i : Int)) (o.length + 1) 0 ([], 0, false) (fun h => nomatch h) (by omega) hf
  unfold insT
  refine ⟨⟨?_, ⟨_, hd⟩, ?_, ?_⟩, by unfold wayO; rw [hd]⟩
  · rw [he]
    exact insAt_ok ho.1 (by omega) (okR_new ho)
  · intro y hy
    rw [he] at hy
    rcases insAt_mem hy with hm | hm
    · have := ho.2.2.1 y hm; omega
    · omega
  · rw [he, insAt_len hj]
    have := ho.2.2.2
    omega
theorem wayO_bd {i : Nat} {o : List Int} (ht : tripE h l s = 0) (ho : okR l h s i o) : 0 ≤ wayO l h s o ∧ wayO l h s o ≤ 40000 * (i + 1) := by
  obtain ⟨⟨bs, e, w, q⟩, hd⟩ := ho.2.1
  have hst := (stops_ok (trip_ok ht).1).2
  have hhb := (trip_ok ht).2.1
  have := drv_le hst hhb _ _ _ _ _ _ hhb hd
  have := ho.2.2.2
  unfold wayO
  rw [hd]
  simp only
  omega
/-- the state of the inner loop is in order -/
def okS (l : List Stop) (h : Spot) (s : Int) (rs : List (List Int)) (i : Nat) (st : SS) : Prop := st.1 = -1 ∨ (0 ≤ st.1 ∧ st.1 < rs.length ∧ okR l h s (i + 1) st.2.2 ∧ st.2.1 = wayO l h s st.2.2 - wayO l h s (rs.getD st.1.toNat []))
theorem okS_step {rs : List (List Int)} {i k : Nat} {st : SS} (hrs : ∀ o ∈ rs, okR l h s i o) (hi : i < l.length) (hk : k < rs.length) (hst : okS l h s rs i st) : okS l h s rs i (splK l h s rs i k st) := by
  unfold splK
  by_cases hc : (insT l h s (rs.getD k []) i).2.2 = true ∧ (st.1 < 0 ∨ (insT l h s (rs.getD k []) i).2.1 - wayO l h s (rs.getD k []) < st.2.1)
  · rw [if_pos hc]
    have hm : rs.getD k [] ∈ rs := by
      rw [List.getD_eq_getElem?_getD, List.getElem?_eq_getElem hk]
      exact List.getElem_mem hk
    obtain ⟨h1, h2⟩ := insT_ok (hrs _ hm) hi hc.1
    exact .inr ⟨by simp, by simp; exact hk, h1, by
      show _ = _ - wayO l h s (rs.getD (k : Int).toNat [])
      rw [Int.toNat_natCast, h2]⟩
  · rw [if_neg hc]
    exact hst
theorem okS_all {rs : List (List Int)} {i : Nat} (hrs : ∀ o ∈ rs, okR l h s i o) (hi : i < l.length) : ∀ (n k : Nat) (st : SS), k + n ≤ rs.length → okS l h s rs i st → okS l h s rs i (itF (splK l h s rs i) k n st)
  | 0, _, _, _, hst => hst
  | n + 1, k, st, hk, hst => okS_all hrs hi n (k + 1) _ (by omega) (okS_step hrs hi (by omega) hst)
end spl
end Lg
end
section
set_option linter.all false
set_option maxRecDepth 100000
set_option maxHeartbeats 8000000
namespace Lg
open Go Go.Proofs

theorem intRows_rep2 (n : Nat) : List.replicate n [Tr.int 0] = intRows (List.replicate n 0) := by
  unfold intRows
  rw [List.map_replicate]
theorem wayO_nil {l : List Stop} {h : Spot} {s : Int} : wayO l h s [] = 0 := by
  unfold wayO
  rw [drv]
  show 0 + farI h h = 0
  unfold farI
  omega
theorem insT_eq (l : List Stop) (h : Spot) (s : Int) (o : List Int) (x : Int) : insG l h s o x 0 (o.length + 1) ([], 0, false) = insT l h s o x := rfl
theorem splK_eq {l : List Stop} {h : Spot} {s : Int} {rs : List (List Int)} {i k : Nat} {o b : List Int} {w c g : Int} {f : Bool} {rt : List Int} (ho : rs[k]? = some o) (hT : insT l h s o i = (b, w, f)) :
    splK l h s rs i k (c, g, rt) = if f = true ∧ (c < 0 ∨ w - wayO l h s o < g) then ((k : Int), w - wayO l h s o, b) else (c, g, rt) := by
  unfold splK
  rw [List.getD_eq_getElem?_getD, ho, Option.getD_some, hT]
attribute [local irreducible] intRows insAt drv ordersE tripE roI wayO insT splK splI itF
theorem split_fn (h : Spot) (l : List Stop) (s c : Int) (hl : l.length ≤ 1000) (hcb : -1000000 ≤ c ∧ c ≤ 1000000) : PFn Tryd.prog 19 [.agg h.row, .stops l, .int s, .int c] (· = if tripE h l s ≠ 0 then .tup [.sl 1 [], .int (tripE h l s)] else splE l h s c) := by
  have hL : (l.map Stop.row).length = l.length := List.length_map _
  have k0 := fault_fn h l s hl
  unfold Spot.row
  by_cases ht : tripE h l s ≠ 0
  · rw [if_pos ht]
    generalize tripE h l s = E at *
    refine PFn.mk (Spec.body Tryd.func19 rfl rfl (Tryd.ntmps19) rfl fun w0 own0 M => ?_)
    repeat' (first | refine goH ?_ | refine goV ?_ | refine goB (fun b => ?_) | refine goC (fun ad cap => ?_) | refine goG ?_ | (refine Ops.k_guard ?_; first | (refine Ops.guard_dec rfl rfl (fun hc => ?_) (fun hc => ?_) <;> try (exfalso; omega)) | refine Ops.guard_split rfl rfl (fun hc => ?_) (fun hc => ?_)) | refine goI ?_ | (refine Cw.k_cond ?_; first | (refine Cw.cond_dec rfl (fun hc => ?_) (fun hc => ?_) <;> try (exfalso; omega)) | refine Cw.cond_bool rfl (fun hc => ?_) (fun hc => ?_)) | (refine Ops.k_calla ?_; first | (refine Ops.k_callf 37 ?_; refine Ops.callV k0 (Evs.cons rfl Evs.nil) rfl ?_)) | (apply OpW.k_call; first | (apply OpW.k_callf 37; exact OpW.callV k0 (Evs.cons rfl Evs.nil))) | refine goR ?_ | refine goP ?_ | apply PSeq.cons | apply PSeq.yes rfl rfl rfl | exact goW | fail)
    refine Fin.ret (Ent.trans (Ent.nilsl 1 (s := 8) rfl) (Ent.take goTk)) (Outs.many rfl (OutL.cons goOe (OutL.cons goOe OutL.nil)) rfl) ⟨rfl, rfl⟩
  rw [if_neg ht]
  have ht0 : tripE h l s = 0 := by omega
  rw [ht0] at k0
  unfold splE
  by_cases h2 : c < 1 ∨ 10 < c
  · rw [if_pos h2]
    have kO := out_t c 1 10 h2
    refine PFn.mk (Spec.body Tryd.func19 rfl rfl (Tryd.ntmps19) rfl fun w0 own0 M => ?_)
    repeat' (first | refine goH ?_ | refine goV ?_ | refine goB (fun b => ?_) | refine goC (fun ad cap => ?_) | refine goG ?_ | (refine Ops.k_guard ?_; first | (refine Ops.guard_dec rfl rfl (fun hc => ?_) (fun hc => ?_) <;> try (exfalso; omega)) | refine Ops.guard_split rfl rfl (fun hc => ?_) (fun hc => ?_)) | refine goI ?_ | (refine Cw.k_cond ?_; first | (refine Cw.cond_dec rfl (fun hc => ?_) (fun hc => ?_) <;> try (exfalso; omega)) | refine Cw.cond_bool rfl (fun hc => ?_) (fun hc => ?_)) | (refine Ops.k_calla ?_; first | (refine Ops.k_callf 37 ?_; refine Ops.callV k0 (Evs.cons rfl Evs.nil) rfl ?_) | (refine Ops.k_callf 45 ?_; refine Ops.callV kO (Evs.cons rfl (Evs.cons rfl (Evs.cons rfl Evs.nil))) rfl ?_)) | (apply OpW.k_call; first | (apply OpW.k_callf 37; exact OpW.callV k0 (Evs.cons rfl Evs.nil)) | (apply OpW.k_callf 45; exact OpW.callV kO (Evs.cons rfl (Evs.cons rfl (Evs.cons rfl Evs.nil))))) | refine goR ?_ | refine goP ?_ | apply PSeq.cons | apply PSeq.yes rfl rfl rfl | exact goW | fail)
    refine Fin.ret (Ent.trans (Ent.nilsl 1 (s := 8) rfl) (Ent.take goTk)) (Outs.many rfl (OutL.cons goOe (OutL.cons goOe OutL.nil)) rfl) ⟨rfl, rfl⟩
  rw [if_neg h2]
  have kO := out_f c 1 10 (by omega)
  obtain ⟨n, hn⟩ : ∃ n : Nat, c.toNat = n := ⟨_, rfl⟩
  have hcn : c = n := by omega
  rw [hn]
  subst hcn
  clear hn ht
  obtain ⟨S, hS⟩ : ∃ S, S = itF (splI l h s) 0 l.length (List.replicate n []) := ⟨_, rfl⟩
  rw [← hS]
  have hl60 := (stops_ok (trip_ok ht0).1).1
  refine PFn.mk (Spec.body Tryd.func19 rfl rfl (Tryd.ntmps19) rfl fun w0 own0 M => ?_)
  repeat' (first | refine goH ?_ | refine goV ?_ | refine goB (fun b => ?_) | refine goC (fun ad cap => ?_) | refine goG ?_ | (refine Ops.k_guard ?_; first | (refine Ops.guard_dec rfl rfl (fun hc => ?_) (fun hc => ?_) <;> try (exfalso; omega)) | refine Ops.guard_split rfl rfl (fun hc => ?_) (fun hc => ?_)) | refine goI ?_ | (refine Cw.k_cond ?_; first | (refine Cw.cond_dec rfl (fun hc => ?_) (fun hc => ?_) <;> try (exfalso; omega)) | refine Cw.cond_bool rfl (fun hc => ?_) (fun hc => ?_)) | (refine Ops.k_calla ?_; first | (refine Ops.k_callf 37 ?_; refine Ops.callV k0 (Evs.cons rfl Evs.nil) rfl ?_) | (refine Ops.k_callf 45 ?_; refine Ops.callV kO (Evs.cons rfl (Evs.cons rfl (Evs.cons rfl Evs.nil))) rfl ?_)) | (apply OpW.k_call; first | (apply OpW.k_callf 37; exact OpW.callV k0 (Evs.cons rfl Evs.nil)) | (apply OpW.k_callf 45; exact OpW.callV kO (Evs.cons rfl (Evs.cons rfl (Evs.cons rfl Evs.nil))))) | fail)
  rename_i b4
  first | refine Cw.region_YP (fun ξ S => Chunk.box b 67 [.int h.x, .int h.y, .stops l, .int s] :: Chunk.box b4 30 [.int h.x, .int h.y] :: (stg (S 1) [] [ownV (ξ 1) 1 22 (List.replicate n [Tr.raw (.slice none 0 0)])] ++ (stg (S 3) [] [ownV (ξ 3) 1 3 (List.replicate n [Tr.int 0])] ++ []))) rfl (by decide +kernel) rfl ((fun (ξ : Nat → Value) (S : Nat → Bool) => Chunk.box b 67 [.int h.x, .int h.y, .stops l, .int s] :: Chunk.box b4 30 [.int h.x, .int h.y] :: (stg (S 1) [] [ownV (ξ 1) 1 22 (List.replicate n [Tr.raw (.slice none 0 0)])] ++ (stg (S 3) [] [ownV (ξ 3) 1 3 (List.replicate n [Tr.int 0])] ++ []))) (fun _ => undef) (fun _ => false)) (by simp only [upd_same, updD_same, upd_ne, updD_ne, ne_eq, Nat.reduceEqDiff, not_false_eq_true, stg_t, stg_f, vAd_s, vCap_s, blk_p, List.cons_append, List.nil_append, b2n_t, b2n_f]; exact goXm) (fun _ => rfl) ?_ | fail
  apply YSeq.w (by intro _ _ _; rfl)
  · intro ξ S h1 h2 h3 h4
    have hN0_1 := closed_false h1 h3 (k := 1) rfl (by decide)
    try simp only [upd_same, updD_same, upd_ne, updD_ne, ne_eq, Nat.reduceEqDiff, not_false_eq_true, stg_t, stg_f, vAd_s, vCap_s, blk_p, List.cons_append, List.nil_append, b2n_t, b2n_f, hN0_1]
    exact goW
  · intro ξ v; rfl
  · intro ξ k v S h3 hn hk
    first
    | rfl
  apply YSeq.mkOwn (n) (fun _ => rfl) (fun _ => rfl) (by omega) (by omega)
  · intro ξ S h1 h3 ad cap
    simp only [upd_same, updD_same, upd_ne, updD_ne, ne_eq, Nat.reduceEqDiff, not_false_eq_true, stg_t, stg_f, vAd_s, vCap_s, blk_p, List.cons_append, List.nil_append, b2n_t, b2n_f, h1]
    exact goXm
  apply YSeq.w (by intro _ _ _; rfl)
  · intro ξ S h1 h2 h3 h4
    have hN2_3 := closed_false h1 h3 (k := 3) rfl (by decide)
    try simp only [upd_same, updD_same, upd_ne, updD_ne, ne_eq, Nat.reduceEqDiff, not_false_eq_true, stg_t, stg_f, vAd_s, vCap_s, blk_p, List.cons_append, List.nil_append, b2n_t, b2n_f, hN2_3]
    exact goW
  · intro ξ v; rfl
  · intro ξ k v S h3 hn hk
    first
    | rfl
  apply YSeq.mkOwn (n) (fun _ => rfl) (fun _ => rfl) (by omega) (by omega)
  · intro ξ S h1 h3 ad cap
    simp only [upd_same, updD_same, upd_ne, updD_ne, ne_eq, Nat.reduceEqDiff, not_false_eq_true, stg_t, stg_f, vAd_s, vCap_s, blk_p, List.cons_append, List.nil_append, b2n_t, b2n_f, h1]
    exact goXm
  apply YSeq.w (by intro _ _ _; rfl)
  · intro ξ S h1 h2 h3 h4
    have hY4_1 : S 1 = true := h2 1 (by decide)
    try simp only [upd_same, updD_same, upd_ne, updD_ne, ne_eq, Nat.reduceEqDiff, not_false_eq_true, stg_t, stg_f, vAd_s, vCap_s, blk_p, List.cons_append, List.nil_append, b2n_t, b2n_f, hY4_1]
    exact goW
  · intro ξ v; rfl
  · intro ξ k v S h3 hn hk
    first
    | rfl
    | skip
      have hY4_1 : S 1 = true := h3 4 _ rfl hn 1 (by decide)
      simp only [upd_S hY4_1 hk]
  apply YSeq.w (by intro _ _ _; rfl)
  · intro ξ S h1 h2 h3 h4
    have hY5_1 : S 1 = true := h2 1 (by decide)
    have hY5_3 : S 3 = true := h2 3 (by decide)
    try simp only [upd_same, updD_same, upd_ne, updD_ne, ne_eq, Nat.reduceEqDiff, not_false_eq_true, stg_t, stg_f, vAd_s, vCap_s, blk_p, List.cons_append, List.nil_append, b2n_t, b2n_f, hY5_1, hY5_3]
    exact goW
  · intro ξ v; rfl
  · intro ξ k v S h3 hn hk
    first
    | rfl
    | skip
      have hY5_1 : S 1 = true := h3 5 _ rfl hn 1 (by decide)
      have hY5_3 : S 3 = true := h3 5 _ rfl hn 3 (by decide)
      simp only [upd_S hY5_1 hk, upd_S hY5_3 hk]
  refine YSeq.nil fun ξ hf => ?_
  refine ⟨[(1, _), (10, _), (12, _), (13, _)], _, Ent.trans (Ent.eqc rfl (by first | (simp only [upd_same, updD_same, upd_ne, updD_ne, ne_eq, Nat.reduceEqDiff, not_false_eq_true, stg_t, stg_f, vAd_s, vCap_s, blk_p, List.cons_append, List.nil_append, b2n_t, b2n_f, ownV, slV, ptV] <;> rfl) | rfl)) (Ent.sub goSub), ?_⟩
  clear hf
  generalize vAd (ξ 1) = ad34
  generalize vCap (ξ 1) = cap34
  generalize vAd (ξ 3) = ad36
  generalize vCap (ξ 3) = cap36
  refine Then.norm ?_
  rw [intRows_rep2]
  refine Cw.ent (Ent.imp_own (rows' := roI (List.replicate n [])) (ad := ad34) (cap := cap34) goPk (by rw [roI_len]; simp) (fun _ => roI_k) (roI_imp n)) ?_
  repeat' (first | refine goH ?_ | refine goV ?_ | refine goB (fun b => ?_) | refine goC (fun ad cap => ?_) | refine goG ?_ | (refine Ops.k_guard ?_; first | (refine Ops.guard_dec rfl rfl (fun hc => ?_) (fun hc => ?_) <;> try (exfalso; omega)) | refine Ops.guard_split rfl rfl (fun hc => ?_) (fun hc => ?_)) | refine goI ?_ | (refine Cw.k_cond ?_; first | (refine Cw.cond_dec rfl (fun hc => ?_) (fun hc => ?_) <;> try (exfalso; omega)) | refine Cw.cond_bool rfl (fun hc => ?_) (fun hc => ?_)) | refine goR ?_ | refine goP ?_ | apply PSeq.cons | apply PSeq.yes rfl rfl rfl | exact goW | fail)
  refine Cw.loopI [(10, _), (12, _), (13, _), (38, _)] _ (fun z e cc => ∃ (i : Nat) (rs : List (List Int)) (W : List Int), z = l.length - i ∧ (i ≤ l.length ∧ rs.length = n ∧ W = rs.map (wayO l h s) ∧ (∀ o ∈ rs, okR l h s i o) ∧ S = itF (splI l h s) i (l.length - i) rs) ∧ e = [(39, .int i)] ∧ cc = [Chunk.own ad34 cap34 1 22 (roI rs), Chunk.own ad36 cap36 1 3 (intRows W)])
    ⟨_, _, _, (Ent.mkP goSub goPm), 0, List.replicate n [], List.replicate n 0, rfl, ⟨by omega, List.length_replicate, by rw [List.map_replicate, wayO_nil], fun o ho => by rw [List.eq_of_mem_replicate ho]; exact okR_nil, by rw [Nat.sub_zero]; exact hS⟩, rfl, rfl⟩ ?_
  clear hS k0 kO
  rintro _ _ _ ⟨i, rs, W, rfl, ⟨hi, hrl, hW, hok, hV⟩, rfl, rfl⟩
  have hWl : W.length = n := by rw [hW, List.length_map]; exact hrl
  have hoR := (roI_len rs).trans hrl
  have hWR := (intRows_len W).trans hWl
  by_cases hil : i < l.length
  rotate_left
  · rw [itF_end hil] at hV
    subst hV
    rw [← hoR]
    repeat' (first | refine goH ?_ | refine goV ?_ | refine goB (fun b => ?_) | refine goC (fun ad cap => ?_) | refine goG ?_ | (refine Ops.k_guard ?_; first | (refine Ops.guard_dec rfl rfl (fun hc => ?_) (fun hc => ?_) <;> try (exfalso; omega)) | refine Ops.guard_split rfl rfl (fun hc => ?_) (fun hc => ?_)) | refine goI ?_ | (refine Cw.k_cond ?_; first | (refine Cw.cond_dec rfl (fun hc => ?_) (fun hc => ?_) <;> try (exfalso; omega)) | refine Cw.cond_bool rfl (fun hc => ?_) (fun hc => ?_)) | refine goR ?_ | refine goP ?_ | apply PSeq.cons | apply PSeq.yes rfl rfl rfl | exact goW | fail)
    refine Fin.ret (Ent.trans (Ent.settle (s := 8) rfl goPk rfl) (Ent.take goTk)) (Outs.many rfl (OutL.cons goOe (OutL.cons goOe OutL.nil)) rfl) ⟨rfl, rfl⟩
  rw [itF_step hil] at hV
  obtain ⟨T, hT⟩ : ∃ T, T = itF (splK l h s rs i) 0 (rs.length - 0) (-1, 0, []) := ⟨_, rfl⟩
  have hTok : okS l h s rs i T := by rw [hT]; exact okS_all hok hil _ _ _ (by omega) (.inl rfl)
  have hV2 : S = itF (splI l h s) (i + 1) (l.length - (i + 1)) (if 0 ≤ T.1 then rs.set T.1.toNat T.2.2 else rs) := by
    rw [hV, hT, Nat.sub_zero]
    congr 1
    with_unfolding_all rfl
  clear hV
  repeat' (first | refine goH ?_ | refine goV ?_ | refine goB (fun b => ?_) | refine goC (fun ad cap => ?_) | refine goG ?_ | (refine Ops.k_guard ?_; first | (refine Ops.guard_dec rfl rfl (fun hc => ?_) (fun hc => ?_) <;> try (exfalso; omega)) | refine Ops.guard_split rfl rfl (fun hc => ?_) (fun hc => ?_)) | refine goI ?_ | (refine Cw.k_cond ?_; first | (refine Cw.cond_dec rfl (fun hc => ?_) (fun hc => ?_) <;> try (exfalso; omega)) | refine Cw.cond_bool rfl (fun hc => ?_) (fun hc => ?_)) | refine goR ?_ | refine goP ?_ | apply PSeq.cons | apply PSeq.yes rfl rfl rfl | exact goW | fail)
  refine Cw.ent (Ent.nilsl 1 (s := 17) rfl) ?_
  refine Cw.loopI [(10, _), (12, _), (13, _), (14, _), (38, _), (39, _), (43, _)] _ (fun z e cc => ∃ (k : Nat) (c g : Int) (rt : List Int) (rows : List (List Tr)), z = n - k ∧ (k ≤ n ∧ rows = intRows rt ∧ T = itF (splK l h s rs i) k (rs.length - k) (c, g, rt)) ∧ e = [(15, .int c), (16, .int g), (17, .sl 1 rows), (44, .int k)] ∧ cc = [])
    ⟨_, _, _, (Ent.mkP goSub goPm), 0, -1, 0, [], [], rfl, ⟨by omega, intRows_nil.symm, hT⟩, rfl, rfl⟩ ?_
  clear hT
  rintro _ _ _ ⟨k, c, g, rt, _, rfl, ⟨hk, rfl, hV⟩, rfl, rfl⟩
  by_cases hkn : k < n
  rotate_left
  · rw [itF_end (by omega)] at hV
    subst hV
    simp only at hV2
    unfold okS at hTok
    simp only at hTok
    by_cases hc : 0 ≤ c
    · rcases hTok with hTok | ⟨h0, h1, h3, h4⟩
      · omega
      rw [if_pos hc] at hV2
      obtain ⟨o, ho⟩ := at_lt (l := rs) (k := c.toNat) (by omega)
      obtain ⟨v, hv⟩ := at_lt (l := W) (k := c.toNat) (by omega)
      have hvo : v = wayO l h s o := by
        rw [hW, List.getElem?_map, ho] at hv
        exact (Option.some.inj hv).symm
      rw [List.getD_eq_getElem?_getD, ho, Option.getD_some, ← hvo] at h4
      have hb1 := wayO_bd ht0 (hok o (List.mem_of_getElem? ho))
      rw [← hvo] at hb1
      have hb2 := wayO_bd ht0 h3
      have r1 := roI_at ho
      have r2 := intRows_at hv
      have e1 : v + g = wayO l h s rt := by omega
      have e2 : (roI rs).set c.toNat [Tr.ints rt] = roI (rs.set c.toNat rt) := roI_set rs c.toNat rt
      have e3 : (intRows W).set c.toNat [Tr.int (v + g)] = intRows (W.set c.toNat (v + g)) := int_set2 W c.toNat (v + g)
      have e4 : W.set c.toNat (v + g) = (rs.set c.toNat rt).map (wayO l h s) := by rw [List.map_set, ← hW, e1]
      have hok2 : ∀ o ∈ rs.set c.toNat rt, okR l h s (i + 1) o := by
        intro y hy
        rcases List.mem_or_eq_of_mem_set hy with hm | hm
        · exact okR_mono (hok y hm)
        · rw [hm]; exact h3
      have hrl2 : (rs.set c.toNat rt).length = n := by rw [List.length_set]; exact hrl
      clear hW hok hv ho h3 hvo e1
      repeat' (first | refine goH ?_ | refine goV ?_ | refine goB (fun b => ?_) | refine goC (fun ad cap => ?_) | refine goG ?_ | (refine Ops.k_guard ?_; first | (refine Ops.guard_dec rfl rfl (fun hc => ?_) (fun hc => ?_) <;> try (exfalso; omega)) | refine Ops.guard_split rfl rfl (fun hc => ?_) (fun hc => ?_)) | refine goI ?_ | (refine Cw.k_cond ?_; first | (refine Cw.cond_dec rfl (fun hc => ?_) (fun hc => ?_) <;> try (exfalso; omega)) | refine Cw.cond_bool rfl (fun hc => ?_) (fun hc => ?_)) | refine goR ?_ | refine goP ?_ | apply PSeq.cons | apply PSeq.yes rfl rfl rfl | exact goW | fail)
      erw [e2, e3]
      exact ⟨_, _, _, (Ent.mk goSub goTk), ⟨i + 1, _, _, rfl, ⟨by omega, hrl2, e4, hok2, hV2⟩, rfl, rfl⟩, by omega⟩
    · rw [if_neg hc] at hV2
      have hok2 : ∀ o ∈ rs, okR l h s (i + 1) o := fun o ho => okR_mono (hok o ho)
      clear hTok
      repeat' (first | refine goH ?_ | refine goV ?_ | refine goB (fun b => ?_) | refine goC (fun ad cap => ?_) | refine goG ?_ | (refine Ops.k_guard ?_; first | (refine Ops.guard_dec rfl rfl (fun hc => ?_) (fun hc => ?_) <;> try (exfalso; omega)) | refine Ops.guard_split rfl rfl (fun hc => ?_) (fun hc => ?_)) | refine goI ?_ | (refine Cw.k_cond ?_; first | (refine Cw.cond_dec rfl (fun hc => ?_) (fun hc => ?_) <;> try (exfalso; omega)) | refine Cw.cond_bool rfl (fun hc => ?_) (fun hc => ?_)) | refine goR ?_ | refine goP ?_ | apply PSeq.cons | apply PSeq.yes rfl rfl rfl | exact goW | fail)
      exact ⟨_, _, _, (Ent.mk goSub goTk), ⟨i + 1, _, _, rfl, ⟨by omega, hrl, hW, hok2, hV2⟩, rfl, rfl⟩, by omega⟩
  rw [itF_step (by omega)] at hV
  obtain ⟨o, ho⟩ := at_lt (l := rs) (k := k) (by omega)
  obtain ⟨v, hv⟩ := at_lt (l := W) (k := k) (by omega)
  have hvo : v = wayO l h s o := by
    rw [hW, List.getElem?_map, ho] at hv
    exact (Option.some.inj hv).symm
  have hoo := hok o (List.mem_of_getElem? ho)
  have hb1 := wayO_bd ht0 hoo
  have r1 := roI_at ho
  have r2 := intRows_at hv
  have kI := inserted_fn h l s i o ht0 (ordersE_ok hoo.1) (by omega) (by have := hoo.2.2.2; omega)
  rw [insT_eq] at kI
  have hnew := insT_ok hoo hil
  obtain ⟨⟨bb, w, f⟩, hT⟩ : ∃ q, insT l h s o i = q := ⟨_, rfl⟩
  rw [splK_eq ho hT, ← hvo] at hV
  rw [hT] at kI hnew
  simp only at kI hnew
  have hwb : f = true → 0 ≤ w ∧ w ≤ 40000 * (i + 2) := fun hf => by
    obtain ⟨h1, h3⟩ := hnew hf
    have := wayO_bd ht0 h1
    rw [h3] at this
    omega
  rw [← hvo] at hb1
  clear hnew hT hok hW hv ho hTok hvo hoo
  repeat' (first | refine goH ?_ | refine goV ?_ | refine goB (fun b => ?_) | refine goC (fun ad cap => ?_) | refine goG ?_ | (refine Ops.k_guard ?_; first | (refine Ops.guard_dec rfl rfl (fun hc => ?_) (fun hc => ?_) <;> try (exfalso; omega)) | refine Ops.guard_split rfl rfl (fun hc => ?_) (fun hc => ?_)) | refine goI ?_ | (refine Cw.k_cond ?_; first | (refine Cw.cond_dec rfl (fun hc => ?_) (fun hc => ?_) <;> try (exfalso; omega)) | refine Cw.cond_bool rfl (fun hc => ?_) (fun hc => ?_)) | fail)
  clear ξ
  first | refine Cw.region_YP (fun ξ S => Chunk.own ad34 cap34 1 22 (roI rs) :: Chunk.own ad36 cap36 1 3 (intRows W) :: Chunk.box b 67 [.int h.x, .int h.y, .stops l, .int s] :: Chunk.box b4 30 [.int h.x, .int h.y] :: []) rfl (by decide +kernel) rfl ((fun (ξ : Nat → Value) (S : Nat → Bool) => Chunk.own ad34 cap34 1 22 (roI rs) :: Chunk.own ad36 cap36 1 3 (intRows W) :: Chunk.box b 67 [.int h.x, .int h.y, .stops l, .int s] :: Chunk.box b4 30 [.int h.x, .int h.y] :: []) (fun _ => undef) (fun _ => false)) (by simp only [upd_same, updD_same, upd_ne, updD_ne, ne_eq, Nat.reduceEqDiff, not_false_eq_true, stg_t, stg_f, vAd_s, vCap_s, blk_p, List.cons_append, List.nil_append, b2n_t, b2n_f]; exact goXm) (fun _ => rfl) ?_ | fail
  apply YSeq.w (by intro _ _ _; rfl)
  · intro ξ S h1 h2 h3 h4
    try simp only [upd_same, updD_same, upd_ne, updD_ne, ne_eq, Nat.reduceEqDiff, not_false_eq_true, stg_t, stg_f, vAd_s, vCap_s, blk_p, List.cons_append, List.nil_append, b2n_t, b2n_f]
    exact goW
  · intro ξ v; rfl
  · intro ξ k v S h3 hn hk
    first
    | rfl
  apply YSeq.w (by intro _ _ _; rfl)
  · intro ξ S h1 h2 h3 h4
    try simp only [upd_same, updD_same, upd_ne, updD_ne, ne_eq, Nat.reduceEqDiff, not_false_eq_true, stg_t, stg_f, vAd_s, vCap_s, blk_p, List.cons_append, List.nil_append, b2n_t, b2n_f]
    exact goW
  · intro ξ v; rfl
  · intro ξ k v S h3 hn hk
    first
    | rfl
  apply YSeq.w (by intro _ _ _; rfl)
  · intro ξ S h1 h2 h3 h4
    try simp only [upd_same, updD_same, upd_ne, updD_ne, ne_eq, Nat.reduceEqDiff, not_false_eq_true, stg_t, stg_f, vAd_s, vCap_s, blk_p, List.cons_append, List.nil_append, b2n_t, b2n_f]
    exact goW
  · intro ξ v; rfl
  · intro ξ k v S h3 hn hk
    first
    | rfl
  apply YSeq.w (by intro _ _ _; rfl)
  · intro ξ S h1 h2 h3 h4
    try simp only [upd_same, updD_same, upd_ne, updD_ne, ne_eq, Nat.reduceEqDiff, not_false_eq_true, stg_t, stg_f, vAd_s, vCap_s, blk_p, List.cons_append, List.nil_append, b2n_t, b2n_f]
    exact goW
  · intro ξ v; rfl
  · intro ξ k v S h3 hn hk
    first
    | rfl
  apply YSeq.w (by intro _ _ _; rfl)
  · intro ξ S h1 h2 h3 h4
    try simp only [upd_same, updD_same, upd_ne, updD_ne, ne_eq, Nat.reduceEqDiff, not_false_eq_true, stg_t, stg_f, vAd_s, vCap_s, blk_p, List.cons_append, List.nil_append, b2n_t, b2n_f]
    exact goW
  · intro ξ v; rfl
  · intro ξ k v S h3 hn hk
    first
    | rfl
  apply YSeq.w (by intro _ _ _; rfl)
  · intro ξ S h1 h2 h3 h4
    try simp only [upd_same, updD_same, upd_ne, updD_ne, ne_eq, Nat.reduceEqDiff, not_false_eq_true, stg_t, stg_f, vAd_s, vCap_s, blk_p, List.cons_append, List.nil_append, b2n_t, b2n_f]
    exact goW
  · intro ξ v; rfl
  · intro ξ k v S h3 hn hk
    first
    | rfl
  apply YSeq.callV (by intro _ _ _; rfl)
  · intro ξ S h1 h2 h3 h4
    try simp only [upd_same, updD_same, upd_ne, updD_ne, ne_eq, Nat.reduceEqDiff, not_false_eq_true, stg_t, stg_f, vAd_s, vCap_s, blk_p, List.cons_append, List.nil_append, b2n_t, b2n_f]
    exact ⟨_, (Evs.cons rfl (Evs.cons rfl (Evs.cons rfl Evs.nil))), kI⟩
  · intro ξ v; rfl
  · intro ξ k v S h3 hn hk
    first
    | rfl
  apply YSeq.w (by intro _ _ _; rfl)
  · intro ξ S h1 h2 h3 h4
    try simp only [upd_same, updD_same, upd_ne, updD_ne, ne_eq, Nat.reduceEqDiff, not_false_eq_true, stg_t, stg_f, vAd_s, vCap_s, blk_p, List.cons_append, List.nil_append, b2n_t, b2n_f]
    exact goW
  · intro ξ v; rfl
  · intro ξ k v S h3 hn hk
    first
    | rfl
  apply YSeq.w (by intro _ _ _; rfl)
  · intro ξ S h1 h2 h3 h4
    try simp only [upd_same, updD_same, upd_ne, updD_ne, ne_eq, Nat.reduceEqDiff, not_false_eq_true, stg_t, stg_f, vAd_s, vCap_s, blk_p, List.cons_append, List.nil_append, b2n_t, b2n_f]
    exact goW
  · intro ξ v; rfl
  · intro ξ k v S h3 hn hk
    first
    | rfl
  apply YSeq.w (by intro _ _ _; rfl)
  · intro ξ S h1 h2 h3 h4
    try simp only [upd_same, updD_same, upd_ne, updD_ne, ne_eq, Nat.reduceEqDiff, not_false_eq_true, stg_t, stg_f, vAd_s, vCap_s, blk_p, List.cons_append, List.nil_append, b2n_t, b2n_f]
    exact goW
  · intro ξ v; rfl
  · intro ξ k v S h3 hn hk
    first
    | rfl
  apply YSeq.w (by intro _ _ _; rfl)
  · intro ξ S h1 h2 h3 h4
    try simp only [upd_same, updD_same, upd_ne, updD_ne, ne_eq, Nat.reduceEqDiff, not_false_eq_true, stg_t, stg_f, vAd_s, vCap_s, blk_p, List.cons_append, List.nil_append, b2n_t, b2n_f]
    exact goW
  · intro ξ v; rfl
  · intro ξ k v S h3 hn hk
    first
    | rfl
  apply YSeq.w (by intro _ _ _; rfl)
  · intro ξ S h1 h2 h3 h4
    try simp only [upd_same, updD_same, upd_ne, updD_ne, ne_eq, Nat.reduceEqDiff, not_false_eq_true, stg_t, stg_f, vAd_s, vCap_s, blk_p, List.cons_append, List.nil_append, b2n_t, b2n_f]
    exact goW
  · intro ξ v; rfl
  · intro ξ k v S h3 hn hk
    first
    | rfl
  apply YSeq.w (by intro _ _ _; rfl)
  · intro ξ S h1 h2 h3 h4
    try simp only [upd_same, updD_same, upd_ne, updD_ne, ne_eq, Nat.reduceEqDiff, not_false_eq_true, stg_t, stg_f, vAd_s, vCap_s, blk_p, List.cons_append, List.nil_append, b2n_t, b2n_f]
    exact goW
  · intro ξ v; rfl
  · intro ξ k v S h3 hn hk
    first
    | rfl
  apply YSeq.w (by intro _ _ _; rfl)
  · intro ξ S h1 h2 h3 h4
    try simp only [upd_same, updD_same, upd_ne, updD_ne, ne_eq, Nat.reduceEqDiff, not_false_eq_true, stg_t, stg_f, vAd_s, vCap_s, blk_p, List.cons_append, List.nil_append, b2n_t, b2n_f]
    exact goW
  · intro ξ v; rfl
  · intro ξ k v S h3 hn hk
    first
    | rfl
  refine YSeq.nil fun ξ hf => ?_
  refine ⟨[(10, _), (12, _), (13, _), (14, _), (38, _), (39, _), (43, _), (15, _), (16, _), (17, _), (18, _), (19, _), (20, _), (21, _), (44, _)], _, Ent.trans (Ent.eqc rfl (by first | (simp only [upd_same, updD_same, upd_ne, updD_ne, ne_eq, Nat.reduceEqDiff, not_false_eq_true, stg_t, stg_f, vAd_s, vCap_s, blk_p, List.cons_append, List.nil_append, b2n_t, b2n_f, ownV, slV, ptV] <;> rfl) | rfl)) (Ent.sub goSub), ?_⟩
  clear hf
  cases f
  · rw [if_neg (by simp)] at hV
    repeat' (first | refine goH ?_ | refine goV ?_ | refine goB (fun b => ?_) | refine goC (fun ad cap => ?_) | refine goG ?_ | (refine Ops.k_guard ?_; first | (refine Ops.guard_dec rfl rfl (fun hc => ?_) (fun hc => ?_) <;> try (exfalso; omega)) | refine Ops.guard_split rfl rfl (fun hc => ?_) (fun hc => ?_)) | refine goI ?_ | (refine Cw.k_cond ?_; first | (refine Cw.cond_dec rfl (fun hc => ?_) (fun hc => ?_) <;> try (exfalso; omega)) | refine Cw.cond_bool rfl (fun hc => ?_) (fun hc => ?_)) | refine goR ?_ | refine goP ?_ | apply PSeq.cons | apply PSeq.yes rfl rfl rfl | exact goW | fail)
    exact ⟨_, _, _, (Ent.mk goSub goTk), ⟨k + 1, _, _, _, _, rfl, ⟨by omega, rfl, hV⟩, rfl, rfl⟩, by omega⟩
  have hwb := hwb rfl
  by_cases hc0 : c < 0
  · rw [if_pos ⟨rfl, .inl hc0⟩] at hV
    repeat' (first | refine goH ?_ | refine goV ?_ | refine goB (fun b => ?_) | refine goC (fun ad cap => ?_) | refine goG ?_ | (refine Ops.k_guard ?_; first | (refine Ops.guard_dec rfl rfl (fun hc => ?_) (fun hc => ?_) <;> try (exfalso; omega)) | refine Ops.guard_split rfl rfl (fun hc => ?_) (fun hc => ?_)) | refine goI ?_ | (refine Cw.k_cond ?_; first | (refine Cw.cond_dec rfl (fun hc => ?_) (fun hc => ?_) <;> try (exfalso; omega)) | refine Cw.cond_bool rfl (fun hc => ?_) (fun hc => ?_)) | refine goR ?_ | refine goP ?_ | apply PSeq.cons | apply PSeq.yes rfl rfl rfl | exact goW | fail)
    exact ⟨_, _, _, (Ent.mk goSub goTk), ⟨k + 1, _, _, _, _, rfl, ⟨by omega, rfl, hV⟩, rfl, rfl⟩, by omega⟩
  · by_cases hg : w - v < g
    · rw [if_pos ⟨rfl, .inr hg⟩] at hV
      repeat' (first | refine goH ?_ | refine goV ?_ | refine goB (fun b => ?_) | refine goC (fun ad cap => ?_) | refine goG ?_ | (refine Ops.k_guard ?_; first | (refine Ops.guard_dec rfl rfl (fun hc => ?_) (fun hc => ?_) <;> try (exfalso; omega)) | refine Ops.guard_split rfl rfl (fun hc => ?_) (fun hc => ?_)) | refine goI ?_ | (refine Cw.k_cond ?_; first | (refine Cw.cond_dec rfl (fun hc => ?_) (fun hc => ?_) <;> try (exfalso; omega)) | refine Cw.cond_bool rfl (fun hc => ?_) (fun hc => ?_)) | refine goR ?_ | refine goP ?_ | apply PSeq.cons | apply PSeq.yes rfl rfl rfl | exact goW | fail)
      exact ⟨_, _, _, (Ent.mk goSub goTk), ⟨k + 1, _, _, _, _, rfl, ⟨by omega, rfl, hV⟩, rfl, rfl⟩, by omega⟩
    · rw [if_neg (by simp [hc0, hg])] at hV
      repeat' (first | refine goH ?_ | refine goV ?_ | refine goB (fun b => ?_) | refine goC (fun ad cap => ?_) | refine goG ?_ | (refine Ops.k_guard ?_; first | (refine Ops.guard_dec rfl rfl (fun hc => ?_) (fun hc => ?_) <;> try (exfalso; omega)) | refine Ops.guard_split rfl rfl (fun hc => ?_) (fun hc => ?_)) | refine goI ?_ | (refine Cw.k_cond ?_; first | (refine Cw.cond_dec rfl (fun hc => ?_) (fun hc => ?_) <;> try (exfalso; omega)) | refine Cw.cond_bool rfl (fun hc => ?_) (fun hc => ?_)) | refine goR ?_ | refine goP ?_ | apply PSeq.cons | apply PSeq.yes rfl rfl rfl | exact goW | fail)
      exact ⟨_, _, _, (Ent.mk goSub goTk), ⟨k + 1, _, _, _, _, rfl, ⟨by omega, rfl, hV⟩, rfl, rfl⟩, by omega⟩
end Lg
end
section
set_option linter.all false
set_option maxRecDepth 100000
set_option maxHeartbeats 8000000
namespace Lg
open Go Go.Proofs

attribute [local irreducible] intRows insAt drv drvU drvE ordersE tripE roI wayO insT splK splI itF
theorem okR_drv {l : List Stop} {h : Spot} {s : Int} {i : Nat} {o : List Int} (ho : okR l h s i o) : drvE l h s o = 0 ∧ ∃ bs e q, drvU l h s o = .tup [.tour bs e (wayO l h s o) q, .int 0] := by
  obtain ⟨⟨bs, e, w, q⟩, hd⟩ := ho.2.1
  have h1 := ho.1
  unfold drvE drvU wayO
  rw [if_neg (by omega), if_neg (by omega), hd]
  exact ⟨rfl, bs, e, q, rfl⟩
theorem insE2_ok {l : List Stop} {h : Spot} {s : Int} {i : Nat} {o b : List Int} {w : Int} {f : Bool} (ho : okR l h s i o) (hi : i < l.length) (hT : insT l h s o i = (b, w, f)) :
    insE2 l h s o i = if f = true then .tup [.ints b, .int 0] else .tup [.sl 1 [], .int 8] := by
  unfold insE2
  rw [if_neg (by rw [(okR_drv ho).1]; decide), if_neg (by omega), if_neg (okR_new ho), insT_eq, hT]
theorem splitR_fn (h : Spot) (l : List Stop) (s c : Int) (ht0 : tripE h l s = 0) (hcb : -1000000 ≤ c ∧ c ≤ 1000000) : PFn Tryd.prog 22 [.agg h.row, .stops l, .int s, .int c] (· = splE l h s c) := by
  have hL : (l.map Stop.row).length = l.length := List.length_map _
  unfold splE Spot.row
  by_cases h2 : c < 1 ∨ 10 < c
  · rw [if_pos h2]
    refine PFn.mk (Spec.body Tryd.func22 rfl rfl (Tryd.ntmps22) rfl fun w0 own0 M => ?_)
    by_cases h3 : c < 1
    all_goals
      repeat' (first | refine goH ?_ | refine goV ?_ | refine goB (fun b => ?_) | refine goC (fun ad cap => ?_) | refine goG ?_ | (refine Ops.k_guard ?_; first | (refine Ops.guard_dec rfl rfl (fun hc => ?_) (fun hc => ?_) <;> try (exfalso; omega)) | refine Ops.guard_split rfl rfl (fun hc => ?_) (fun hc => ?_)) | refine goI ?_ | (refine Cw.k_cond ?_; first | (refine Cw.cond_dec rfl (fun hc => ?_) (fun hc => ?_) <;> try (exfalso; omega)) | refine Cw.cond_bool rfl (fun hc => ?_) (fun hc => ?_)) | refine goR ?_ | refine goP ?_ | apply PSeq.cons | apply PSeq.yes rfl rfl rfl | exact goW | fail)
      refine Fin.ret (Ent.trans (Ent.nilsl 1 (s := 8) rfl) (Ent.take goTk)) (Outs.many rfl (OutL.cons goOe (OutL.cons goOe OutL.nil)) rfl) ⟨rfl, rfl⟩
  rw [if_neg h2]
  obtain ⟨n, hn⟩ : ∃ n : Nat, c.toNat = n := ⟨_, rfl⟩
  have hcn : c = n := by omega
  rw [hn]
  subst hcn
  clear hn
  obtain ⟨S, hS⟩ : ∃ S, S = itF (splI l h s) 0 l.length (List.replicate n []) := ⟨_, rfl⟩
  rw [← hS]
  have hl60 := (stops_ok (trip_ok ht0).1).1
  refine PFn.mk (Spec.body Tryd.func22 rfl rfl (Tryd.ntmps22) rfl fun w0 own0 M => ?_)
  repeat' (first | refine goH ?_ | refine goV ?_ | refine goB (fun b => ?_) | refine goC (fun ad cap => ?_) | refine goG ?_ | (refine Ops.k_guard ?_; first | (refine Ops.guard_dec rfl rfl (fun hc => ?_) (fun hc => ?_) <;> try (exfalso; omega)) | refine Ops.guard_split rfl rfl (fun hc => ?_) (fun hc => ?_)) | refine goI ?_ | (refine Cw.k_cond ?_; first | (refine Cw.cond_dec rfl (fun hc => ?_) (fun hc => ?_) <;> try (exfalso; omega)) | refine Cw.cond_bool rfl (fun hc => ?_) (fun hc => ?_)) | refine goR ?_ | refine goP ?_ | apply PSeq.cons | apply PSeq.yes rfl rfl rfl | exact goW | fail)
  refine Cw.ent (Ent.imp_own (rows' := roI (List.replicate n [])) (ad := ad) (cap := cap) goPk (by rw [roI_len]; simp) (fun _ => roI_k) (roI_imp n)) ?_
  refine Cw.loopI [(1, _), (2, _), (4, _), (10, _), (32, _)] _ (fun z e cc => ∃ (i : Nat) (rs : List (List Int)), z = l.length - i ∧ (i ≤ l.length ∧ rs.length = n ∧ (∀ o ∈ rs, okR l h s i o) ∧ S = itF (splI l h s) i (l.length - i) rs) ∧ e = [(33, .int i)] ∧ cc = [Chunk.own ad cap 1 22 (roI rs)])
    ⟨_, _, _, (Ent.mkP goSub goPm), 0, List.replicate n [], rfl, ⟨by omega, List.length_replicate, fun o ho => by rw [List.eq_of_mem_replicate ho]; exact okR_nil, by rw [Nat.sub_zero]; exact hS⟩, rfl, rfl⟩ ?_
  clear hS
  rintro _ _ _ ⟨i, rs, rfl, ⟨hi, hrl, hok, hV⟩, rfl, rfl⟩
  have hoR := (roI_len rs).trans hrl
  by_cases hil : i < l.length
  rotate_left
  · rw [itF_end hil] at hV
    subst hV
    rw [← hoR]
    repeat' (first | refine goH ?_ | refine goV ?_ | refine goB (fun b => ?_) | refine goC (fun ad cap => ?_) | refine goG ?_ | (refine Ops.k_guard ?_; first | (refine Ops.guard_dec rfl rfl (fun hc => ?_) (fun hc => ?_) <;> try (exfalso; omega)) | refine Ops.guard_split rfl rfl (fun hc => ?_) (fun hc => ?_)) | refine goI ?_ | (refine Cw.k_cond ?_; first | (refine Cw.cond_dec rfl (fun hc => ?_) (fun hc => ?_) <;> try (exfalso; omega)) | refine Cw.cond_bool rfl (fun hc => ?_) (fun hc => ?_)) | refine goR ?_ | refine goP ?_ | apply PSeq.cons | apply PSeq.yes rfl rfl rfl | exact goW | fail)
    refine Fin.ret (Ent.trans (Ent.settle (s := 8) rfl goPk rfl) (Ent.take goTk)) (Outs.many rfl (OutL.cons goOe (OutL.cons goOe OutL.nil)) rfl) ⟨rfl, rfl⟩
  rw [itF_step hil] at hV
  obtain ⟨T, hT⟩ : ∃ T, T = itF (splK l h s rs i) 0 (rs.length - 0) (-1, 0, []) := ⟨_, rfl⟩
  have hTok : okS l h s rs i T := by rw [hT]; exact okS_all hok hil _ _ _ (by omega) (.inl rfl)
  have hV2 : S = itF (splI l h s) (i + 1) (l.length - (i + 1)) (if 0 ≤ T.1 then rs.set T.1.toNat T.2.2 else rs) := by
    rw [hV, hT, Nat.sub_zero]
    congr 1
    with_unfolding_all rfl
  clear hV
  repeat' (first | refine goH ?_ | refine goV ?_ | refine goB (fun b => ?_) | refine goC (fun ad cap => ?_) | refine goG ?_ | (refine Ops.k_guard ?_; first | (refine Ops.guard_dec rfl rfl (fun hc => ?_) (fun hc => ?_) <;> try (exfalso; omega)) | refine Ops.guard_split rfl rfl (fun hc => ?_) (fun hc => ?_)) | refine goI ?_ | (refine Cw.k_cond ?_; first | (refine Cw.cond_dec rfl (fun hc => ?_) (fun hc => ?_) <;> try (exfalso; omega)) | refine Cw.cond_bool rfl (fun hc => ?_) (fun hc => ?_)) | refine goR ?_ | refine goP ?_ | apply PSeq.cons | apply PSeq.yes rfl rfl rfl | exact goW | fail)
  refine Cw.ent (Ent.nilsl 1 (s := 14) rfl) ?_
  refine Cw.loopI [(1, _), (2, _), (4, _), (10, _), (11, _), (32, _), (33, _), (37, _)] _ (fun z e cc => ∃ (k : Nat) (c g : Int) (rt : List Int) (rows : List (List Tr)), z = n - k ∧ (k ≤ n ∧ rows = intRows rt ∧ T = itF (splK l h s rs i) k (rs.length - k) (c, g, rt)) ∧ e = [(12, .int c), (13, .int g), (14, .sl 1 rows), (38, .int k)] ∧ cc = [])
    ⟨_, _, _, (Ent.mkP goSub goPm), 0, -1, 0, [], [], rfl, ⟨by omega, intRows_nil.symm, hT⟩, rfl, rfl⟩ ?_
  clear hT
  rintro _ _ _ ⟨k, c, g, rt, _, rfl, ⟨hk, rfl, hV⟩, rfl, rfl⟩
  by_cases hkn : k < n
  rotate_left
  · rw [itF_end (by omega)] at hV
    subst hV
    simp only at hV2
    unfold okS at hTok
    simp only at hTok
    by_cases hc : 0 ≤ c
    · rcases hTok with hTok | ⟨h0, h1, h3, h4⟩
      · omega
      rw [if_pos hc] at hV2
      obtain ⟨o, ho⟩ := at_lt (l := rs) (k := c.toNat) (by omega)
      have r1 := roI_at ho
      have e2 : (roI rs).set c.toNat [Tr.ints rt] = roI (rs.set c.toNat rt) := roI_set rs c.toNat rt
      have hok2 : ∀ o ∈ rs.set c.toNat rt, okR l h s (i + 1) o := by
        intro y hy
        rcases List.mem_or_eq_of_mem_set hy with hm | hm
        · exact okR_mono (hok y hm)
        · rw [hm]; exact h3
      have hrl2 : (rs.set c.toNat rt).length = n := by rw [List.length_set]; exact hrl
      clear hok ho h3 h4
      repeat' (first | refine goH ?_ | refine goV ?_ | refine goB (fun b => ?_) | refine goC (fun ad cap => ?_) | refine goG ?_ | (refine Ops.k_guard ?_; first | (refine Ops.guard_dec rfl rfl (fun hc => ?_) (fun hc => ?_) <;> try (exfalso; omega)) | refine Ops.guard_split rfl rfl (fun hc => ?_) (fun hc => ?_)) | refine goI ?_ | (refine Cw.k_cond ?_; first | (refine Cw.cond_dec rfl (fun hc => ?_) (fun hc => ?_) <;> try (exfalso; omega)) | refine Cw.cond_bool rfl (fun hc => ?_) (fun hc => ?_)) | refine goR ?_ | refine goP ?_ | apply PSeq.cons | apply PSeq.yes rfl rfl rfl | exact goW | fail)
      erw [e2]
      exact ⟨_, _, _, (Ent.mk goSub goTk), ⟨i + 1, _, rfl, ⟨by omega, hrl2, hok2, hV2⟩, rfl, rfl⟩, by omega⟩
    · rw [if_neg hc] at hV2
      have hok2 : ∀ o ∈ rs, okR l h s (i + 1) o := fun o ho => okR_mono (hok o ho)
      clear hTok
      repeat' (first | refine goH ?_ | refine goV ?_ | refine goB (fun b => ?_) | refine goC (fun ad cap => ?_) | refine goG ?_ | (refine Ops.k_guard ?_; first | (refine Ops.guard_dec rfl rfl (fun hc => ?_) (fun hc => ?_) <;> try (exfalso; omega)) | refine Ops.guard_split rfl rfl (fun hc => ?_) (fun hc => ?_)) | refine goI ?_ | (refine Cw.k_cond ?_; first | (refine Cw.cond_dec rfl (fun hc => ?_) (fun hc => ?_) <;> try (exfalso; omega)) | refine Cw.cond_bool rfl (fun hc => ?_) (fun hc => ?_)) | refine goR ?_ | refine goP ?_ | apply PSeq.cons | apply PSeq.yes rfl rfl rfl | exact goW | fail)
      exact ⟨_, _, _, (Ent.mk goSub goTk), ⟨i + 1, _, rfl, ⟨by omega, hrl, hok2, hV2⟩, rfl, rfl⟩, by omega⟩
  rw [itF_step (by omega)] at hV
  obtain ⟨o, ho⟩ := at_lt (l := rs) (k := k) (by omega)
  have hoo := hok o (List.mem_of_getElem? ho)
  have hb1 := wayO_bd ht0 hoo
  have r1 := roI_at ho
  have hol := hoo.2.2.2
  have kI := insertedR_fn h l s i o ht0 (by omega) (by omega)
  obtain ⟨bs1, e1, q1, hU1⟩ := (okR_drv hoo).2
  have kA := driveOf_fn h l s o ht0 (by omega)
  rw [hU1] at kA
  have hnew := insT_ok hoo hil
  obtain ⟨⟨bb, w, f⟩, hT⟩ : ∃ q, insT l h s o i = q := ⟨_, rfl⟩
  rw [insE2_ok hoo hil hT] at kI
  rw [splK_eq ho hT] at hV
  rw [hT] at hnew
  simp only at hnew
  generalize wayO l h s o = v at *
  unfold Spot.row at kI kA
  cases f
  · rw [if_neg (by simp)] at hV kI
    clear hnew hT hok ho hTok hoo hU1 kA
    repeat' (first | refine goH ?_ | refine goV ?_ | refine goB (fun b => ?_) | refine goC (fun ad cap => ?_) | refine goG ?_ | (refine Ops.k_guard ?_; first | (refine Ops.guard_dec rfl rfl (fun hc => ?_) (fun hc => ?_) <;> try (exfalso; omega)) | refine Ops.guard_split rfl rfl (fun hc => ?_) (fun hc => ?_)) | refine goI ?_ | (refine Cw.k_cond ?_; first | (refine Cw.cond_dec rfl (fun hc => ?_) (fun hc => ?_) <;> try (exfalso; omega)) | refine Cw.cond_bool rfl (fun hc => ?_) (fun hc => ?_)) | (refine Ops.k_calla ?_; first | (refine Ops.k_callf 20 ?_; refine Ops.callV kI (Evs.cons rfl (Evs.cons rfl (Evs.cons rfl (Evs.cons rfl (Evs.cons rfl Evs.nil))))) rfl ?_)) | (apply OpW.k_call; first | (apply OpW.k_callf 20; exact OpW.callV kI (Evs.cons rfl (Evs.cons rfl (Evs.cons rfl (Evs.cons rfl (Evs.cons rfl Evs.nil))))))) | refine goR ?_ | refine goP ?_ | apply PSeq.cons | apply PSeq.yes rfl rfl rfl | exact goW | fail)
    exact ⟨_, _, _, (Ent.mk goSub goTk), ⟨k + 1, _, _, _, _, rfl, ⟨by omega, rfl, hV⟩, rfl, rfl⟩, by omega⟩
  rw [if_pos rfl] at kI
  obtain ⟨hn1, hn2⟩ := hnew rfl
  have hwb := wayO_bd ht0 hn1
  obtain ⟨bs2, e2, q2, hU2⟩ := (okR_drv hn1).2
  have hbl := hn1.2.2.2
  have kB := driveOf_fn h l s bb ht0 (by omega)
  rw [hU2] at kB
  unfold Spot.row at kB
  rw [hn2] at hwb kB
  clear hnew hT hok ho hTok hoo hU1 hU2 hn1 hn2
  repeat' (first | refine goH ?_ | refine goV ?_ | refine goB (fun b => ?_) | refine goC (fun ad cap => ?_) | refine goG ?_ | (refine Ops.k_guard ?_; first | (refine Ops.guard_dec rfl rfl (fun hc => ?_) (fun hc => ?_) <;> try (exfalso; omega)) | refine Ops.guard_split rfl rfl (fun hc => ?_) (fun hc => ?_)) | refine goI ?_ | (refine Cw.k_cond ?_; first | (refine Cw.cond_dec rfl (fun hc => ?_) (fun hc => ?_) <;> try (exfalso; omega)) | refine Cw.cond_bool rfl (fun hc => ?_) (fun hc => ?_)) | (refine Ops.k_calla ?_; first | (refine Ops.k_callf 20 ?_; refine Ops.callV kI (Evs.cons rfl (Evs.cons rfl (Evs.cons rfl (Evs.cons rfl (Evs.cons rfl Evs.nil))))) rfl ?_)) | (apply OpW.k_call; first | (apply OpW.k_callf 20; exact OpW.callV kI (Evs.cons rfl (Evs.cons rfl (Evs.cons rfl (Evs.cons rfl (Evs.cons rfl Evs.nil))))))) | refine goR ?_ | refine goP ?_ | apply PSeq.cons | apply PSeq.yes rfl rfl rfl | exact goW | fail)
  first | refine Cw.region_YP (fun ξ S => Chunk.own ad cap 1 22 (roI rs) :: Chunk.box b 30 [.int h.x, .int h.y] :: (stg (S 11) [] [Chunk.box (blk (ξ 11)) 53 (stg (S 12) (List.map Tr.raw [.slice none 0 0, .int .i64 0, .int .i64 0, .int .i64 0]) [.ints bs1, .int e1, .int v, .int q1])] ++ [])) rfl (by decide +kernel) rfl ((fun (ξ : Nat → Value) (S : Nat → Bool) => Chunk.own ad cap 1 22 (roI rs) :: Chunk.box b 30 [.int h.x, .int h.y] :: (stg (S 11) [] [Chunk.box (blk (ξ 11)) 53 (stg (S 12) (List.map Tr.raw [.slice none 0 0, .int .i64 0, .int .i64 0, .int .i64 0]) [.ints bs1, .int e1, .int v, .int q1])] ++ [])) (fun _ => undef) (fun _ => false)) (by simp only [upd_same, updD_same, upd_ne, updD_ne, ne_eq, Nat.reduceEqDiff, not_false_eq_true, stg_t, stg_f, vAd_s, vCap_s, blk_p, List.cons_append, List.nil_append, b2n_t, b2n_f]; exact goXm) (fun _ => rfl) ?_ | fail
  apply YSeq.w (by intro _ _ _; rfl)
  · intro ξ S h1 h2 h3 h4
    have hN0_12 := closed_false h1 h3 (k := 12) rfl (by decide)
    try simp only [upd_same, updD_same, upd_ne, updD_ne, ne_eq, Nat.reduceEqDiff, not_false_eq_true, stg_t, stg_f, vAd_s, vCap_s, blk_p, List.cons_append, List.nil_append, b2n_t, b2n_f, hN0_12]
    exact goW
  · intro ξ v; rfl
  · intro ξ k v S h3 hn hk
    first
    | rfl
  apply YSeq.w (by intro _ _ _; rfl)
  · intro ξ S h1 h2 h3 h4
    have hN1_12 := closed_false h1 h3 (k := 12) rfl (by decide)
    try simp only [upd_same, updD_same, upd_ne, updD_ne, ne_eq, Nat.reduceEqDiff, not_false_eq_true, stg_t, stg_f, vAd_s, vCap_s, blk_p, List.cons_append, List.nil_append, b2n_t, b2n_f, hN1_12]
    exact goW
  · intro ξ v; rfl
  · intro ξ k v S h3 hn hk
    first
    | rfl
  apply YSeq.w (by intro _ _ _; rfl)
  · intro ξ S h1 h2 h3 h4
    have hN2_12 := closed_false h1 h3 (k := 12) rfl (by decide)
    try simp only [upd_same, updD_same, upd_ne, updD_ne, ne_eq, Nat.reduceEqDiff, not_false_eq_true, stg_t, stg_f, vAd_s, vCap_s, blk_p, List.cons_append, List.nil_append, b2n_t, b2n_f, hN2_12]
    exact goW
  · intro ξ v; rfl
  · intro ξ k v S h3 hn hk
    first
    | rfl
  apply YSeq.w (by intro _ _ _; rfl)
  · intro ξ S h1 h2 h3 h4
    have hN3_12 := closed_false h1 h3 (k := 12) rfl (by decide)
    try simp only [upd_same, updD_same, upd_ne, updD_ne, ne_eq, Nat.reduceEqDiff, not_false_eq_true, stg_t, stg_f, vAd_s, vCap_s, blk_p, List.cons_append, List.nil_append, b2n_t, b2n_f, hN3_12]
    exact goW
  · intro ξ v; rfl
  · intro ξ k v S h3 hn hk
    first
    | rfl
  apply YSeq.w (by intro _ _ _; rfl)
  · intro ξ S h1 h2 h3 h4
    have hN4_12 := closed_false h1 h3 (k := 12) rfl (by decide)
    try simp only [upd_same, updD_same, upd_ne, updD_ne, ne_eq, Nat.reduceEqDiff, not_false_eq_true, stg_t, stg_f, vAd_s, vCap_s, blk_p, List.cons_append, List.nil_append, b2n_t, b2n_f, hN4_12]
    exact goW
  · intro ξ v; rfl
  · intro ξ k v S h3 hn hk
    first
    | rfl
  apply YSeq.w (by intro _ _ _; rfl)
  · intro ξ S h1 h2 h3 h4
    have hN5_12 := closed_false h1 h3 (k := 12) rfl (by decide)
    try simp only [upd_same, updD_same, upd_ne, updD_ne, ne_eq, Nat.reduceEqDiff, not_false_eq_true, stg_t, stg_f, vAd_s, vCap_s, blk_p, List.cons_append, List.nil_append, b2n_t, b2n_f, hN5_12]
    exact goW
  · intro ξ v; rfl
  · intro ξ k v S h3 hn hk
    first
    | rfl
  apply YSeq.w (by intro _ _ _; rfl)
  · intro ξ S h1 h2 h3 h4
    have hN6_12 := closed_false h1 h3 (k := 12) rfl (by decide)
    try simp only [upd_same, updD_same, upd_ne, updD_ne, ne_eq, Nat.reduceEqDiff, not_false_eq_true, stg_t, stg_f, vAd_s, vCap_s, blk_p, List.cons_append, List.nil_append, b2n_t, b2n_f, hN6_12]
    exact goW
  · intro ξ v; rfl
  · intro ξ k v S h3 hn hk
    first
    | rfl
  apply YSeq.callV (by intro _ _ _; rfl)
  · intro ξ S h1 h2 h3 h4
    have hN7_12 := closed_false h1 h3 (k := 12) rfl (by decide)
    try simp only [upd_same, updD_same, upd_ne, updD_ne, ne_eq, Nat.reduceEqDiff, not_false_eq_true, stg_t, stg_f, vAd_s, vCap_s, blk_p, List.cons_append, List.nil_append, b2n_t, b2n_f, hN7_12]
    exact ⟨_, (Evs.cons rfl (Evs.cons rfl (Evs.cons rfl (Evs.cons rfl Evs.nil)))), kA⟩
  · intro ξ v; rfl
  · intro ξ k v S h3 hn hk
    first
    | rfl
  apply YSeq.w (by intro _ _ _; rfl)
  · intro ξ S h1 h2 h3 h4
    have hN8_12 := closed_false h1 h3 (k := 12) rfl (by decide)
    try simp only [upd_same, updD_same, upd_ne, updD_ne, ne_eq, Nat.reduceEqDiff, not_false_eq_true, stg_t, stg_f, vAd_s, vCap_s, blk_p, List.cons_append, List.nil_append, b2n_t, b2n_f, hN8_12]
    exact goW
  · intro ξ v; rfl
  · intro ξ k v S h3 hn hk
    first
    | rfl
  apply YSeq.w (by intro _ _ _; rfl)
  · intro ξ S h1 h2 h3 h4
    have hN9_12 := closed_false h1 h3 (k := 12) rfl (by decide)
    try simp only [upd_same, updD_same, upd_ne, updD_ne, ne_eq, Nat.reduceEqDiff, not_false_eq_true, stg_t, stg_f, vAd_s, vCap_s, blk_p, List.cons_append, List.nil_append, b2n_t, b2n_f, hN9_12]
    exact goW
  · intro ξ v; rfl
  · intro ξ k v S h3 hn hk
    first
    | rfl
  apply YSeq.w (by intro _ _ _; rfl)
  · intro ξ S h1 h2 h3 h4
    try simp only [upd_same, updD_same, upd_ne, updD_ne, ne_eq, Nat.reduceEqDiff, not_false_eq_true, stg_t, stg_f, vAd_s, vCap_s, blk_p, List.cons_append, List.nil_append, b2n_t, b2n_f]
    exact goW
  · intro ξ v; rfl
  · intro ξ k v S h3 hn hk
    first
    | rfl
  apply YSeq.alloc
  · intro ξ S b h1 h3
    have hN11_12 := closed_false h1 h3 (k := 12) rfl (by decide)
    simp only [upd_same, updD_same, upd_ne, updD_ne, ne_eq, Nat.reduceEqDiff, not_false_eq_true, stg_t, stg_f, vAd_s, vCap_s, blk_p, List.cons_append, List.nil_append, b2n_t, b2n_f, h1, hN11_12]
    exact goXm
  apply YSeq.store
  · intro ξ S h1 h2 h3 h4
    have hY12_11 : S 11 = true := h2 11 (by decide)
    simp only [upd_same, updD_same, upd_ne, updD_ne, ne_eq, Nat.reduceEqDiff, not_false_eq_true, stg_t, stg_f, vAd_s, vCap_s, blk_p, List.cons_append, List.nil_append, b2n_t, b2n_f, hY12_11, h1]
    refine ⟨_, _, _, _, _, _, _, rfl, rfl, inferInstance, goXp, rfl, Nat.le_of_ble_eq_true rfl, ?_⟩
    exact goXm
  apply YSeq.w (by intro _ _ _; rfl)
  · intro ξ S h1 h2 h3 h4
    have hY13_11 : S 11 = true := h2 11 (by decide)
    have hY13_12 : S 12 = true := h2 12 (by decide)
    try simp only [upd_same, updD_same, upd_ne, updD_ne, ne_eq, Nat.reduceEqDiff, not_false_eq_true, stg_t, stg_f, vAd_s, vCap_s, blk_p, List.cons_append, List.nil_append, b2n_t, b2n_f, hY13_11, hY13_12]
    exact goW
  · intro ξ v; rfl
  · intro ξ k v S h3 hn hk
    first
    | rfl
    | skip
      have hY13_11 : S 11 = true := h3 13 _ rfl hn 11 (by decide)
      simp only [upd_S hY13_11 hk]
  refine YSeq.nil fun ξ hf => ?_
  refine ⟨[(1, _), (2, _), (4, _), (10, _), (11, _), (12, _), (13, _), (14, _), (15, _), (16, _), (18, _), (32, _), (33, _), (37, _), (38, _)], _, Ent.trans (Ent.eqc rfl (by first | (simp only [upd_same, updD_same, upd_ne, updD_ne, ne_eq, Nat.reduceEqDiff, not_false_eq_true, stg_t, stg_f, vAd_s, vCap_s, blk_p, List.cons_append, List.nil_append, b2n_t, b2n_f, ownV, slV, ptV] <;> rfl) | rfl)) (Ent.sub goSub), ?_⟩
  clear hf
  generalize blk (ξ 11) = b18
  by_cases hc0 : c < 0
  · rw [if_pos ⟨rfl, .inl hc0⟩] at hV
    repeat' (first | refine goH ?_ | refine goV ?_ | refine goB (fun b => ?_) | refine goC (fun ad cap => ?_) | refine goG ?_ | (refine Ops.k_guard ?_; first | (refine Ops.guard_dec rfl rfl (fun hc => ?_) (fun hc => ?_) <;> try (exfalso; omega)) | refine Ops.guard_split rfl rfl (fun hc => ?_) (fun hc => ?_)) | refine goI ?_ | (refine Cw.k_cond ?_; first | (refine Cw.cond_dec rfl (fun hc => ?_) (fun hc => ?_) <;> try (exfalso; omega)) | refine Cw.cond_bool rfl (fun hc => ?_) (fun hc => ?_)) | (refine Ops.k_calla ?_; first | (refine Ops.k_callf 29 ?_; refine Ops.callV kB (Evs.cons rfl (Evs.cons rfl (Evs.cons rfl (Evs.cons rfl Evs.nil)))) rfl ?_)) | (apply OpW.k_call; first | (apply OpW.k_callf 29; exact OpW.callV kB (Evs.cons rfl (Evs.cons rfl (Evs.cons rfl (Evs.cons rfl Evs.nil)))))) | refine goR ?_ | refine goP ?_ | apply PSeq.cons | apply PSeq.yes rfl rfl rfl | exact goW | fail)
    exact ⟨_, _, _, (Ent.mk goSub goTk), ⟨k + 1, _, _, _, _, rfl, ⟨by omega, rfl, hV⟩, rfl, rfl⟩, by omega⟩
  · by_cases hg : w - v < g
    · rw [if_pos ⟨rfl, .inr hg⟩] at hV
      repeat' (first | refine goH ?_ | refine goV ?_ | refine goB (fun b => ?_) | refine goC (fun ad cap => ?_) | refine goG ?_ | (refine Ops.k_guard ?_; first | (refine Ops.guard_dec rfl rfl (fun hc => ?_) (fun hc => ?_) <;> try (exfalso; omega)) | refine Ops.guard_split rfl rfl (fun hc => ?_) (fun hc => ?_)) | refine goI ?_ | (refine Cw.k_cond ?_; first | (refine Cw.cond_dec rfl (fun hc => ?_) (fun hc => ?_) <;> try (exfalso; omega)) | refine Cw.cond_bool rfl (fun hc => ?_) (fun hc => ?_)) | (refine Ops.k_calla ?_; first | (refine Ops.k_callf 29 ?_; refine Ops.callV kB (Evs.cons rfl (Evs.cons rfl (Evs.cons rfl (Evs.cons rfl Evs.nil)))) rfl ?_)) | (apply OpW.k_call; first | (apply OpW.k_callf 29; exact OpW.callV kB (Evs.cons rfl (Evs.cons rfl (Evs.cons rfl (Evs.cons rfl Evs.nil)))))) | refine goR ?_ | refine goP ?_ | apply PSeq.cons | apply PSeq.yes rfl rfl rfl | exact goW | fail)
      exact ⟨_, _, _, (Ent.mk goSub goTk), ⟨k + 1, _, _, _, _, rfl, ⟨by omega, rfl, hV⟩, rfl, rfl⟩, by omega⟩
    · rw [if_neg (by simp [hc0, hg])] at hV
      repeat' (first | refine goH ?_ | refine goV ?_ | refine goB (fun b => ?_) | refine goC (fun ad cap => ?_) | refine goG ?_ | (refine Ops.k_guard ?_; first | (refine Ops.guard_dec rfl rfl (fun hc => ?_) (fun hc => ?_) <;> try (exfalso; omega)) | refine Ops.guard_split rfl rfl (fun hc => ?_) (fun hc => ?_)) | refine goI ?_ | (refine Cw.k_cond ?_; first | (refine Cw.cond_dec rfl (fun hc => ?_) (fun hc => ?_) <;> try (exfalso; omega)) | refine Cw.cond_bool rfl (fun hc => ?_) (fun hc => ?_)) | (refine Ops.k_calla ?_; first | (refine Ops.k_callf 29 ?_; refine Ops.callV kB (Evs.cons rfl (Evs.cons rfl (Evs.cons rfl (Evs.cons rfl Evs.nil)))) rfl ?_)) | (apply OpW.k_call; first | (apply OpW.k_callf 29; exact OpW.callV kB (Evs.cons rfl (Evs.cons rfl (Evs.cons rfl (Evs.cons rfl Evs.nil)))))) | refine goR ?_ | refine goP ?_ | apply PSeq.cons | apply PSeq.yes rfl rfl rfl | exact goW | fail)
      exact ⟨_, _, _, (Ent.mk goSub goTk), ⟨k + 1, _, _, _, _, rfl, ⟨by omega, rfl, hV⟩, rfl, rfl⟩, by omega⟩
end Lg
end
