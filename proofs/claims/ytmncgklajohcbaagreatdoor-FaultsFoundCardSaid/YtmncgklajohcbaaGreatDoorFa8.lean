/- A part of the proof of a law of this seat: it adds no condition. By an AI agent. -/
import Derived.Test.YtmncgklajohcbaaGreatDoorFa6
section
set_option linter.all false
set_option maxRecDepth 100000
set_option maxHeartbeats 8000000
namespace Lg
open Go Go.Proofs

/-! ### others and both -/
theorem wnRows_snoc (l : List Wn) (a b : Int) : l.map Wn.row ++ [[Tr.int a, Tr.int b]] = (l ++ ([⟨a, b⟩] : List Wn)).map Wn.row := by rw [List.map_append]; rfl
theorem otF_take {l : List Wn} {k : Nat} {x : Wn} (h : l[k]? = some x) : otF (l.take (k + 1)) = otStep (otF (l.take k)) x := by rw [take_at h, otF_snoc]
theorem otF_len : ∀ l : List Wn, (otF l).out.length ≤ l.length := by
  intro l
  refine snoc_ind (p := fun l => (otF l).out.length ≤ l.length) (Nat.le_refl _) ?_ l
  intro l c ih
  rw [otF_snoc, List.length_append]
  unfold otStep
  simp only
  split
  · rw [List.length_append]; simp; exact ih
  · simp; omega
theorem others_fn (l : List Wn) (hl : l.length ≤ 100000) : Spec Tryz.prog 45 [.wns l] [] (fun r cs => ∃ ad cap, r = Tr.raw (.slice ad (otW l).length cap) ∧ cs = [Chunk.own ad cap 2 32 ((otW l).map Wn.row)]) := by
  have hL : (l.map Wn.row).length = l.length := List.length_map _
  refine Spec.body Tryz.func45 rfl rfl (Tryz.ntmps45) rfl fun w0 own0 M => ?_
  repeat' (first | refine goH ?_ | refine goV ?_ | refine goB (fun b => ?_) | refine goC (fun ad cap => ?_) | refine goI ?_ | (refine Cw.k_cond ?_; first | (refine Cw.cond_dec rfl (fun hc => ?_) (fun hc => ?_) <;> try (exfalso; omega)) | refine Cw.cond_bool rfl (fun hc => ?_) (fun hc => ?_)) | fail)
  refine Cw.loopI [(7, _), (8, _)] _ (fun q e c => ∃ (k : Nat) (out : List Wn) (at_ : Int) (ad : Option Addr) (cap : Nat) (rows : List (List Tr)), q = l.length - k ∧ (k ≤ l.length ∧ OtS.mk out at_ = otF (l.take k) ∧ rows = out.map Wn.row ∧ rows.length = out.length) ∧ e = [(3, Tr.raw (.slice ad rows.length cap)), (4, .int at_), (9, .int k)] ∧ c = [Chunk.own ad cap 2 32 rows])
    ⟨_, _, _, Ent.trans (Ent.nil 2 32) (Ent.mkP goSub goPm), 0, [], 0, none, 0, [], rfl, ⟨by omega, rfl, rfl, rfl⟩, rfl, rfl⟩ ?_
  rintro _ _ _ ⟨k, out, at_, ad, cap, rows, rfl, ⟨hk, hs, hrows, hrl⟩, rfl, rfl⟩
  have hol := otF_len (l.take k)
  rw [← hs, List.length_take] at hol
  simp only at hol
  by_cases hkl : k < l.length
  · obtain ⟨x, hx⟩ := at_lt hkl
    have hrow : (l.map Wn.row)[k]? = some [.int x.fr, .int x.to] := rows_at hx
    have hnext := otF_take hx
    rw [← hs] at hnext
    clear hs hx
    obtain ⟨xf, xt⟩ := x
    unfold otStep at hnext
    simp only at hnext hrow
    by_cases h1 : at_ < xf
    · rw [if_pos h1] at hnext
      have hr := wnRows_snoc out at_ xf
      rw [← hrows] at hr
      repeat' (first | refine goH ?_ | refine goV ?_ | refine goB (fun b => ?_) | refine goC (fun ad cap => ?_) | refine goI ?_ | (refine Cw.k_cond ?_; first | (refine Cw.cond_dec rfl (fun hc => ?_) (fun hc => ?_) <;> try (exfalso; omega)) | refine Cw.cond_bool rfl (fun hc => ?_) (fun hc => ?_)) | fail)
      exact ⟨_, _, _, (Ent.mk goSub goTk), ⟨k + 1, out ++ ([⟨at_, xf⟩] : List Wn), xt, _, _, _, rfl, ⟨by omega, hnext.symm, hr, by rw [List.length_append, List.length_append, hrl]; rfl⟩, rfl, rfl⟩, by omega⟩
    · rw [if_neg h1] at hnext
      repeat' (first | refine goH ?_ | refine goV ?_ | refine goB (fun b => ?_) | refine goC (fun ad cap => ?_) | refine goI ?_ | (refine Cw.k_cond ?_; first | (refine Cw.cond_dec rfl (fun hc => ?_) (fun hc => ?_) <;> try (exfalso; omega)) | refine Cw.cond_bool rfl (fun hc => ?_) (fun hc => ?_)) | fail)
      exact ⟨_, _, _, (Ent.mk goSub goTk), ⟨k + 1, out, xt, _, _, _, rfl, ⟨by omega, hnext.symm, hrows, hrl⟩, rfl, rfl⟩, by omega⟩
  · rw [List.take_of_length_le (by omega)] at hs
    unfold otW
    rw [← hs]
    simp only
    clear hs
    by_cases h1 : at_ < tEnd
    · have h1e : at_ < 5761440 := h1
      rw [if_pos h1]
      have hr := wnRows_snoc out at_ tEnd
      rw [← hrows] at hr
      have hll : (rows ++ [[Tr.int at_, Tr.int tEnd]]).length = (out ++ ([⟨at_, tEnd⟩] : List Wn)).length := by rw [List.length_append, List.length_append, hrl]; rfl
      rw [← hr, ← hll]
      repeat' (first | refine goH ?_ | refine goV ?_ | refine goB (fun b => ?_) | refine goC (fun ad cap => ?_) | refine goI ?_ | (refine Cw.k_cond ?_; first | (refine Cw.cond_dec rfl (fun hc => ?_) (fun hc => ?_) <;> try (exfalso; omega)) | refine Cw.cond_bool rfl (fun hc => ?_) (fun hc => ?_)) | fail)
      exact Fin.ret (Ent.take goTk) (Outs.one rfl rfl) ⟨_, _, rfl, rfl⟩
    · have h1e : ¬ at_ < 5761440 := h1
      rw [if_neg h1, ← hrows, ← hrl]
      repeat' (first | refine goH ?_ | refine goV ?_ | refine goB (fun b => ?_) | refine goC (fun ad cap => ?_) | refine goI ?_ | (refine Cw.k_cond ?_; first | (refine Cw.cond_dec rfl (fun hc => ?_) (fun hc => ?_) <;> try (exfalso; omega)) | refine Cw.cond_bool rfl (fun hc => ?_) (fun hc => ?_)) | fail)
      exact Fin.ret (Ent.take goTk) (Outs.one rfl rfl) ⟨_, _, rfl, rfl⟩
theorem both_fn (a b : List Wn) (ha : a.length ≤ 100000) (hb : b.length ≤ 100000) : Spec Tryz.prog 43 [.wns a, .wns b] [] (fun r cs => ∃ ad cap, r = Tr.raw (.slice ad (bothW a b).length cap) ∧ cs = [Chunk.own ad cap 2 32 ((bothW a b).map Wn.row)]) := by
  refine Spec.body Tryz.func43 rfl rfl (Tryz.ntmps43) rfl fun w0 own0 M => ?_
  repeat' (first | refine goH ?_ | refine goV ?_ | refine goB (fun b => ?_) | refine goC (fun ad cap => ?_) | refine goG ?_ | (refine Ops.k_guard ?_; first | (refine Ops.guard_dec rfl rfl (fun hc => ?_) (fun hc => ?_) <;> try (exfalso; omega)) | refine Ops.guard_split rfl rfl (fun hc => ?_) (fun hc => ?_)) | refine goI ?_ | (refine Cw.k_cond ?_; first | (refine Cw.cond_dec rfl (fun hc => ?_) (fun hc => ?_) <;> try (exfalso; omega)) | refine Cw.cond_bool rfl (fun hc => ?_) (fun hc => ?_)) | refine goR ?_ | refine goP ?_ | apply PSeq.cons | apply PSeq.yes rfl rfl rfl | exact goW | fail)
  refine Cw.loopI [] _ (fun q e c => ∃ (A B out : List Wn) (ad : Option Addr) (cap : Nat) (rows : List (List Tr)), q = A.length + B.length ∧ (A.length ≤ 100000 ∧ B.length ≤ 100000 ∧ out ++ bothW A B = bothW a b ∧ rows = out.map Wn.row ∧ rows.length = out.length ∧ out.length + (A.length + B.length) ≤ a.length + b.length) ∧ e = [(0, .wns A), (1, .wns B), (5, Tr.raw (.slice ad rows.length cap))] ∧ c = [Chunk.own ad cap 2 32 rows])
    ⟨_, _, _, Ent.trans (Ent.nil 2 32) (Ent.mkP goSub goPm), a, b, [], none, 0, [], rfl, ⟨ha, hb, rfl, rfl, rfl, by simp⟩, rfl, rfl⟩ ?_
  rintro _ _ _ ⟨A, B, out, ad, cap, rows, rfl, ⟨hA, hB, hW, hrows, hrl, hlen⟩, rfl, rfl⟩
  have hAl : (A.map Wn.row).length = A.length := List.length_map _
  have hBl : (B.map Wn.row).length = B.length := List.length_map _
  cases A with
  | nil =>
    rw [bothW_nil_l, List.append_nil] at hW
    rw [← hW, ← hrows, ← hrl]
    repeat' (first | refine goH ?_ | refine goV ?_ | refine goB (fun b => ?_) | refine goC (fun ad cap => ?_) | refine goG ?_ | (refine Ops.k_guard ?_; first | (refine Ops.guard_dec rfl rfl (fun hc => ?_) (fun hc => ?_) <;> try (exfalso; omega)) | refine Ops.guard_split rfl rfl (fun hc => ?_) (fun hc => ?_)) | refine goI ?_ | (refine Cw.k_cond ?_; first | (refine Cw.cond_dec rfl (fun hc => ?_) (fun hc => ?_) <;> try (exfalso; omega)) | refine Cw.cond_bool rfl (fun hc => ?_) (fun hc => ?_)) | refine goR ?_ | refine goP ?_ | apply PSeq.cons | apply PSeq.yes rfl rfl rfl | exact goW | fail)
    exact Fin.ret (Ent.take goTk) (Outs.one rfl rfl) ⟨_, _, rfl, rfl⟩
  | cons x A =>
    cases B with
    | nil =>
      rw [bothW_nil_r, List.append_nil] at hW
      rw [← hW, ← hrows, ← hrl]
      simp only [List.length_cons, List.length_nil] at hAl hBl hA hlen
      repeat' (first | refine goH ?_ | refine goV ?_ | refine goB (fun b => ?_) | refine goC (fun ad cap => ?_) | refine goG ?_ | (refine Ops.k_guard ?_; first | (refine Ops.guard_dec rfl rfl (fun hc => ?_) (fun hc => ?_) <;> try (exfalso; omega)) | refine Ops.guard_split rfl rfl (fun hc => ?_) (fun hc => ?_)) | refine goI ?_ | (refine Cw.k_cond ?_; first | (refine Cw.cond_dec rfl (fun hc => ?_) (fun hc => ?_) <;> try (exfalso; omega)) | refine Cw.cond_bool rfl (fun hc => ?_) (fun hc => ?_)) | refine goR ?_ | refine goP ?_ | apply PSeq.cons | apply PSeq.yes rfl rfl rfl | exact goW | fail)
      exact Fin.ret (Ent.take goTk) (Outs.one rfl rfl) ⟨_, _, rfl, rfl⟩
    | cons y B =>
      rw [bothW_cons] at hW
      simp only [List.length_cons] at hA hB hAl hBl hlen
      have hra : ((x :: A).map Wn.row)[((0 : Int)).toNat]? = some [.int x.fr, .int x.to] := rfl
      have hrb : ((y :: B).map Wn.row)[((0 : Int)).toNat]? = some [.int y.fr, .int y.to] := rfl
      repeat' (first | refine goH ?_ | refine goV ?_ | refine goB (fun b => ?_) | refine goC (fun ad cap => ?_) | refine goG ?_ | (refine Ops.k_guard ?_; first | (refine Ops.guard_dec rfl rfl (fun hc => ?_) (fun hc => ?_) <;> try (exfalso; omega)) | refine Ops.guard_split rfl rfl (fun hc => ?_) (fun hc => ?_)) | refine goI ?_ | (refine Cw.k_cond ?_; first | (refine Cw.cond_dec rfl (fun hc => ?_) (fun hc => ?_) <;> try (exfalso; omega)) | refine Cw.cond_bool rfl (fun hc => ?_) (fun hc => ?_)) | refine goR ?_ | refine goP ?_ | apply PSeq.cons | apply PSeq.yes rfl rfl rfl | exact goW | fail)
      first | refine Cw.region_YP (fun ξ S => stg (S 19) [] [Chunk.box (blk (ξ 19)) 32 (stg (S 20) [Tr.int 0, Tr.int 0] [Tr.int (max x.fr y.fr), Tr.int (min x.to y.to)])] ++ (Chunk.own ad cap 2 32 rows :: [])) rfl (by decide +kernel) rfl ((fun (ξ : Nat → Value) (S : Nat → Bool) => stg (S 19) [] [Chunk.box (blk (ξ 19)) 32 (stg (S 20) [Tr.int 0, Tr.int 0] [Tr.int (max x.fr y.fr), Tr.int (min x.to y.to)])] ++ (Chunk.own ad cap 2 32 rows :: [])) (fun _ => undef) (fun _ => false)) (by simp only [upd_same, updD_same, upd_ne, updD_ne, ne_eq, Nat.reduceEqDiff, not_false_eq_true, stg_t, stg_f, vAd_s, vCap_s, blk_p, List.cons_append, List.nil_append, b2n_t, b2n_f]; exact goXm) (fun _ => rfl) ?_ | fail
      apply YSeq.w (by intro _ _ _; rfl)
      · intro ξ S h1 h2 h3 h4
        have hN0_20 := closed_false h1 h3 (k := 20) rfl (by decide)
        try simp only [upd_same, updD_same, upd_ne, updD_ne, ne_eq, Nat.reduceEqDiff, not_false_eq_true, stg_t, stg_f, vAd_s, vCap_s, blk_p, List.cons_append, List.nil_append, b2n_t, b2n_f, hN0_20]
        exact goW
      · intro ξ v; rfl
      · intro ξ k v S h3 hn hk
        first
        | rfl
      apply YSeq.w (by intro _ _ _; rfl)
      · intro ξ S h1 h2 h3 h4
        have hN1_20 := closed_false h1 h3 (k := 20) rfl (by decide)
        try simp only [upd_same, updD_same, upd_ne, updD_ne, ne_eq, Nat.reduceEqDiff, not_false_eq_true, stg_t, stg_f, vAd_s, vCap_s, blk_p, List.cons_append, List.nil_append, b2n_t, b2n_f, hN1_20]
        exact goW
      · intro ξ v; rfl
      · intro ξ k v S h3 hn hk
        first
        | rfl
      apply YSeq.w (by intro _ _ _; rfl)
      · intro ξ S h1 h2 h3 h4
        have hN2_20 := closed_false h1 h3 (k := 20) rfl (by decide)
        try simp only [upd_same, updD_same, upd_ne, updD_ne, ne_eq, Nat.reduceEqDiff, not_false_eq_true, stg_t, stg_f, vAd_s, vCap_s, blk_p, List.cons_append, List.nil_append, b2n_t, b2n_f, hN2_20]
        exact goW
      · intro ξ v; rfl
      · intro ξ k v S h3 hn hk
        first
        | rfl
      apply YSeq.w (by intro _ _ _; rfl)
      · intro ξ S h1 h2 h3 h4
        have hN3_20 := closed_false h1 h3 (k := 20) rfl (by decide)
        try simp only [upd_same, updD_same, upd_ne, updD_ne, ne_eq, Nat.reduceEqDiff, not_false_eq_true, stg_t, stg_f, vAd_s, vCap_s, blk_p, List.cons_append, List.nil_append, b2n_t, b2n_f, hN3_20]
        exact goW
      · intro ξ v; rfl
      · intro ξ k v S h3 hn hk
        first
        | rfl
      apply YSeq.w (by intro _ _ _; rfl)
      · intro ξ S h1 h2 h3 h4
        have hN4_20 := closed_false h1 h3 (k := 20) rfl (by decide)
        try simp only [upd_same, updD_same, upd_ne, updD_ne, ne_eq, Nat.reduceEqDiff, not_false_eq_true, stg_t, stg_f, vAd_s, vCap_s, blk_p, List.cons_append, List.nil_append, b2n_t, b2n_f, hN4_20]
        exact goW
      · intro ξ v; rfl
      · intro ξ k v S h3 hn hk
        first
        | rfl
      apply YSeq.w (by intro _ _ _; rfl)
      · intro ξ S h1 h2 h3 h4
        have hN5_20 := closed_false h1 h3 (k := 20) rfl (by decide)
        try simp only [upd_same, updD_same, upd_ne, updD_ne, ne_eq, Nat.reduceEqDiff, not_false_eq_true, stg_t, stg_f, vAd_s, vCap_s, blk_p, List.cons_append, List.nil_append, b2n_t, b2n_f, hN5_20]
        exact goW
      · intro ξ v; rfl
      · intro ξ k v S h3 hn hk
        first
        | rfl
      apply YSeq.w (by intro _ _ _; rfl)
      · intro ξ S h1 h2 h3 h4
        have hN6_20 := closed_false h1 h3 (k := 20) rfl (by decide)
        try simp only [upd_same, updD_same, upd_ne, updD_ne, ne_eq, Nat.reduceEqDiff, not_false_eq_true, stg_t, stg_f, vAd_s, vCap_s, blk_p, List.cons_append, List.nil_append, b2n_t, b2n_f, hN6_20]
        exact goW
      · intro ξ v; rfl
      · intro ξ k v S h3 hn hk
        first
        | rfl
      apply YSeq.w (by intro _ _ _; rfl)
      · intro ξ S h1 h2 h3 h4
        have hN7_20 := closed_false h1 h3 (k := 20) rfl (by decide)
        try simp only [upd_same, updD_same, upd_ne, updD_ne, ne_eq, Nat.reduceEqDiff, not_false_eq_true, stg_t, stg_f, vAd_s, vCap_s, blk_p, List.cons_append, List.nil_append, b2n_t, b2n_f, hN7_20]
        exact goW
      · intro ξ v; rfl
      · intro ξ k v S h3 hn hk
        first
        | rfl
      apply YSeq.w (by intro _ _ _; rfl)
      · intro ξ S h1 h2 h3 h4
        have hN8_20 := closed_false h1 h3 (k := 20) rfl (by decide)
        try simp only [upd_same, updD_same, upd_ne, updD_ne, ne_eq, Nat.reduceEqDiff, not_false_eq_true, stg_t, stg_f, vAd_s, vCap_s, blk_p, List.cons_append, List.nil_append, b2n_t, b2n_f, hN8_20]
        exact goW
      · intro ξ v; rfl
      · intro ξ k v S h3 hn hk
        first
        | rfl
      apply YSeq.w (by intro _ _ _; rfl)
      · intro ξ S h1 h2 h3 h4
        have hN9_20 := closed_false h1 h3 (k := 20) rfl (by decide)
        try simp only [upd_same, updD_same, upd_ne, updD_ne, ne_eq, Nat.reduceEqDiff, not_false_eq_true, stg_t, stg_f, vAd_s, vCap_s, blk_p, List.cons_append, List.nil_append, b2n_t, b2n_f, hN9_20]
        exact goW
      · intro ξ v; rfl
      · intro ξ k v S h3 hn hk
        first
        | rfl
      apply YSeq.w (by intro _ _ _; rfl)
      · intro ξ S h1 h2 h3 h4
        have hN10_20 := closed_false h1 h3 (k := 20) rfl (by decide)
        try simp only [upd_same, updD_same, upd_ne, updD_ne, ne_eq, Nat.reduceEqDiff, not_false_eq_true, stg_t, stg_f, vAd_s, vCap_s, blk_p, List.cons_append, List.nil_append, b2n_t, b2n_f, hN10_20]
        exact goW
      · intro ξ v; rfl
      · intro ξ k v S h3 hn hk
        first
        | rfl
      apply YSeq.w (by intro _ _ _; rfl)
      · intro ξ S h1 h2 h3 h4
        have hN11_20 := closed_false h1 h3 (k := 20) rfl (by decide)
        try simp only [upd_same, updD_same, upd_ne, updD_ne, ne_eq, Nat.reduceEqDiff, not_false_eq_true, stg_t, stg_f, vAd_s, vCap_s, blk_p, List.cons_append, List.nil_append, b2n_t, b2n_f, hN11_20]
        exact goW
      · intro ξ v; rfl
      · intro ξ k v S h3 hn hk
        first
        | rfl
      apply YSeq.w (by intro _ _ _; rfl)
      · intro ξ S h1 h2 h3 h4
        have hN12_20 := closed_false h1 h3 (k := 20) rfl (by decide)
        try simp only [upd_same, updD_same, upd_ne, updD_ne, ne_eq, Nat.reduceEqDiff, not_false_eq_true, stg_t, stg_f, vAd_s, vCap_s, blk_p, List.cons_append, List.nil_append, b2n_t, b2n_f, hN12_20]
        exact goW
      · intro ξ v; rfl
      · intro ξ k v S h3 hn hk
        first
        | rfl
      apply YSeq.w (by intro _ _ _; rfl)
      · intro ξ S h1 h2 h3 h4
        have hN13_20 := closed_false h1 h3 (k := 20) rfl (by decide)
        try simp only [upd_same, updD_same, upd_ne, updD_ne, ne_eq, Nat.reduceEqDiff, not_false_eq_true, stg_t, stg_f, vAd_s, vCap_s, blk_p, List.cons_append, List.nil_append, b2n_t, b2n_f, hN13_20]
        exact goW
      · intro ξ v; rfl
      · intro ξ k v S h3 hn hk
        first
        | rfl
      apply YSeq.w (by intro _ _ _; rfl)
      · intro ξ S h1 h2 h3 h4
        have hN14_20 := closed_false h1 h3 (k := 20) rfl (by decide)
        try simp only [upd_same, updD_same, upd_ne, updD_ne, ne_eq, Nat.reduceEqDiff, not_false_eq_true, stg_t, stg_f, vAd_s, vCap_s, blk_p, List.cons_append, List.nil_append, b2n_t, b2n_f, hN14_20]
        exact goW
      · intro ξ v; rfl
      · intro ξ k v S h3 hn hk
        first
        | rfl
      apply YSeq.w (by intro _ _ _; rfl)
      · intro ξ S h1 h2 h3 h4
        have hN15_20 := closed_false h1 h3 (k := 20) rfl (by decide)
        try simp only [upd_same, updD_same, upd_ne, updD_ne, ne_eq, Nat.reduceEqDiff, not_false_eq_true, stg_t, stg_f, vAd_s, vCap_s, blk_p, List.cons_append, List.nil_append, b2n_t, b2n_f, hN15_20]
        exact goW
      · intro ξ v; rfl
      · intro ξ k v S h3 hn hk
        first
        | rfl
      apply YSeq.w (by intro _ _ _; rfl)
      · intro ξ S h1 h2 h3 h4
        have hN16_20 := closed_false h1 h3 (k := 20) rfl (by decide)
        try simp only [upd_same, updD_same, upd_ne, updD_ne, ne_eq, Nat.reduceEqDiff, not_false_eq_true, stg_t, stg_f, vAd_s, vCap_s, blk_p, List.cons_append, List.nil_append, b2n_t, b2n_f, hN16_20]
        exact goW
      · intro ξ v; rfl
      · intro ξ k v S h3 hn hk
        first
        | rfl
      apply YSeq.w (by intro _ _ _; rfl)
      · intro ξ S h1 h2 h3 h4
        have hN17_20 := closed_false h1 h3 (k := 20) rfl (by decide)
        try simp only [upd_same, updD_same, upd_ne, updD_ne, ne_eq, Nat.reduceEqDiff, not_false_eq_true, stg_t, stg_f, vAd_s, vCap_s, blk_p, List.cons_append, List.nil_append, b2n_t, b2n_f, hN17_20]
        exact goW
      · intro ξ v; rfl
      · intro ξ k v S h3 hn hk
        first
        | rfl
      apply YSeq.w (by intro _ _ _; rfl)
      · intro ξ S h1 h2 h3 h4
        have hN18_20 := closed_false h1 h3 (k := 20) rfl (by decide)
        try simp only [upd_same, updD_same, upd_ne, updD_ne, ne_eq, Nat.reduceEqDiff, not_false_eq_true, stg_t, stg_f, vAd_s, vCap_s, blk_p, List.cons_append, List.nil_append, b2n_t, b2n_f, hN18_20]
        exact goW
      · intro ξ v; rfl
      · intro ξ k v S h3 hn hk
        first
        | rfl
      apply YSeq.alloc
      · intro ξ S b h1 h3
        have hN19_20 := closed_false h1 h3 (k := 20) rfl (by decide)
        simp only [upd_same, updD_same, upd_ne, updD_ne, ne_eq, Nat.reduceEqDiff, not_false_eq_true, stg_t, stg_f, vAd_s, vCap_s, blk_p, List.cons_append, List.nil_append, b2n_t, b2n_f, h1, hN19_20]
        exact goXm
      apply YSeq.store
      · intro ξ S h1 h2 h3 h4
        have hY20_19 : S 19 = true := h2 19 (by decide)
        simp only [upd_same, updD_same, upd_ne, updD_ne, ne_eq, Nat.reduceEqDiff, not_false_eq_true, stg_t, stg_f, vAd_s, vCap_s, blk_p, List.cons_append, List.nil_append, b2n_t, b2n_f, hY20_19, h1]
        refine ⟨_, _, _, _, _, _, _, rfl, rfl, inferInstance, goXp, rfl, Nat.le_of_ble_eq_true rfl, ?_⟩
        exact goXm
      refine YSeq.nil fun ξ hf => ?_
      refine ⟨[(0, _), (1, _), (5, _), (6, _)], _, Ent.trans (Ent.eqc rfl (by first | (simp only [upd_same, updD_same, upd_ne, updD_ne, ne_eq, Nat.reduceEqDiff, not_false_eq_true, stg_t, stg_f, vAd_s, vCap_s, blk_p, List.cons_append, List.nil_append, b2n_t, b2n_f, ownV, slV, ptV] <;> rfl) | rfl)) (Ent.sub goSub), ?_⟩
      clear hf
      generalize blk (ξ 19) = b6
      repeat (first | refine InB.norm ?_ | refine Then.norm ?_)
      generalize max x.fr y.fr = mf at *
      generalize min x.to y.to = mt at *
      by_cases hm : mf < mt
      · rw [if_pos hm] at hW
        have hr := wnRows_snoc out mf mt
        rw [← hrows] at hr
        have hrl2 : (rows ++ [[Tr.int mf, Tr.int mt]]).length = (out ++ ([⟨mf, mt⟩] : List Wn)).length := by rw [List.length_append, List.length_append, hrl]; rfl
        have hol2 : (out ++ ([⟨mf, mt⟩] : List Wn)).length = out.length + 1 := by rw [List.length_append]; rfl
        rw [← List.append_assoc] at hW
        by_cases hab : x.to < y.to
        · rw [if_pos hab] at hW
          repeat' (first | refine goH ?_ | refine goV ?_ | refine goB (fun b => ?_) | refine goC (fun ad cap => ?_) | refine goG ?_ | (refine Ops.k_guard ?_; first | (refine Ops.guard_dec rfl rfl (fun hc => ?_) (fun hc => ?_) <;> try (exfalso; omega)) | refine Ops.guard_split rfl rfl (fun hc => ?_) (fun hc => ?_)) | refine goI ?_ | (refine Cw.k_cond ?_; first | (refine Cw.cond_dec rfl (fun hc => ?_) (fun hc => ?_) <;> try (exfalso; omega)) | refine Cw.cond_bool rfl (fun hc => ?_) (fun hc => ?_)) | refine goR ?_ | refine goP ?_ | apply PSeq.cons | apply PSeq.yes rfl rfl rfl | exact goW | fail)
          exact ⟨_, _, _, (Ent.mk goSub goTk), ⟨A, y :: B, out ++ ([⟨mf, mt⟩] : List Wn), _, _, _, rfl, ⟨by omega, by simp only [List.length_cons]; omega, hW, hr, hrl2, by simp only [List.length_cons]; omega⟩, rfl, rfl⟩, by simp only [List.length_cons]; omega⟩
        · rw [if_neg hab] at hW
          repeat' (first | refine goH ?_ | refine goV ?_ | refine goB (fun b => ?_) | refine goC (fun ad cap => ?_) | refine goG ?_ | (refine Ops.k_guard ?_; first | (refine Ops.guard_dec rfl rfl (fun hc => ?_) (fun hc => ?_) <;> try (exfalso; omega)) | refine Ops.guard_split rfl rfl (fun hc => ?_) (fun hc => ?_)) | refine goI ?_ | (refine Cw.k_cond ?_; first | (refine Cw.cond_dec rfl (fun hc => ?_) (fun hc => ?_) <;> try (exfalso; omega)) | refine Cw.cond_bool rfl (fun hc => ?_) (fun hc => ?_)) | refine goR ?_ | refine goP ?_ | apply PSeq.cons | apply PSeq.yes rfl rfl rfl | exact goW | fail)
          exact ⟨_, _, _, (Ent.mk goSub goTk), ⟨x :: A, B, out ++ ([⟨mf, mt⟩] : List Wn), _, _, _, rfl, ⟨by simp only [List.length_cons]; omega, by omega, hW, hr, hrl2, by simp only [List.length_cons]; omega⟩, rfl, rfl⟩, by simp only [List.length_cons]; omega⟩
      · rw [if_neg hm, List.nil_append] at hW
        by_cases hab : x.to < y.to
        · rw [if_pos hab] at hW
          repeat' (first | refine goH ?_ | refine goV ?_ | refine goB (fun b => ?_) | refine goC (fun ad cap => ?_) | refine goG ?_ | (refine Ops.k_guard ?_; first | (refine Ops.guard_dec rfl rfl (fun hc => ?_) (fun hc => ?_) <;> try (exfalso; omega)) | refine Ops.guard_split rfl rfl (fun hc => ?_) (fun hc => ?_)) | refine goI ?_ | (refine Cw.k_cond ?_; first | (refine Cw.cond_dec rfl (fun hc => ?_) (fun hc => ?_) <;> try (exfalso; omega)) | refine Cw.cond_bool rfl (fun hc => ?_) (fun hc => ?_)) | refine goR ?_ | refine goP ?_ | apply PSeq.cons | apply PSeq.yes rfl rfl rfl | exact goW | fail)
          exact ⟨_, _, _, (Ent.mk goSub goTk), ⟨A, y :: B, out, _, _, _, rfl, ⟨by omega, by simp only [List.length_cons]; omega, hW, hrows, hrl, by simp only [List.length_cons]; omega⟩, rfl, rfl⟩, by simp only [List.length_cons]; omega⟩
        · rw [if_neg hab] at hW
          repeat' (first | refine goH ?_ | refine goV ?_ | refine goB (fun b => ?_) | refine goC (fun ad cap => ?_) | refine goG ?_ | (refine Ops.k_guard ?_; first | (refine Ops.guard_dec rfl rfl (fun hc => ?_) (fun hc => ?_) <;> try (exfalso; omega)) | refine Ops.guard_split rfl rfl (fun hc => ?_) (fun hc => ?_)) | refine goI ?_ | (refine Cw.k_cond ?_; first | (refine Cw.cond_dec rfl (fun hc => ?_) (fun hc => ?_) <;> try (exfalso; omega)) | refine Cw.cond_bool rfl (fun hc => ?_) (fun hc => ?_)) | refine goR ?_ | refine goP ?_ | apply PSeq.cons | apply PSeq.yes rfl rfl rfl | exact goW | fail)
          exact ⟨_, _, _, (Ent.mk goSub goTk), ⟨x :: A, B, out, _, _, _, rfl, ⟨by simp only [List.length_cons]; omega, by omega, hW, hrows, hrl, by simp only [List.length_cons]; omega⟩, rfl, rfl⟩, by simp only [List.length_cons]; omega⟩
end Lg
end
section
set_option linter.all false
set_option maxRecDepth 100000
set_option maxHeartbeats 4000000
namespace Lg
open Go Go.Proofs

def strRows (l : List ByteArray) : List (List Tr) := l.map fun x => [Tr.str x]
abbrev Tr.strs (l : List ByteArray) : Tr := Tr.sl 1 (strRows l)
theorem strRows_len (l : List ByteArray) : (strRows l).length = l.length := by simp [strRows]
theorem strRows_at {l : List ByteArray} {j : Nat} {x : ByteArray} (h : l[j]? = some x) : (strRows l)[j]? = some [Tr.str x] := rows_at h
theorem strRows_app (a b : List ByteArray) : strRows (a ++ b) = strRows a ++ strRows b := by simp [strRows]
theorem strRows_get {l : List ByteArray} {j : Nat} (h : j < l.length) : (strRows l)[j]? = some [Tr.str l[j]] := strRows_at (List.getElem?_eq_getElem h)
inductive IsStrs : List (List Tr) → List ByteArray → Prop
  | nil : IsStrs [] []
  | cons {rows : List (List Tr)} {l : List ByteArray} {x : ByteArray} (h : IsStrs rows l) : IsStrs ([Tr.str x] :: rows) (x :: l)
theorem IsStrs.eq {rows : List (List Tr)} {l : List ByteArray} (h : IsStrs rows l) : rows = strRows l := by
  induction h with
  | nil => rfl
  | cons h ih => rw [ih]; rfl
/-- one of some strings -/
theorem one_gen {rows : List (List Tr)} {l : List ByteArray} (hr : IsStrs rows l) (h : 0 < l.length ∧ l.length ≤ 100000) :
    Gen Tryz.prog 25 26 [.sl 1 rows] 1 (fun r => ∃ v, r = .str v ∧ v ∈ l) := by
  have h := hr.eq
  subst h
  unfold Gen
  intro b xs N hN
  refine Spec.body Tryz.func26 rfl rfl (Tryz.ntmps26) rfl fun w0 own0 M => ?_
  have hl := strRows_len l
  repeat' (first | refine goH ?_ | refine goV ?_ | refine goI ?_ | (refine Cw.k_cond ?_; first | (refine Cw.cond_dec rfl (fun hc => ?_) (fun hc => ?_) <;> try (exfalso; omega)) | refine Cw.cond_bool rfl (fun hc => ?_) (fun hc => ?_)) | (refine Ops.k_calla ?_; first | (refine Ops.k_callf 24 ?_; (refine Ops.callG (next_gen _ (by omega)) (Evs.cons rfl (Evs.cons rfl Evs.nil)) goPk (by omega) rfl ?_; rintro r ⟨v, rfl, hv⟩; unfold InRange at hv; have hj : v.toNat < l.length := (by omega); have hj2 := strRows_get hj))) | fail)
  exact Fin.ret Ent.refl (Outs.one rfl rfl) ⟨rfl, _, rfl, List.getElem_mem hj⟩
end Lg
end
section
set_option linter.all false
set_option maxRecDepth 100000
set_option maxHeartbeats 8000000
namespace Lg
open Go Go.Proofs

/-! ### when some of several codes is on -/
def allW (l : List Cd) (codes : List ByteArray) : List Wn := codes.flatMap (litW l)
theorem allW_take {l : List Cd} {codes : List ByteArray} {k : Nat} {c : ByteArray} (h : codes[k]? = some c) : allW l (codes.take (k + 1)) = allW l (codes.take k) ++ litW l c := by
  unfold allW
  rw [take_at h, List.flatMap_append]
  simp
theorem allW_len {l : List Cd} (hl : CdOk l) : ∀ codes : List ByteArray, (allW l codes).length ≤ codes.length * (l.length + 1)
  | [] => by simp [allW]
  | c :: codes => by
    have ih := allW_len hl codes
    have h1 := (litW_ok (key := c) hl).2.2
    unfold allW at ih ⊢
    rw [List.flatMap_cons, List.length_append, List.length_cons, Nat.add_mul]
    omega
theorem allW_ne {l : List Cd} (hl : CdOk l) (codes : List ByteArray) : ∀ w ∈ allW l codes, w.fr < w.to := by
  intro w hw
  obtain ⟨c, _, h⟩ := List.mem_flatMap.1 hw
  exact (litW_ok (key := c) hl).1.ne w h
theorem allW_mem {l : List Cd} (hl : CdOk l) (codes : List ByteArray) (t : Int) : memW (allW l codes) t ↔ (0 ≤ t ∧ t < tEnd ∧ codes.any (fun c => onAt l c t) = true) := by
  rw [List.any_eq_true]
  constructor
  · rintro ⟨w, hw, h⟩
    obtain ⟨c, hc, h2⟩ := List.mem_flatMap.1 hw
    obtain ⟨a1, a2, a3⟩ := ((litW_ok (key := c) hl).2.1 t).1 ⟨w, h2, h⟩
    exact ⟨a1, a2, c, hc, a3⟩
  · rintro ⟨a1, a2, c, hc, a3⟩
    obtain ⟨w, hw, h⟩ := ((litW_ok (key := c) hl).2.1 t).2 ⟨a1, a2, a3⟩
    exact ⟨w, List.mem_flatMap.2 ⟨c, hc, hw⟩, h⟩
theorem someOn_fn (l : List Cd) (hl : l.length ≤ 100) (hok : CdOk l) (codes : List ByteArray) (hc : codes.length ≤ 100) : Spec Tryz.prog 44 [.cds l, .strs codes] [] (fun r cs => ∃ (W : List Wn) (ad : Option Addr) (cap : Nat), (Can W ∧ (∀ t, memW W t ↔ (0 ≤ t ∧ t < tEnd ∧ codes.any (fun c => onAt l c t) = true)) ∧ W.length ≤ 20000) ∧ r = Tr.raw (.slice ad W.length cap) ∧ cs = [Chunk.own ad cap 2 32 (W.map Wn.row)]) := by
  have hCl := strRows_len codes
  have hall := fun k => allW_len hok (codes.take k)
  have hbd : ∀ k, (allW l (codes.take k)).length ≤ 10100 := fun k => by
    have h1 := hall k
    have h2 : (codes.take k).length ≤ 100 := by rw [List.length_take]; omega
    have h3 : (codes.take k).length * (l.length + 1) ≤ 100 * 101 := Nat.mul_le_mul h2 (by omega)
    omega
  clear hall
  refine Spec.body Tryz.func44 rfl rfl (Tryz.ntmps44) rfl fun w0 own0 M => ?_
  repeat' (first | refine goH ?_ | refine goV ?_ | refine goC (fun ad cap => ?_) | refine goI ?_ | (refine Cw.k_cond ?_; first | (refine Cw.cond_dec rfl (fun hc => ?_) (fun hc => ?_) <;> try (exfalso; omega)) | refine Cw.cond_bool rfl (fun hc => ?_) (fun hc => ?_)) | fail)
  refine Cw.loopI [(0, _), (8, _), (9, _)] _ (fun q e c => ∃ (k : Nat) (ad : Option Addr) (cap : Nat) (rows : List (List Tr)), q = codes.length - k ∧ (k ≤ codes.length ∧ rows = (allW l (codes.take k)).map Wn.row) ∧ e = [(5, Tr.raw (.slice ad rows.length cap)), (10, .int k)] ∧ c = [Chunk.own ad cap 2 32 rows])
    ⟨_, _, _, Ent.trans (Ent.nil 2 32) (Ent.mkP goSub goPm), 0, none, 0, [], rfl, ⟨by omega, rfl⟩, rfl, rfl⟩ ?_
  rintro _ _ _ ⟨k, ad, cap, rows, rfl, ⟨hk, hrows⟩, rfl, rfl⟩
  have hrl : rows.length ≤ 10100 := by rw [hrows, List.length_map]; exact hbd k
  by_cases hkl : k < codes.length
  · obtain ⟨c, hcx⟩ := at_lt hkl
    have hrow : (strRows codes)[k]? = some [.str c] := strRows_at hcx
    have kL := lit_fn l (by omega) c
    have hll := (litW_ok (key := c) hok).2.2
    have hnext := allW_take (l := l) hcx
    obtain ⟨W, hW⟩ : ∃ W, W = litW l c := ⟨_, rfl⟩
    rw [← hW] at kL hll hnext
    have hWl : (W.map Wn.row).length = W.length := List.length_map _
    rw [← hWl] at kL hll
    have hr : rows ++ W.map Wn.row = (allW l (codes.take (k + 1))).map Wn.row := by rw [hrows, hnext, List.map_append]
    clear hnext hrows hcx
    repeat' (first | refine goH ?_ | refine goV ?_ | refine goC (fun ad cap => ?_) | refine goI ?_ | (refine Cw.k_cond ?_; first | (refine Cw.cond_dec rfl (fun hc => ?_) (fun hc => ?_) <;> try (exfalso; omega)) | refine Cw.cond_bool rfl (fun hc => ?_) (fun hc => ?_)) | (refine Ops.k_calla ?_; first | (refine Ops.k_callf 41 ?_; (refine Ops.call kL (Evs.cons rfl (Evs.cons rfl Evs.nil)) (List.Perm.refl _) rfl ?_; rintro r cs' ⟨ad2, cap2, rfl, rfl⟩; refine Ops.ent (Ent.settle (s := 17) rfl goPk rfl) ?_))) | fail)
    exact ⟨_, _, _, (Ent.mk goSub goTk), ⟨k + 1, _, _, _, rfl, ⟨by omega, hr⟩, rfl, rfl⟩, by omega⟩
  · rw [List.take_of_length_le (by omega)] at hrows
    have hb2 := hbd codes.length
    rw [List.take_length] at hb2
    have kJ := fun ad cap => joined_fn (allW l codes) (by omega) (allW_ne hok codes) ad cap rows.length (by rw [hrows, List.length_map])
    rw [← hrows] at kJ
    have hm := allW_mem hok codes
    repeat' (first | refine goH ?_ | refine goV ?_ | refine goC (fun ad cap => ?_) | refine goI ?_ | (refine Cw.k_cond ?_; first | (refine Cw.cond_dec rfl (fun hc => ?_) (fun hc => ?_) <;> try (exfalso; omega)) | refine Cw.cond_bool rfl (fun hc => ?_) (fun hc => ?_)) | (refine Ops.k_calla ?_; first | (refine Ops.k_callf 46 ?_; (refine Ops.call (kJ _ _) (Evs.cons rfl Evs.nil) goPm rfl ?_; rintro r cs' ⟨W, ad2, cap2, ⟨h1, h2, h3⟩, rfl, rfl⟩))) | fail)
    exact Fin.ret (Ent.take goTk) (Outs.one rfl rfl) ⟨W, _, _, ⟨h1, fun t => (h2 t).trans (hm t), by omega⟩, rfl, rfl⟩
/-! ### the reference -/
theorem onAt_fn (l : List Cd) (hl : l.length ≤ 1000000) (key : ByteArray) (t : Int) : PFn Tryz.prog 56 [.cds l, .str key, .int t] (· = .bool (onAt l key t)) := by
  have hL : (l.map Cd.row).length = l.length := List.length_map _
  refine PFn.mk (Spec.body Tryz.func56 rfl rfl (Tryz.ntmps56) rfl fun w0 own0 M => ?_)
  repeat' (first | refine goH ?_ | refine goV ?_ | refine goB (fun b => ?_) | refine goG ?_ | (refine Ops.k_guard ?_; first | (refine Ops.guard_dec rfl rfl (fun hc => ?_) (fun hc => ?_) <;> try (exfalso; omega)) | refine Ops.guard_split rfl rfl (fun hc => ?_) (fun hc => ?_)) | refine goI ?_ | (refine Cw.k_cond ?_; first | (refine Cw.cond_dec rfl (fun hc => ?_) (fun hc => ?_) <;> try (exfalso; omega)) | refine Cw.cond_bool rfl (fun hc => ?_) (fun hc => ?_)) | fail)
  refine Cw.loopI [(1, _), (2, _), (10, _), (11, _)] _ (fun q e c => ∃ (k : Nat) (on : Bool), q = l.length - k ∧ (k ≤ l.length ∧ on = onAt (l.take k) key t) ∧ e = [(7, .bool on), (12, .int k)] ∧ c = [])
    ⟨_, _, _, (Ent.mkP goSub goPm), 0, false, rfl, ⟨by omega, rfl⟩, rfl, rfl⟩ ?_
  rintro _ _ _ ⟨k, on, rfl, ⟨hk, ho⟩, rfl, rfl⟩
  by_cases hkl : k < l.length
  · obtain ⟨x, hx⟩ := at_lt hkl
    have hrow : (l.map Cd.row)[k]? = some [.int x.at_, .str x.key, .bool x.on] := rows_at hx
    have hnext : onAt (l.take (k + 1)) key t = onStep key t on x := by rw [take_at hx, onAt_snoc, ho]
    unfold onStep at hnext
    clear hx ho
    obtain ⟨xa, xk, xo⟩ := x
    simp only at hrow hnext
    by_cases h1 : xk = key
    · by_cases h2 : xa ≤ t
      · rw [if_pos ⟨h1, h2⟩] at hnext
        repeat' (first | refine goH ?_ | refine goV ?_ | refine goB (fun b => ?_) | refine goG ?_ | (refine Ops.k_guard ?_; first | (refine Ops.guard_dec rfl rfl (fun hc => ?_) (fun hc => ?_) <;> try (exfalso; omega)) | refine Ops.guard_split rfl rfl (fun hc => ?_) (fun hc => ?_)) | refine goI ?_ | (refine Cw.k_cond ?_; first | (refine Cw.cond_dec rfl (fun hc => ?_) (fun hc => ?_) <;> try (exfalso; omega)) | refine Cw.cond_bool rfl (fun hc => ?_) (fun hc => ?_)) | fail)
        all_goals first | (exact absurd h1 (by assumption)) | exact ⟨_, _, _, (Ent.mk goSub goTk), ⟨k + 1, xo, rfl, ⟨by omega, hnext.symm⟩, rfl, rfl⟩, by omega⟩
      · rw [if_neg (fun h => h2 h.2)] at hnext
        repeat' (first | refine goH ?_ | refine goV ?_ | refine goB (fun b => ?_) | refine goG ?_ | (refine Ops.k_guard ?_; first | (refine Ops.guard_dec rfl rfl (fun hc => ?_) (fun hc => ?_) <;> try (exfalso; omega)) | refine Ops.guard_split rfl rfl (fun hc => ?_) (fun hc => ?_)) | refine goI ?_ | (refine Cw.k_cond ?_; first | (refine Cw.cond_dec rfl (fun hc => ?_) (fun hc => ?_) <;> try (exfalso; omega)) | refine Cw.cond_bool rfl (fun hc => ?_) (fun hc => ?_)) | fail)
        all_goals first | (exact absurd h1 (by assumption)) | exact ⟨_, _, _, (Ent.mk goSub goTk), ⟨k + 1, on, rfl, ⟨by omega, hnext.symm⟩, rfl, rfl⟩, by omega⟩
    · rw [if_neg (fun h => h1 h.1)] at hnext
      repeat' (first | refine goH ?_ | refine goV ?_ | refine goB (fun b => ?_) | refine goG ?_ | (refine Ops.k_guard ?_; first | (refine Ops.guard_dec rfl rfl (fun hc => ?_) (fun hc => ?_) <;> try (exfalso; omega)) | refine Ops.guard_split rfl rfl (fun hc => ?_) (fun hc => ?_)) | refine goI ?_ | (refine Cw.k_cond ?_; first | (refine Cw.cond_dec rfl (fun hc => ?_) (fun hc => ?_) <;> try (exfalso; omega)) | refine Cw.cond_bool rfl (fun hc => ?_) (fun hc => ?_)) | fail)
      all_goals first | (exact absurd (by assumption) h1) | exact ⟨_, _, _, (Ent.mk goSub goTk), ⟨k + 1, on, rfl, ⟨by omega, hnext.symm⟩, rfl, rfl⟩, by omega⟩
  · rw [List.take_of_length_le (by omega)] at ho
    rw [← ho]
    repeat' (first | refine goH ?_ | refine goV ?_ | refine goB (fun b => ?_) | refine goG ?_ | (refine Ops.k_guard ?_; first | (refine Ops.guard_dec rfl rfl (fun hc => ?_) (fun hc => ?_) <;> try (exfalso; omega)) | refine Ops.guard_split rfl rfl (fun hc => ?_) (fun hc => ?_)) | refine goI ?_ | (refine Cw.k_cond ?_; first | (refine Cw.cond_dec rfl (fun hc => ?_) (fun hc => ?_) <;> try (exfalso; omega)) | refine Cw.cond_bool rfl (fun hc => ?_) (fun hc => ?_)) | fail)
    exact Fin.ret (Ent.take goTk) (Outs.one rfl rfl) ⟨rfl, rfl⟩
end Lg
end
