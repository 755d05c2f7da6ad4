/- A part of the proof of a law of this seat: it adds no condition. By an AI agent. -/
import Derived.Test.YtoedknjnkeeohaaRd13
section
set_option linter.all false
set_option maxRecDepth 100000
set_option maxHeartbeats 8000000
namespace Lg
open Go Go.Proofs

theorem meter_gen : Gen Try.prog 25 5 [] 10 (fun r => ∃ c t f : Int, r = .mtr c t f ∧ (-1000000000000 ≤ t ∧ t ≤ 1000000000000) ∧ (-1000000000000 ≤ c ∧ c ≤ 1000000000000) ∧ (-1000000000000 ≤ f ∧ f ≤ 1000000000000)) := by
  unfold Gen
  intro bs xs N hN
  refine Spec.body Try.func5 rfl rfl (Try.ntmps5) rfl fun w0 own0 M => ?_
  repeat' (first | refine goH ?_ | refine goV ?_ | refine goB (fun b => ?_) | refine goI ?_ | (refine Cw.k_cond ?_; first | (refine Cw.cond_dec rfl (fun hc => ?_) (fun hc => ?_) <;> try (exfalso; omega)) | refine Cw.cond_bool rfl (fun hc => ?_) (fun hc => ?_)) | (refine Ops.k_calla ?_; first | (refine Ops.k_callf 34 ?_; (refine Ops.callG (range_gen _ _ (by omega)) (Evs.cons rfl (Evs.cons rfl (Evs.cons rfl Evs.nil))) goPk (by omega) rfl ?_; rintro r ⟨v, rfl, hv⟩)) | (refine Ops.k_callf 25 ?_; (refine Ops.callG (flip_gen _ (by omega)) (Evs.cons rfl (Evs.cons rfl Evs.nil)) goPk (by omega) rfl ?_; rintro r ⟨v, rfl⟩)) | (refine Ops.k_callf 35 ?_; (refine Ops.callG (pick_gen (by repeat' (first | exact IsInts.nil | apply IsInts.cons)) (by simp)) (Evs.cons rfl (Evs.cons rfl Evs.nil)) goPk (by omega) rfl ?_; rintro r ⟨x, rfl, hx⟩; have hxb : -1000000000000 ≤ x ∧ x ≤ 1000000000000 := (by simp at hx; omega); clear hx))) | fail)
  all_goals
    rename Nat => b2
    refine Fin.ret (Ent.trans (Ent.setbox (s := 2) rfl goPk) (Ent.strm_only goPk (by omega))) (Outs.sole rfl goOe) ⟨rfl, _, _, _, rfl, by omega, by omega, by omega⟩
theorem int_set (l : List Int) (i : Nat) (v : Int) : (intRows l).set i [Tr.int v] = intRows (l.set i v) := intRows_set l i v
attribute [local irreducible] intRows
theorem order_gen (n : Nat) (hn : n ≤ 9) : Gen Try.prog 25 37 [.int n] 10 (fun r => ∃ l : List Int, r = .ints l ∧ l.length = n ∧ ∀ x ∈ l, 0 ≤ x ∧ x < n) := by
  unfold Gen
  intro bs xs N hN
  refine Spec.body Try.func37 rfl rfl (Try.ntmps37) rfl fun w0 own0 M => ?_
  repeat' (first | refine goH ?_ | refine goV ?_ | refine goC (fun ad cap => ?_) | refine goI ?_ | (refine Cw.k_cond ?_; first | (refine Cw.cond_dec rfl (fun hc => ?_) (fun hc => ?_) <;> try (exfalso; omega)) | refine Cw.cond_bool rfl (fun hc => ?_) (fun hc => ?_)) | refine goR ?_ | refine goP ?_ | apply PSeq.cons | apply PSeq.yes rfl rfl rfl | exact goW | fail)
  refine Cw.loopI [(0, _), (1, _), (9, _)] _ (fun q e cc => ∃ (k : Nat) (rows : List (List Tr)) (l : List Int) (ad : Option Addr) (cap : Nat), q = n - k ∧ (k ≤ n ∧ rows = intRows l ∧ rows.length = k ∧ l.length = k ∧ ∀ x ∈ l, 0 ≤ x ∧ x < n) ∧ e = [(5, Tr.raw (.slice ad k cap)), (10, .int k)] ∧ cc = [Chunk.own ad cap 1 3 rows])
    ⟨_, _, _, Ent.trans (Ent.nil 1 3) (Ent.mkP goSub goPm), 0, [], [], none, 0, rfl, ⟨by omega, intRows_nil.symm, rfl, rfl, by simp⟩, rfl, rfl⟩ ?_
  rintro _ _ _ ⟨k, rows, l, ad, cap, rfl, ⟨hk, hrs, hrl, hll, hlb⟩, rfl, rfl⟩
  by_cases hkl : k < n
  · have hrs2 : rows ++ [[Tr.int k]] = intRows (l ++ [(k : Int)]) := by rw [hrs, intRows_snoc]
    have hrl2 : (rows ++ [[Tr.int k]]).length = k + 1 := by rw [List.length_append, hrl]; rfl
    have hlb2 : ∀ x ∈ l ++ [(k : Int)], 0 ≤ x ∧ x < n := by
      intro x hx
      rcases List.mem_append.1 hx with h | h
      · exact hlb x h
      · rw [List.mem_singleton.1 h]; omega
    clear hrs hlb
    repeat' (first | refine goH ?_ | refine goV ?_ | refine goC (fun ad cap => ?_) | refine goI ?_ | (refine Cw.k_cond ?_; first | (refine Cw.cond_dec rfl (fun hc => ?_) (fun hc => ?_) <;> try (exfalso; omega)) | refine Cw.cond_bool rfl (fun hc => ?_) (fun hc => ?_)) | refine goR ?_ | refine goP ?_ | apply PSeq.cons | apply PSeq.yes rfl rfl rfl | exact goW | fail)
    erw [hrl2]
    exact ⟨_, _, _, (Ent.mk goSub goTk), ⟨k + 1, _, l ++ [(k : Int)], _, _, rfl, ⟨by omega, hrs2, hrl2, by simp [hll], hlb2⟩, rfl, rfl⟩, by omega⟩
  have hkn : k = n := by omega
  subst hkn
  subst hrs
  clear hkl hk
  repeat' (first | refine goH ?_ | refine goV ?_ | refine goC (fun ad cap => ?_) | refine goI ?_ | (refine Cw.k_cond ?_; first | (refine Cw.cond_dec rfl (fun hc => ?_) (fun hc => ?_) <;> try (exfalso; omega)) | refine Cw.cond_bool rfl (fun hc => ?_) (fun hc => ?_)) | refine goR ?_ | refine goP ?_ | apply PSeq.cons | apply PSeq.yes rfl rfl rfl | exact goW | fail)
  refine Cw.loopI [(0, _), (5, _)] _ (fun q e cc => ∃ (i : Int) (l : List Int) (c : Nat), q = i.toNat ∧ ((-1 ≤ i ∧ i < k) ∧ (intRows l).length = k ∧ l.length = k ∧ (∀ x ∈ l, 0 ≤ x ∧ x < k) ∧ c + i ≤ N + k) ∧ e = [(7, .int i)] ∧ cc = [Chunk.own ad cap 1 3 (intRows l), Chunk.strm 25 bs (intRows xs) c])
    ⟨_, _, _, (Ent.mkP goSub goPm), (k : Int) - 1, l, N, rfl, ⟨by omega, hrl, hll, hlb, by omega⟩, rfl, rfl⟩ ?_
  clear hrl hll hlb
  rintro _ _ _ ⟨i, l, c, rfl, ⟨hi, hrl, hll, hlb, hc⟩, rfl, rfl⟩
  by_cases hi0 : 0 < i
  rotate_left
  · repeat' (first | refine goH ?_ | refine goV ?_ | refine goC (fun ad cap => ?_) | refine goI ?_ | (refine Cw.k_cond ?_; first | (refine Cw.cond_dec rfl (fun hc => ?_) (fun hc => ?_) <;> try (exfalso; omega)) | refine Cw.cond_bool rfl (fun hc => ?_) (fun hc => ?_)) | refine goR ?_ | refine goP ?_ | apply PSeq.cons | apply PSeq.yes rfl rfl rfl | exact goW | fail)
    rw [← hrl]
    refine Fin.ret (Ent.trans (Ent.settle (s := 4) rfl goPk rfl) (Ent.strm_only goPk (by omega))) (Outs.sole rfl goOe) ⟨rfl, l, rfl, by rw [hrl]; exact hll, by rw [hrl]; exact hlb⟩
  repeat' (first | refine goH ?_ | refine goV ?_ | refine goC (fun ad cap => ?_) | refine goI ?_ | (refine Cw.k_cond ?_; first | (refine Cw.cond_dec rfl (fun hc => ?_) (fun hc => ?_) <;> try (exfalso; omega)) | refine Cw.cond_bool rfl (fun hc => ?_) (fun hc => ?_)) | (refine Ops.k_calla ?_; first | (refine Ops.k_callf 27 ?_; (refine Ops.callG (next_gen _ (by omega)) (Evs.cons rfl (Evs.cons rfl Evs.nil)) goPk (by omega) rfl ?_; rintro r ⟨j, rfl, hj⟩; unfold InRange at hj))) | fail)
  obtain ⟨x, hx⟩ := at_lt (l := l) (k := i.toNat) (by omega)
  obtain ⟨y, hy⟩ := at_lt (l := l) (k := j.toNat) (by omega)
  have r1 := intRows_at hx
  have r2 := intRows_at hy
  have r3 : ((intRows l).set i.toNat [Tr.int y])[j.toNat]? = some [Tr.int y] := by
    rw [int_set]
    refine intRows_at ?_
    rw [List.getElem?_set]
    by_cases h : i.toNat = j.toNat
    · rw [if_pos h, if_pos (by omega)]
    · rw [if_neg h]; exact hy
  first | refine Cw.region_YP (fun ξ S => Chunk.strm 25 bs (intRows xs) (c + 1) :: Chunk.own ad cap 1 3 (stg (S 15) (stg (S 13) (intRows l) ((intRows l).set i.toNat [.int y])) (((intRows l).set i.toNat [.int y]).set j.toNat [.int x])) :: []) rfl (by decide +kernel) rfl ((fun (ξ : Nat → Value) (S : Nat → Bool) => Chunk.strm 25 bs (intRows xs) (c + 1) :: Chunk.own ad cap 1 3 (stg (S 15) (stg (S 13) (intRows l) ((intRows l).set i.toNat [.int y])) (((intRows l).set i.toNat [.int y]).set j.toNat [.int x])) :: []) (fun _ => undef) (fun _ => false)) (by simp only [upd_same, updD_same, upd_ne, updD_ne, ne_eq, Nat.reduceEqDiff, not_false_eq_true, stg_t, stg_f, vAd_s, vCap_s, blk_p, List.cons_append, List.nil_append, b2n_t, b2n_f]; exact goXm) (fun _ => rfl) ?_ | fail
  apply YSeq.w (by intro _ _ _; rfl)
  · intro ξ S h1 h2 h3 h4
    have hN0_13 := closed_false h1 h3 (k := 13) rfl (by decide)
    have hN0_15 := closed_false h1 h3 (k := 15) rfl (by decide)
    try simp only [upd_same, updD_same, upd_ne, updD_ne, ne_eq, Nat.reduceEqDiff, not_false_eq_true, stg_t, stg_f, vAd_s, vCap_s, blk_p, List.cons_append, List.nil_append, b2n_t, b2n_f, hN0_13, hN0_15]
    exact goW
  · intro ξ v; rfl
  · intro ξ k v S h3 hn hk
    first
    | rfl
  apply YSeq.w (by intro _ _ _; rfl)
  · intro ξ S h1 h2 h3 h4
    have hN1_13 := closed_false h1 h3 (k := 13) rfl (by decide)
    have hN1_15 := closed_false h1 h3 (k := 15) rfl (by decide)
    try simp only [upd_same, updD_same, upd_ne, updD_ne, ne_eq, Nat.reduceEqDiff, not_false_eq_true, stg_t, stg_f, vAd_s, vCap_s, blk_p, List.cons_append, List.nil_append, b2n_t, b2n_f, hN1_13, hN1_15]
    exact goW
  · intro ξ v; rfl
  · intro ξ k v S h3 hn hk
    first
    | rfl
  apply YSeq.w (by intro _ _ _; rfl)
  · intro ξ S h1 h2 h3 h4
    have hN2_15 := closed_false h1 h3 (k := 15) rfl (by decide)
    try simp only [upd_same, updD_same, upd_ne, updD_ne, ne_eq, Nat.reduceEqDiff, not_false_eq_true, stg_t, stg_f, vAd_s, vCap_s, blk_p, List.cons_append, List.nil_append, b2n_t, b2n_f, hN2_15]
    exact goW
  · intro ξ v; rfl
  · intro ξ k v S h3 hn hk
    first
    | rfl
  apply YSeq.w (by intro _ _ _; rfl)
  · intro ξ S h1 h2 h3 h4
    have hN3_15 := closed_false h1 h3 (k := 15) rfl (by decide)
    try simp only [upd_same, updD_same, upd_ne, updD_ne, ne_eq, Nat.reduceEqDiff, not_false_eq_true, stg_t, stg_f, vAd_s, vCap_s, blk_p, List.cons_append, List.nil_append, b2n_t, b2n_f, hN3_15]
    exact goW
  · intro ξ v; rfl
  · intro ξ k v S h3 hn hk
    first
    | rfl
  apply YSeq.w (by intro _ _ _; rfl)
  · intro ξ S h1 h2 h3 h4
    have hN4_13 := closed_false h1 h3 (k := 13) rfl (by decide)
    have hN4_15 := closed_false h1 h3 (k := 15) rfl (by decide)
    try simp only [upd_same, updD_same, upd_ne, updD_ne, ne_eq, Nat.reduceEqDiff, not_false_eq_true, stg_t, stg_f, vAd_s, vCap_s, blk_p, List.cons_append, List.nil_append, b2n_t, b2n_f, hN4_13, hN4_15]
    exact goW
  · intro ξ v; rfl
  · intro ξ k v S h3 hn hk
    first
    | rfl
  apply YSeq.w (by intro _ _ _; rfl)
  · intro ξ S h1 h2 h3 h4
    have hN5_13 := closed_false h1 h3 (k := 13) rfl (by decide)
    have hN5_15 := closed_false h1 h3 (k := 15) rfl (by decide)
    try simp only [upd_same, updD_same, upd_ne, updD_ne, ne_eq, Nat.reduceEqDiff, not_false_eq_true, stg_t, stg_f, vAd_s, vCap_s, blk_p, List.cons_append, List.nil_append, b2n_t, b2n_f, hN5_13, hN5_15]
    exact goW
  · intro ξ v; rfl
  · intro ξ k v S h3 hn hk
    first
    | rfl
  apply YSeq.w (by intro _ _ _; rfl)
  · intro ξ S h1 h2 h3 h4
    have hN6_13 := closed_false h1 h3 (k := 13) rfl (by decide)
    have hN6_15 := closed_false h1 h3 (k := 15) rfl (by decide)
    try simp only [upd_same, updD_same, upd_ne, updD_ne, ne_eq, Nat.reduceEqDiff, not_false_eq_true, stg_t, stg_f, vAd_s, vCap_s, blk_p, List.cons_append, List.nil_append, b2n_t, b2n_f, hN6_13, hN6_15]
    exact goW
  · intro ξ v; rfl
  · intro ξ k v S h3 hn hk
    first
    | rfl
  apply YSeq.w (by intro _ _ _; rfl)
  · intro ξ S h1 h2 h3 h4
    have hN7_13 := closed_false h1 h3 (k := 13) rfl (by decide)
    have hN7_15 := closed_false h1 h3 (k := 15) rfl (by decide)
    try simp only [upd_same, updD_same, upd_ne, updD_ne, ne_eq, Nat.reduceEqDiff, not_false_eq_true, stg_t, stg_f, vAd_s, vCap_s, blk_p, List.cons_append, List.nil_append, b2n_t, b2n_f, hN7_13, hN7_15]
    exact goW
  · intro ξ v; rfl
  · intro ξ k v S h3 hn hk
    first
    | rfl
  apply YSeq.w (by intro _ _ _; rfl)
  · intro ξ S h1 h2 h3 h4
    have hN8_10 := closed_false h1 h3 (k := 10) rfl (by decide)
    have hN8_11 := closed_false hN8_10 h3 (k := 11) rfl (by decide)
    have hN8_13 := closed_false hN8_11 h3 (k := 13) rfl (by decide)
    have hN8_15 := closed_false h1 h3 (k := 15) rfl (by decide)
    try simp only [upd_same, updD_same, upd_ne, updD_ne, ne_eq, Nat.reduceEqDiff, not_false_eq_true, stg_t, stg_f, vAd_s, vCap_s, blk_p, List.cons_append, List.nil_append, b2n_t, b2n_f, hN8_13, hN8_15]
    exact goW
  · intro ξ v; rfl
  · intro ξ k v S h3 hn hk
    first
    | rfl
  apply YSeq.w (by intro _ _ _; rfl)
  · intro ξ S h1 h2 h3 h4
    have hN9_10 := closed_false h1 h3 (k := 10) rfl (by decide)
    have hN9_11 := closed_false hN9_10 h3 (k := 11) rfl (by decide)
    have hN9_13 := closed_false hN9_11 h3 (k := 13) rfl (by decide)
    have hN9_15 := closed_false h1 h3 (k := 15) rfl (by decide)
    try simp only [upd_same, updD_same, upd_ne, updD_ne, ne_eq, Nat.reduceEqDiff, not_false_eq_true, stg_t, stg_f, vAd_s, vCap_s, blk_p, List.cons_append, List.nil_append, b2n_t, b2n_f, hN9_13, hN9_15]
    exact goW
  · intro ξ v; rfl
  · intro ξ k v S h3 hn hk
    first
    | rfl
  apply YSeq.w (by intro _ _ _; rfl)
  · intro ξ S h1 h2 h3 h4
    have hN10_11 := closed_false h1 h3 (k := 11) rfl (by decide)
    have hN10_13 := closed_false hN10_11 h3 (k := 13) rfl (by decide)
    have hN10_15 := closed_false h1 h3 (k := 15) rfl (by decide)
    try simp only [upd_same, updD_same, upd_ne, updD_ne, ne_eq, Nat.reduceEqDiff, not_false_eq_true, stg_t, stg_f, vAd_s, vCap_s, blk_p, List.cons_append, List.nil_append, b2n_t, b2n_f, hN10_13, hN10_15]
    exact goW
  · intro ξ v; rfl
  · intro ξ k v S h3 hn hk
    first
    | rfl
  apply YSeq.w (by intro _ _ _; rfl)
  · intro ξ S h1 h2 h3 h4
    have hN11_13 := closed_false h1 h3 (k := 13) rfl (by decide)
    have hN11_15 := closed_false h1 h3 (k := 15) rfl (by decide)
    try simp only [upd_same, updD_same, upd_ne, updD_ne, ne_eq, Nat.reduceEqDiff, not_false_eq_true, stg_t, stg_f, vAd_s, vCap_s, blk_p, List.cons_append, List.nil_append, b2n_t, b2n_f, hN11_13, hN11_15]
    exact goW
  · intro ξ v; rfl
  · intro ξ k v S h3 hn hk
    first
    | rfl
  apply YSeq.w (by intro _ _ _; rfl)
  · intro ξ S h1 h2 h3 h4
    have hN12_13 := closed_false h1 h3 (k := 13) rfl (by decide)
    have hN12_15 := closed_false h1 h3 (k := 15) rfl (by decide)
    try simp only [upd_same, updD_same, upd_ne, updD_ne, ne_eq, Nat.reduceEqDiff, not_false_eq_true, stg_t, stg_f, vAd_s, vCap_s, blk_p, List.cons_append, List.nil_append, b2n_t, b2n_f, hN12_13, hN12_15]
    exact goW
  · intro ξ v; rfl
  · intro ξ k v S h3 hn hk
    first
    | rfl
  apply YSeq.storeO
  · intro ξ S h1 h2 h3 h4
    have hN13_15 := closed_false h1 h3 (k := 15) rfl (by decide)
    simp only [upd_same, updD_same, upd_ne, updD_ne, ne_eq, Nat.reduceEqDiff, not_false_eq_true, stg_t, stg_f, vAd_s, vCap_s, blk_p, List.cons_append, List.nil_append, b2n_t, b2n_f, h1, hN13_15]
    refine ⟨_, _, _, _, _, _, _, _, _, _, rfl, rfl, inferInstance, goXp, (by first | rfl | assumption | (simp [*]; done)), (by decide), ?_⟩
    exact goXm
  apply YSeq.w (by intro _ _ _; rfl)
  · intro ξ S h1 h2 h3 h4
    have hY14_13 : S 13 = true := h2 13 (by decide)
    have hN14_15 := closed_false h1 h3 (k := 15) rfl (by decide)
    try simp only [upd_same, updD_same, upd_ne, updD_ne, ne_eq, Nat.reduceEqDiff, not_false_eq_true, stg_t, stg_f, vAd_s, vCap_s, blk_p, List.cons_append, List.nil_append, b2n_t, b2n_f, hY14_13, hN14_15]
    exact goW
  · intro ξ v; rfl
  · intro ξ k v S h3 hn hk
    first
    | rfl
  apply YSeq.storeO
  · intro ξ S h1 h2 h3 h4
    have hY15_13 : S 13 = true := h2 13 (by decide)
    simp only [upd_same, updD_same, upd_ne, updD_ne, ne_eq, Nat.reduceEqDiff, not_false_eq_true, stg_t, stg_f, vAd_s, vCap_s, blk_p, List.cons_append, List.nil_append, b2n_t, b2n_f, hY15_13, h1]
    refine ⟨_, _, _, _, _, _, _, _, _, _, rfl, rfl, inferInstance, goXp, (by first | rfl | assumption | (simp [*]; done)), (by decide), ?_⟩
    exact goXm
  refine YSeq.nil fun ξ hf => ?_
  refine ⟨[(0, _), (5, _), (7, _), (8, _)], _, Ent.trans (Ent.eqc rfl (by simp only [upd_same, updD_same, upd_ne, updD_ne, ne_eq, Nat.reduceEqDiff, not_false_eq_true, stg_t, stg_f, vAd_s, vCap_s, blk_p, List.cons_append, List.nil_append, b2n_t, b2n_f, ownV, slV, ptV] <;> rfl)) (Ent.sub goSub), ?_⟩
  clear hf
  have hb : ∀ z ∈ (l.set i.toNat y).set j.toNat x, 0 ≤ z ∧ z < k := by
    intro z hz
    rcases List.mem_or_eq_of_mem_set hz with h | h
    · rcases List.mem_or_eq_of_mem_set h with h | h
      · exact hlb z h
      · rw [h]; exact hlb y (List.mem_of_getElem? hy)
    · rw [h]; exact hlb x (List.mem_of_getElem? hx)
  have hl2 : ((l.set i.toNat y).set j.toNat x).length = k := by simp [hll]
  rw [int_set, int_set]
  clear r1 r2 r3 hx hy
  repeat' (first | refine goH ?_ | refine goV ?_ | refine goC (fun ad cap => ?_) | refine goI ?_ | (refine Cw.k_cond ?_; first | (refine Cw.cond_dec rfl (fun hc => ?_) (fun hc => ?_) <;> try (exfalso; omega)) | refine Cw.cond_bool rfl (fun hc => ?_) (fun hc => ?_)) | refine goR ?_ | refine goP ?_ | apply PSeq.cons | apply PSeq.yes rfl rfl rfl | exact goW | fail)
  exact ⟨_, _, _, (Ent.mk goSub goTk), ⟨i - 1, _, _, rfl, ⟨by omega, by rw [intRows_len]; exact hl2, hl2, hb, by omega⟩, rfl, rfl⟩, by omega⟩
end Lg
end
section
set_option linter.all false
set_option maxRecDepth 100000
set_option maxHeartbeats 8000000
namespace Lg
open Go Go.Proofs

attribute [local irreducible] intRows
def atL : List Int := [0, 60, 1439, 1440, 3000, 5000, 20000, -1, 5761440, 5761439]
theorem reading_gen2 (c t f : Int) (ht : -1000000000000 ≤ t ∧ t ≤ 1000000000000) : Gen Try.prog 25 6 [.mtr c t f] 12 (fun r => ∃ d : Rdg, r = .rdg d ∧ d.vs.length ≤ 6 ∧ d.t ∈ atL) := by
  unfold Gen
  intro bs xs N hN
  refine Spec.body Try.func6 rfl rfl (Try.ntmps6) rfl fun w0 own0 M => ?_
  repeat' (first | refine goH ?_ | refine goV ?_ | refine goB (fun b => ?_) | refine goC (fun ad cap => ?_) | refine goG ?_ | (refine Ops.k_guard ?_; first | (refine Ops.guard_dec rfl rfl (fun hc => ?_) (fun hc => ?_) <;> try (exfalso; omega)) | refine Ops.guard_split rfl rfl (fun hc => ?_) (fun hc => ?_)) | refine goI ?_ | (refine Cw.k_cond ?_; first | (refine Cw.cond_dec rfl (fun hc => ?_) (fun hc => ?_) <;> try (exfalso; omega)) | refine Cw.cond_bool rfl (fun hc => ?_) (fun hc => ?_)) | (refine Ops.k_calla ?_; first | (refine Ops.k_callf 25 ?_; (refine Ops.callG (flip_gen _ (by omega)) (Evs.cons rfl (Evs.cons rfl Evs.nil)) goPk (by omega) rfl ?_; rintro r ⟨u, rfl⟩)) | (refine Ops.k_callf 35 ?_; (refine Ops.callG (pick_gen (by repeat' (first | exact IsInts.nil | apply IsInts.cons)) (by simp)) (Evs.cons rfl (Evs.cons rfl Evs.nil)) goPk (by omega) rfl ?_; rintro r ⟨v, rfl, hx⟩; have hxbv : -1000000000000 ≤ v ∧ v ≤ 1000000000000 := (by simp at hx; omega); have hatv : v ∈ atL := (by simp [atL] at hx ⊢; omega); clear hx))) | refine goR ?_ | refine goP ?_ | apply PSeq.cons | apply PSeq.yes rfl rfl rfl | exact goW | fail)
  rename_i b3 b4
  obtain ⟨n, hn⟩ : ∃ n : Nat, max (min c 5) 0 = n := ⟨(max (min c 5) 0).toNat, by omega⟩
  have hn5 : n ≤ 5 := by omega
  refine Cw.loopI [(0, _), (3, _), (4, _), (5, _), (13, _)] _ (fun q e cc => ∃ (k : Nat) (rows : List (List Tr)) (l : List Int) (ad : Option Addr) (cap : Nat) (m : Nat), q = n - k ∧ (k ≤ n ∧ rows = intRows l ∧ (intRows l).length = k ∧ l.length = k ∧ m ≤ N + 1 + k) ∧ e = [(14, .int k)] ∧ cc = [Chunk.box b 30 [.int v, Tr.raw (.slice ad k cap)], Chunk.own ad cap 1 3 rows, Chunk.strm 25 bs (intRows xs) m])
    ⟨_, _, _, Ent.trans (Ent.nil 1 3) (Ent.mkP goSub goPm), 0, [], [], none, 0, N + 1, rfl, ⟨by omega, intRows_nil.symm, by rw [intRows_nil]; rfl, rfl, by omega⟩, rfl, rfl⟩ ?_
  rintro _ _ _ ⟨k, _, l, ad, cap, m, rfl, ⟨hk, rfl, hrl, hll, hm⟩, rfl, rfl⟩
  by_cases hkn : k < n
  · repeat' (first | refine goH ?_ | refine goV ?_ | refine goB (fun b => ?_) | refine goC (fun ad cap => ?_) | refine goG ?_ | (refine Ops.k_guard ?_; first | (refine Ops.guard_dec rfl rfl (fun hc => ?_) (fun hc => ?_) <;> try (exfalso; omega)) | refine Ops.guard_split rfl rfl (fun hc => ?_) (fun hc => ?_)) | refine goI ?_ | (refine Cw.k_cond ?_; first | (refine Cw.cond_dec rfl (fun hc => ?_) (fun hc => ?_) <;> try (exfalso; omega)) | refine Cw.cond_bool rfl (fun hc => ?_) (fun hc => ?_)) | fail)
    first | refine Cw.region_YP (fun ξ S => Chunk.strm 25 bs (intRows xs) (m + b2n (S 7)) :: Chunk.box b3 27 [.int c, .int t, .int f] :: Chunk.box b4 30 (List.map Tr.raw [.int .i64 0, .slice none 0 0]) :: Chunk.box b 30 [.int v, stg (S 11) (Tr.raw (.slice ad k cap)) (Tr.raw (.slice (vAd (ξ 9)) (k + 1) (vCap (ξ 9))))] :: stg (S 9) (Chunk.own ad cap 1 3 (intRows l)) (ownV (ξ 9) 1 3 (intRows l ++ [[.int (vInt (ξ 7))]])) :: []) rfl (by decide +kernel) rfl ((fun (ξ : Nat → Value) (S : Nat → Bool) => Chunk.strm 25 bs (intRows xs) (m + b2n (S 7)) :: Chunk.box b3 27 [.int c, .int t, .int f] :: Chunk.box b4 30 (List.map Tr.raw [.int .i64 0, .slice none 0 0]) :: Chunk.box b 30 [.int v, stg (S 11) (Tr.raw (.slice ad k cap)) (Tr.raw (.slice (vAd (ξ 9)) (k + 1) (vCap (ξ 9))))] :: stg (S 9) (Chunk.own ad cap 1 3 (intRows l)) (ownV (ξ 9) 1 3 (intRows l ++ [[.int (vInt (ξ 7))]])) :: []) (fun _ => undef) (fun _ => false)) (by simp only [upd_same, updD_same, upd_ne, updD_ne, ne_eq, Nat.reduceEqDiff, not_false_eq_true, stg_t, stg_f, vAd_s, vCap_s, blk_p, List.cons_append, List.nil_append, b2n_t, b2n_f]; exact goXm) (fun _ => rfl) ?_ | fail
    apply YSeq.w (by intro _ _ _; rfl)
    · intro ξ S h1 h2 h3 h4
      have hN0_1 := closed_false h1 h3 (k := 1) rfl (by decide)
      have hN0_9 := closed_false hN0_1 h3 (k := 9) rfl (by decide)
      have hN0_11 := closed_false h1 h3 (k := 11) rfl (by decide)
      try simp only [upd_same, updD_same, upd_ne, updD_ne, ne_eq, Nat.reduceEqDiff, not_false_eq_true, stg_t, stg_f, vAd_s, vCap_s, blk_p, List.cons_append, List.nil_append, b2n_t, b2n_f, hN0_9, hN0_11]
      exact goW
    · intro ξ v; rfl
    · intro ξ k v S h3 hn hk
      first
      | rfl
    apply YSeq.w (by intro _ _ _; rfl)
    · intro ξ S h1 h2 h3 h4
      have hN1_9 := closed_false h1 h3 (k := 9) rfl (by decide)
      have hN1_11 := closed_false h1 h3 (k := 11) rfl (by decide)
      try simp only [upd_same, updD_same, upd_ne, updD_ne, ne_eq, Nat.reduceEqDiff, not_false_eq_true, stg_t, stg_f, vAd_s, vCap_s, blk_p, List.cons_append, List.nil_append, b2n_t, b2n_f, hN1_9, hN1_11]
      exact goW
    · intro ξ v; rfl
    · intro ξ k v S h3 hn hk
      first
      | rfl
    apply YSeq.w (by intro _ _ _; rfl)
    · intro ξ S h1 h2 h3 h4
      have hN2_7 := closed_false h1 h3 (k := 7) rfl (by decide)
      have hN2_9 := closed_false hN2_7 h3 (k := 9) rfl (by decide)
      have hN2_11 := closed_false h1 h3 (k := 11) rfl (by decide)
      try simp only [upd_same, updD_same, upd_ne, updD_ne, ne_eq, Nat.reduceEqDiff, not_false_eq_true, stg_t, stg_f, vAd_s, vCap_s, blk_p, List.cons_append, List.nil_append, b2n_t, b2n_f, hN2_7, hN2_9, hN2_11]
      exact goW
    · intro ξ v; rfl
    · intro ξ k v S h3 hn hk
      first
      | rfl
    apply YSeq.w (by intro _ _ _; rfl)
    · intro ξ S h1 h2 h3 h4
      have hN3_4 := closed_false h1 h3 (k := 4) rfl (by decide)
      have hN3_5 := closed_false hN3_4 h3 (k := 5) rfl (by decide)
      have hN3_6 := closed_false hN3_5 h3 (k := 6) rfl (by decide)
      have hN3_7 := closed_false hN3_6 h3 (k := 7) rfl (by decide)
      have hN3_9 := closed_false hN3_7 h3 (k := 9) rfl (by decide)
      have hN3_11 := closed_false h1 h3 (k := 11) rfl (by decide)
      try simp only [upd_same, updD_same, upd_ne, updD_ne, ne_eq, Nat.reduceEqDiff, not_false_eq_true, stg_t, stg_f, vAd_s, vCap_s, blk_p, List.cons_append, List.nil_append, b2n_t, b2n_f, hN3_7, hN3_9, hN3_11]
      exact goW
    · intro ξ v; rfl
    · intro ξ k v S h3 hn hk
      first
      | rfl
    apply YSeq.w (by intro _ _ _; rfl)
    · intro ξ S h1 h2 h3 h4
      have hN4_5 := closed_false h1 h3 (k := 5) rfl (by decide)
      have hN4_6 := closed_false hN4_5 h3 (k := 6) rfl (by decide)
      have hN4_7 := closed_false hN4_6 h3 (k := 7) rfl (by decide)
      have hN4_9 := closed_false hN4_7 h3 (k := 9) rfl (by decide)
      have hN4_11 := closed_false h1 h3 (k := 11) rfl (by decide)
      try simp only [upd_same, updD_same, upd_ne, updD_ne, ne_eq, Nat.reduceEqDiff, not_false_eq_true, stg_t, stg_f, vAd_s, vCap_s, blk_p, List.cons_append, List.nil_append, b2n_t, b2n_f, hN4_7, hN4_9, hN4_11]
      exact goW
    · intro ξ v; rfl
    · intro ξ k v S h3 hn hk
      first
      | rfl
    apply YSeq.w (by intro _ _ _; rfl)
    · intro ξ S h1 h2 h3 h4
      have hN5_6 := closed_false h1 h3 (k := 6) rfl (by decide)
      have hN5_7 := closed_false hN5_6 h3 (k := 7) rfl (by decide)
      have hN5_9 := closed_false hN5_7 h3 (k := 9) rfl (by decide)
      have hN5_11 := closed_false h1 h3 (k := 11) rfl (by decide)
      try simp only [upd_same, updD_same, upd_ne, updD_ne, ne_eq, Nat.reduceEqDiff, not_false_eq_true, stg_t, stg_f, vAd_s, vCap_s, blk_p, List.cons_append, List.nil_append, b2n_t, b2n_f, hN5_7, hN5_9, hN5_11]
      exact goW
    · intro ξ v; rfl
    · intro ξ k v S h3 hn hk
      first
      | rfl
    apply YSeq.w (by intro _ _ _; rfl)
    · intro ξ S h1 h2 h3 h4
      have hN6_7 := closed_false h1 h3 (k := 7) rfl (by decide)
      have hN6_9 := closed_false hN6_7 h3 (k := 9) rfl (by decide)
      have hN6_11 := closed_false h1 h3 (k := 11) rfl (by decide)
      try simp only [upd_same, updD_same, upd_ne, updD_ne, ne_eq, Nat.reduceEqDiff, not_false_eq_true, stg_t, stg_f, vAd_s, vCap_s, blk_p, List.cons_append, List.nil_append, b2n_t, b2n_f, hN6_7, hN6_9, hN6_11]
      exact goW
    · intro ξ v; rfl
    · intro ξ k v S h3 hn hk
      first
      | rfl
    apply YSeq.callI (next_gen (max (min t 1000) 1) (by omega)) (fun _ => (Evs.cons rfl (Evs.cons rfl Evs.nil)))
    · intro ξ S h1 h3
      have hN7_9 := closed_false h1 h3 (k := 9) rfl (by decide)
      have hN7_11 := closed_false h1 h3 (k := 11) rfl (by decide)
      have hq7 := b2n_le (S 7)
      simp only [upd_same, updD_same, upd_ne, updD_ne, ne_eq, Nat.reduceEqDiff, not_false_eq_true, stg_t, stg_f, vAd_s, vCap_s, blk_p, List.cons_append, List.nil_append, b2n_t, b2n_f, h1, hN7_9, hN7_11]
      refine ⟨_, _, ?_, goXp, fun v => ?_⟩
      · omega
      · refine List.Perm.trans goXp (perm_strm ?_)
        omega
    apply YSeq.w (by intro _ _ _; rfl)
    · intro ξ S h1 h2 h3 h4
      have hY8_7 : S 7 = true := h2 7 (by decide)
      have hN8_9 := closed_false h1 h3 (k := 9) rfl (by decide)
      have hN8_11 := closed_false h1 h3 (k := 11) rfl (by decide)
      have hR23 := pf_int (next_gen (max (min t 1000) 1) (by omega)) (h4 7 hY8_7)
      try simp only [InRange] at hR23
      have hRn23 := hR23
      try simp only [Nat.zero_add, Nat.reduceAdd] at hRn23
      try simp only [upd_same, updD_same, upd_ne, updD_ne, ne_eq, Nat.reduceEqDiff, not_false_eq_true, stg_t, stg_f, vAd_s, vCap_s, blk_p, List.cons_append, List.nil_append, b2n_t, b2n_f, hY8_7, hN8_9, hN8_11]
      exact goW
    · intro ξ v; rfl
    · intro ξ k v S h3 hn hk
      first
      | rfl
      | skip
        have hY8_7 : S 7 = true := h3 8 _ rfl hn 7 (by decide)
        simp only [upd_S hY8_7 hk]
    apply YSeq.append (k + 1)
    · intro ξ S h1 h2 h3 h4
      have hY9_7 : S 7 = true := h2 7 (by decide)
      have hN9_11 := closed_false h1 h3 (k := 11) rfl (by decide)
      have hR23 := pf_int (next_gen (max (min t 1000) 1) (by omega)) (h4 7 hY9_7)
      try simp only [InRange] at hR23
      have hRn23 := hR23
      try simp only [Nat.zero_add, Nat.reduceAdd] at hRn23
      simp only [upd_same, updD_same, upd_ne, updD_ne, ne_eq, Nat.reduceEqDiff, not_false_eq_true, stg_t, stg_f, vAd_s, vCap_s, blk_p, List.cons_append, List.nil_append, b2n_t, b2n_f, hY9_7, h1, hN9_11]
      refine ⟨_, _, _, _, _, _, rfl, rfl, goXp, (by first | rfl | (simp; done) | omega), (by first | rfl | omega | (simp; done) | (simp; omega)), (by first | omega | (simp; done) | (simp; omega)), (by first | omega | (simp; done) | (simp; omega)), fun ad' cap' => ?_⟩
      exact goXm
    apply YSeq.w (by intro _ _ _; rfl)
    · intro ξ S h1 h2 h3 h4
      have hY10_7 : S 7 = true := h2 7 (by decide)
      have hY10_9 : S 9 = true := h2 9 (by decide)
      have hN10_11 := closed_false h1 h3 (k := 11) rfl (by decide)
      have hR23 := pf_int (next_gen (max (min t 1000) 1) (by omega)) (h4 7 hY10_7)
      try simp only [InRange] at hR23
      have hRn23 := hR23
      try simp only [Nat.zero_add, Nat.reduceAdd] at hRn23
      try simp only [upd_same, updD_same, upd_ne, updD_ne, ne_eq, Nat.reduceEqDiff, not_false_eq_true, stg_t, stg_f, vAd_s, vCap_s, blk_p, List.cons_append, List.nil_append, b2n_t, b2n_f, hY10_7, hY10_9, hN10_11]
      exact goW
    · intro ξ v; rfl
    · intro ξ k v S h3 hn hk
      first
      | rfl
      | skip
        have hY10_7 : S 7 = true := h3 10 _ rfl hn 7 (by decide)
        have hY10_9 : S 9 = true := h3 10 _ rfl hn 9 (by decide)
        simp only [upd_S hY10_7 hk, upd_S hY10_9 hk]
    apply YSeq.store
    · intro ξ S h1 h2 h3 h4
      have hY11_7 : S 7 = true := h2 7 (by decide)
      have hY11_9 : S 9 = true := h2 9 (by decide)
      have hR23 := pf_int (next_gen (max (min t 1000) 1) (by omega)) (h4 7 hY11_7)
      try simp only [InRange] at hR23
      have hRn23 := hR23
      try simp only [Nat.zero_add, Nat.reduceAdd] at hRn23
      simp only [upd_same, updD_same, upd_ne, updD_ne, ne_eq, Nat.reduceEqDiff, not_false_eq_true, stg_t, stg_f, vAd_s, vCap_s, blk_p, List.cons_append, List.nil_append, b2n_t, b2n_f, hY11_7, hY11_9, h1]
      refine ⟨_, _, _, _, _, _, _, rfl, rfl, inferInstance, goXp, rfl, Nat.le_of_ble_eq_true rfl, ?_⟩
      exact goXm
    refine YSeq.nil fun ξ hf => ?_
    have hR23 := pf_int (next_gen (max (min t 1000) 1) (by omega)) (hf 7)
    try simp only [InRange] at hR23
    refine ⟨[(0, _), (3, _), (4, _), (5, _), (13, _), (14, _)], _, Ent.trans (Ent.eqc rfl (by simp only [upd_same, updD_same, upd_ne, updD_ne, ne_eq, Nat.reduceEqDiff, not_false_eq_true, stg_t, stg_f, vAd_s, vCap_s, blk_p, List.cons_append, List.nil_append, b2n_t, b2n_f, ownV, slV, ptV] <;> rfl)) (Ent.sub goSub), ?_⟩
    clear hf
    generalize vInt (ξ 7) = x23 at hR23 ⊢
    generalize vAd (ξ 9) = ad25
    generalize vCap (ξ 9) = cap25
    rw [intRows_snoc]
    repeat' (first | refine goH ?_ | refine goV ?_ | refine goB (fun b => ?_) | refine goC (fun ad cap => ?_) | refine goG ?_ | (refine Ops.k_guard ?_; first | (refine Ops.guard_dec rfl rfl (fun hc => ?_) (fun hc => ?_) <;> try (exfalso; omega)) | refine Ops.guard_split rfl rfl (fun hc => ?_) (fun hc => ?_)) | refine goI ?_ | (refine Cw.k_cond ?_; first | (refine Cw.cond_dec rfl (fun hc => ?_) (fun hc => ?_) <;> try (exfalso; omega)) | refine Cw.cond_bool rfl (fun hc => ?_) (fun hc => ?_)) | refine goR ?_ | refine goP ?_ | apply PSeq.cons | apply PSeq.yes rfl rfl rfl | exact goW | fail)
    exact ⟨_, _, _, (Ent.mk goSub goTk), ⟨k + 1, _, l ++ [x23], _, _, _, rfl, ⟨by omega, rfl, by rw [intRows_len]; simp [hll], by simp [hll], by omega⟩, rfl, rfl⟩, by omega⟩
  have hkn2 : k = n := by omega
  subst hkn2
  repeat' (first | refine goH ?_ | refine goV ?_ | refine goB (fun b => ?_) | refine goC (fun ad cap => ?_) | refine goG ?_ | (refine Ops.k_guard ?_; first | (refine Ops.guard_dec rfl rfl (fun hc => ?_) (fun hc => ?_) <;> try (exfalso; omega)) | refine Ops.guard_split rfl rfl (fun hc => ?_) (fun hc => ?_)) | refine goI ?_ | (refine Cw.k_cond ?_; first | (refine Cw.cond_dec rfl (fun hc => ?_) (fun hc => ?_) <;> try (exfalso; omega)) | refine Cw.cond_bool rfl (fun hc => ?_) (fun hc => ?_)) | (refine Ops.k_calla ?_; first | (refine Ops.k_callf 25 ?_; (refine Ops.callG (flip_gen _ (by omega)) (Evs.cons rfl (Evs.cons rfl Evs.nil)) goPk (by omega) rfl ?_; rintro r ⟨u, rfl⟩)) | (refine Ops.k_callf 35 ?_; (refine Ops.callG (pick_gen (by repeat' (first | exact IsInts.nil | apply IsInts.cons)) (by simp)) (Evs.cons rfl (Evs.cons rfl Evs.nil)) goPk (by omega) rfl ?_; rintro r ⟨w, rfl, hx⟩; have hxbw : -1000000000000 ≤ w ∧ w ≤ 1000000000000 := (by simp at hx; omega); have hatw : w ∈ atL := (by simp [atL] at hx ⊢; omega); clear hx))) | fail)
  · first | refine Cw.region_YP (fun ξ S => Chunk.strm 25 bs (intRows xs) (m + 1 + 1 + 1 + b2n (S 4)) :: Chunk.box b3 27 [.int c, .int t, .int f] :: Chunk.box b4 30 (List.map Tr.raw [.int .i64 0, .slice none 0 0]) :: Chunk.box b 30 [.int w, stg (S 8) (Tr.raw (.slice ad k cap)) (Tr.raw (.slice (vAd (ξ 6)) (k + 1) (vCap (ξ 6))))] :: stg (S 6) (Chunk.own ad cap 1 3 (intRows l)) (ownV (ξ 6) 1 3 (intRows l ++ [[.int (vInt (ξ 4))]])) :: []) rfl (by decide +kernel) rfl ((fun (ξ : Nat → Value) (S : Nat → Bool) => Chunk.strm 25 bs (intRows xs) (m + 1 + 1 + 1 + b2n (S 4)) :: Chunk.box b3 27 [.int c, .int t, .int f] :: Chunk.box b4 30 (List.map Tr.raw [.int .i64 0, .slice none 0 0]) :: Chunk.box b 30 [.int w, stg (S 8) (Tr.raw (.slice ad k cap)) (Tr.raw (.slice (vAd (ξ 6)) (k + 1) (vCap (ξ 6))))] :: stg (S 6) (Chunk.own ad cap 1 3 (intRows l)) (ownV (ξ 6) 1 3 (intRows l ++ [[.int (vInt (ξ 4))]])) :: []) (fun _ => undef) (fun _ => false)) (by simp only [upd_same, updD_same, upd_ne, updD_ne, ne_eq, Nat.reduceEqDiff, not_false_eq_true, stg_t, stg_f, vAd_s, vCap_s, blk_p, List.cons_append, List.nil_append, b2n_t, b2n_f]; exact goXm) (fun _ => rfl) ?_ | fail
    apply YSeq.w (by intro _ _ _; rfl)
    · intro ξ S h1 h2 h3 h4
      have hN0_1 := closed_false h1 h3 (k := 1) rfl (by decide)
      have hN0_6 := closed_false hN0_1 h3 (k := 6) rfl (by decide)
      have hN0_8 := closed_false h1 h3 (k := 8) rfl (by decide)
      try simp only [upd_same, updD_same, upd_ne, updD_ne, ne_eq, Nat.reduceEqDiff, not_false_eq_true, stg_t, stg_f, vAd_s, vCap_s, blk_p, List.cons_append, List.nil_append, b2n_t, b2n_f, hN0_6, hN0_8]
      exact goW
    · intro ξ v; rfl
    · intro ξ k v S h3 hn hk
      first
      | rfl
    apply YSeq.w (by intro _ _ _; rfl)
    · intro ξ S h1 h2 h3 h4
      have hN1_6 := closed_false h1 h3 (k := 6) rfl (by decide)
      have hN1_8 := closed_false h1 h3 (k := 8) rfl (by decide)
      try simp only [upd_same, updD_same, upd_ne, updD_ne, ne_eq, Nat.reduceEqDiff, not_false_eq_true, stg_t, stg_f, vAd_s, vCap_s, blk_p, List.cons_append, List.nil_append, b2n_t, b2n_f, hN1_6, hN1_8]
      exact goW
    · intro ξ v; rfl
    · intro ξ k v S h3 hn hk
      first
      | rfl
    apply YSeq.w (by intro _ _ _; rfl)
    · intro ξ S h1 h2 h3 h4
      have hN2_4 := closed_false h1 h3 (k := 4) rfl (by decide)
      have hN2_6 := closed_false hN2_4 h3 (k := 6) rfl (by decide)
      have hN2_8 := closed_false h1 h3 (k := 8) rfl (by decide)
      try simp only [upd_same, updD_same, upd_ne, updD_ne, ne_eq, Nat.reduceEqDiff, not_false_eq_true, stg_t, stg_f, vAd_s, vCap_s, blk_p, List.cons_append, List.nil_append, b2n_t, b2n_f, hN2_4, hN2_6, hN2_8]
      exact goW
    · intro ξ v; rfl
    · intro ξ k v S h3 hn hk
      first
      | rfl
    apply YSeq.w (by intro _ _ _; rfl)
    · intro ξ S h1 h2 h3 h4
      have hN3_4 := closed_false h1 h3 (k := 4) rfl (by decide)
      have hN3_6 := closed_false hN3_4 h3 (k := 6) rfl (by decide)
      have hN3_8 := closed_false h1 h3 (k := 8) rfl (by decide)
      try simp only [upd_same, updD_same, upd_ne, updD_ne, ne_eq, Nat.reduceEqDiff, not_false_eq_true, stg_t, stg_f, vAd_s, vCap_s, blk_p, List.cons_append, List.nil_append, b2n_t, b2n_f, hN3_4, hN3_6, hN3_8]
      exact goW
    · intro ξ v; rfl
    · intro ξ k v S h3 hn hk
      first
      | rfl
    apply YSeq.callI (pick_gen (l := [0, -1]) (by repeat' (first | exact IsInts.nil | apply IsInts.cons)) (by simp)) (fun _ => (Evs.cons rfl (Evs.cons rfl Evs.nil)))
    · intro ξ S h1 h3
      have hN4_6 := closed_false h1 h3 (k := 6) rfl (by decide)
      have hN4_8 := closed_false h1 h3 (k := 8) rfl (by decide)
      have hq4 := b2n_le (S 4)
      simp only [upd_same, updD_same, upd_ne, updD_ne, ne_eq, Nat.reduceEqDiff, not_false_eq_true, stg_t, stg_f, vAd_s, vCap_s, blk_p, List.cons_append, List.nil_append, b2n_t, b2n_f, h1, hN4_6, hN4_8]
      refine ⟨_, _, ?_, goXp, fun v => ?_⟩
      · omega
      · refine List.Perm.trans goXp (perm_strm ?_)
        omega
    apply YSeq.w (by intro _ _ _; rfl)
    · intro ξ S h1 h2 h3 h4
      have hY5_4 : S 4 = true := h2 4 (by decide)
      have hN5_6 := closed_false h1 h3 (k := 6) rfl (by decide)
      have hN5_8 := closed_false h1 h3 (k := 8) rfl (by decide)
      have hR40 := pf_int (pick_gen (l := [0, -1]) (by repeat' (first | exact IsInts.nil | apply IsInts.cons)) (by simp)) (h4 4 hY5_4)
      try simp only [InRange] at hR40
      have hRn40 := hR40
      try simp only [Nat.zero_add, Nat.reduceAdd] at hRn40
      try simp only [upd_same, updD_same, upd_ne, updD_ne, ne_eq, Nat.reduceEqDiff, not_false_eq_true, stg_t, stg_f, vAd_s, vCap_s, blk_p, List.cons_append, List.nil_append, b2n_t, b2n_f, hY5_4, hN5_6, hN5_8]
      exact goW
    · intro ξ v; rfl
    · intro ξ k v S h3 hn hk
      first
      | rfl
      | skip
        have hY5_4 : S 4 = true := h3 5 _ rfl hn 4 (by decide)
        simp only [upd_S hY5_4 hk]
    apply YSeq.append (k + 1)
    · intro ξ S h1 h2 h3 h4
      have hY6_4 : S 4 = true := h2 4 (by decide)
      have hN6_8 := closed_false h1 h3 (k := 8) rfl (by decide)
      have hR40 := pf_int (pick_gen (l := [0, -1]) (by repeat' (first | exact IsInts.nil | apply IsInts.cons)) (by simp)) (h4 4 hY6_4)
      try simp only [InRange] at hR40
      have hRn40 := hR40
      try simp only [Nat.zero_add, Nat.reduceAdd] at hRn40
      simp only [upd_same, updD_same, upd_ne, updD_ne, ne_eq, Nat.reduceEqDiff, not_false_eq_true, stg_t, stg_f, vAd_s, vCap_s, blk_p, List.cons_append, List.nil_append, b2n_t, b2n_f, hY6_4, h1, hN6_8]
      refine ⟨_, _, _, _, _, _, rfl, rfl, goXp, (by first | rfl | (simp; done) | omega), (by first | rfl | omega | (simp; done) | (simp; omega)), (by first | omega | (simp; done) | (simp; omega)), (by first | omega | (simp; done) | (simp; omega)), fun ad' cap' => ?_⟩
      exact goXm
    apply YSeq.w (by intro _ _ _; rfl)
    · intro ξ S h1 h2 h3 h4
      have hY7_4 : S 4 = true := h2 4 (by decide)
      have hY7_6 : S 6 = true := h2 6 (by decide)
      have hN7_8 := closed_false h1 h3 (k := 8) rfl (by decide)
      have hR40 := pf_int (pick_gen (l := [0, -1]) (by repeat' (first | exact IsInts.nil | apply IsInts.cons)) (by simp)) (h4 4 hY7_4)
      try simp only [InRange] at hR40
      have hRn40 := hR40
      try simp only [Nat.zero_add, Nat.reduceAdd] at hRn40
      try simp only [upd_same, updD_same, upd_ne, updD_ne, ne_eq, Nat.reduceEqDiff, not_false_eq_true, stg_t, stg_f, vAd_s, vCap_s, blk_p, List.cons_append, List.nil_append, b2n_t, b2n_f, hY7_4, hY7_6, hN7_8]
      exact goW
    · intro ξ v; rfl
    · intro ξ k v S h3 hn hk
      first
      | rfl
      | skip
        have hY7_4 : S 4 = true := h3 7 _ rfl hn 4 (by decide)
        have hY7_6 : S 6 = true := h3 7 _ rfl hn 6 (by decide)
        simp only [upd_S hY7_4 hk, upd_S hY7_6 hk]
    apply YSeq.store
    · intro ξ S h1 h2 h3 h4
      have hY8_4 : S 4 = true := h2 4 (by decide)
      have hY8_6 : S 6 = true := h2 6 (by decide)
      have hR40 := pf_int (pick_gen (l := [0, -1]) (by repeat' (first | exact IsInts.nil | apply IsInts.cons)) (by simp)) (h4 4 hY8_4)
      try simp only [InRange] at hR40
      have hRn40 := hR40
      try simp only [Nat.zero_add, Nat.reduceAdd] at hRn40
      simp only [upd_same, updD_same, upd_ne, updD_ne, ne_eq, Nat.reduceEqDiff, not_false_eq_true, stg_t, stg_f, vAd_s, vCap_s, blk_p, List.cons_append, List.nil_append, b2n_t, b2n_f, hY8_4, hY8_6, h1]
      refine ⟨_, _, _, _, _, _, _, rfl, rfl, inferInstance, goXp, rfl, Nat.le_of_ble_eq_true rfl, ?_⟩
      exact goXm
    refine YSeq.nil fun ξ hf => ?_
    have hR40 := pf_int (pick_gen (l := [0, -1]) (by repeat' (first | exact IsInts.nil | apply IsInts.cons)) (by simp)) (hf 4)
    try simp only [InRange] at hR40
    refine ⟨[(0, _), (3, _), (4, _), (5, _)], _, Ent.trans (Ent.eqc rfl (by simp only [upd_same, updD_same, upd_ne, updD_ne, ne_eq, Nat.reduceEqDiff, not_false_eq_true, stg_t, stg_f, vAd_s, vCap_s, blk_p, List.cons_append, List.nil_append, b2n_t, b2n_f, ownV, slV, ptV] <;> rfl)) (Ent.sub goSub), ?_⟩
    clear hf
    generalize vInt (ξ 4) = x40 at hR40 ⊢
    generalize vAd (ξ 6) = ad42
    generalize vCap (ξ 6) = cap42
    rw [intRows_snoc]
    have hq2 : (intRows (l ++ [x40])).length = k + 1 := by rw [intRows_len, List.length_append, hll]; rfl
    obtain ⟨y, hy⟩ := at_lt (l := l ++ [x40]) (k := 0) (by simp)
    have r1 : (intRows (l ++ [x40]))[0]? = some [Tr.int y] := intRows_at hy
    clear hy
    repeat' (first | refine goH ?_ | refine goV ?_ | refine goB (fun b => ?_) | refine goC (fun ad cap => ?_) | refine goG ?_ | (refine Ops.k_guard ?_; first | (refine Ops.guard_dec rfl rfl (fun hc => ?_) (fun hc => ?_) <;> try (exfalso; omega)) | refine Ops.guard_split rfl rfl (fun hc => ?_) (fun hc => ?_)) | refine goI ?_ | (refine Cw.k_cond ?_; first | (refine Cw.cond_dec rfl (fun hc => ?_) (fun hc => ?_) <;> try (exfalso; omega)) | refine Cw.cond_bool rfl (fun hc => ?_) (fun hc => ?_)) | (refine Ops.k_calla ?_; first | (refine Ops.k_callf 25 ?_; (refine Ops.callG (flip_gen _ (by omega)) (Evs.cons rfl (Evs.cons rfl Evs.nil)) goPk (by omega) rfl ?_; rintro r ⟨u, rfl⟩))) | fail)
    · skip
      first | refine Cw.region_YP (fun ξ S => Chunk.strm 25 bs (intRows xs) (m + 1 + 1 + 1 + 1 + 1 + b2n (S 6)) :: Chunk.box b3 27 [.int c, .int t, .int f] :: Chunk.box b4 30 (List.map Tr.raw [.int .i64 0, .slice none 0 0]) :: Chunk.box b 30 [.int w, Tr.raw (.slice ad42 (k + 1) cap42)] :: Chunk.own ad42 cap42 1 3 (stg (S 8) (intRows (l ++ [x40])) ((intRows (l ++ [x40])).set 0 [.int (vInt (ξ 6))])) :: []) rfl (by decide +kernel) rfl ((fun (ξ : Nat → Value) (S : Nat → Bool) => Chunk.strm 25 bs (intRows xs) (m + 1 + 1 + 1 + 1 + 1 + b2n (S 6)) :: Chunk.box b3 27 [.int c, .int t, .int f] :: Chunk.box b4 30 (List.map Tr.raw [.int .i64 0, .slice none 0 0]) :: Chunk.box b 30 [.int w, Tr.raw (.slice ad42 (k + 1) cap42)] :: Chunk.own ad42 cap42 1 3 (stg (S 8) (intRows (l ++ [x40])) ((intRows (l ++ [x40])).set 0 [.int (vInt (ξ 6))])) :: []) (fun _ => undef) (fun _ => false)) (by simp only [upd_same, updD_same, upd_ne, updD_ne, ne_eq, Nat.reduceEqDiff, not_false_eq_true, stg_t, stg_f, vAd_s, vCap_s, blk_p, List.cons_append, List.nil_append, b2n_t, b2n_f]; exact goXm) (fun _ => rfl) ?_ | fail
      apply YSeq.w (by intro _ _ _; rfl)
      · intro ξ S h1 h2 h3 h4
        have hN0_8 := closed_false h1 h3 (k := 8) rfl (by decide)
        try simp only [upd_same, updD_same, upd_ne, updD_ne, ne_eq, Nat.reduceEqDiff, not_false_eq_true, stg_t, stg_f, vAd_s, vCap_s, blk_p, List.cons_append, List.nil_append, b2n_t, b2n_f, hN0_8]
        exact goW
      · intro ξ v; rfl
      · intro ξ k v S h3 hn hk
        first
        | rfl
      apply YSeq.w (by intro _ _ _; rfl)
      · intro ξ S h1 h2 h3 h4
        have hN1_8 := closed_false h1 h3 (k := 8) rfl (by decide)
        try simp only [upd_same, updD_same, upd_ne, updD_ne, ne_eq, Nat.reduceEqDiff, not_false_eq_true, stg_t, stg_f, vAd_s, vCap_s, blk_p, List.cons_append, List.nil_append, b2n_t, b2n_f, hN1_8]
        exact goW
      · intro ξ v; rfl
      · intro ξ k v S h3 hn hk
        first
        | rfl
      apply YSeq.w (by intro _ _ _; rfl)
      · intro ξ S h1 h2 h3 h4
        have hN2_6 := closed_false h1 h3 (k := 6) rfl (by decide)
        have hN2_8 := closed_false h1 h3 (k := 8) rfl (by decide)
        try simp only [upd_same, updD_same, upd_ne, updD_ne, ne_eq, Nat.reduceEqDiff, not_false_eq_true, stg_t, stg_f, vAd_s, vCap_s, blk_p, List.cons_append, List.nil_append, b2n_t, b2n_f, hN2_6, hN2_8]
        exact goW
      · intro ξ v; rfl
      · intro ξ k v S h3 hn hk
        first
        | rfl
      apply YSeq.w (by intro _ _ _; rfl)
      · intro ξ S h1 h2 h3 h4
        have hN3_4 := closed_false h1 h3 (k := 4) rfl (by decide)
        have hN3_5 := closed_false hN3_4 h3 (k := 5) rfl (by decide)
        have hN3_6 := closed_false hN3_5 h3 (k := 6) rfl (by decide)
        have hN3_8 := closed_false h1 h3 (k := 8) rfl (by decide)
        try simp only [upd_same, updD_same, upd_ne, updD_ne, ne_eq, Nat.reduceEqDiff, not_false_eq_true, stg_t, stg_f, vAd_s, vCap_s, blk_p, List.cons_append, List.nil_append, b2n_t, b2n_f, hN3_6, hN3_8]
        exact goW
      · intro ξ v; rfl
      · intro ξ k v S h3 hn hk
        first
        | rfl
      apply YSeq.w (by intro _ _ _; rfl)
      · intro ξ S h1 h2 h3 h4
        have hN4_5 := closed_false h1 h3 (k := 5) rfl (by decide)
        have hN4_6 := closed_false hN4_5 h3 (k := 6) rfl (by decide)
        have hN4_8 := closed_false h1 h3 (k := 8) rfl (by decide)
        try simp only [upd_same, updD_same, upd_ne, updD_ne, ne_eq, Nat.reduceEqDiff, not_false_eq_true, stg_t, stg_f, vAd_s, vCap_s, blk_p, List.cons_append, List.nil_append, b2n_t, b2n_f, hN4_6, hN4_8]
        exact goW
      · intro ξ v; rfl
      · intro ξ k v S h3 hn hk
        first
        | rfl
      apply YSeq.w (by intro _ _ _; rfl)
      · intro ξ S h1 h2 h3 h4
        have hN5_6 := closed_false h1 h3 (k := 6) rfl (by decide)
        have hN5_8 := closed_false h1 h3 (k := 8) rfl (by decide)
        try simp only [upd_same, updD_same, upd_ne, updD_ne, ne_eq, Nat.reduceEqDiff, not_false_eq_true, stg_t, stg_f, vAd_s, vCap_s, blk_p, List.cons_append, List.nil_append, b2n_t, b2n_f, hN5_6, hN5_8]
        exact goW
      · intro ξ v; rfl
      · intro ξ k v S h3 hn hk
        first
        | rfl
      apply YSeq.callI (pick_gen (l := [-1, t, 999999, 1000000]) (by repeat' (first | exact IsInts.nil | apply IsInts.cons)) (by simp)) (fun _ => (Evs.cons rfl (Evs.cons rfl Evs.nil)))
      · intro ξ S h1 h3
        have hN6_8 := closed_false h1 h3 (k := 8) rfl (by decide)
        have hq6 := b2n_le (S 6)
        simp only [upd_same, updD_same, upd_ne, updD_ne, ne_eq, Nat.reduceEqDiff, not_false_eq_true, stg_t, stg_f, vAd_s, vCap_s, blk_p, List.cons_append, List.nil_append, b2n_t, b2n_f, h1, hN6_8]
        refine ⟨_, _, ?_, goXp, fun v => ?_⟩
        · omega
        · refine List.Perm.trans goXp (perm_strm ?_)
          omega
      apply YSeq.w (by intro _ _ _; rfl)
      · intro ξ S h1 h2 h3 h4
        have hY7_6 : S 6 = true := h2 6 (by decide)
        have hN7_8 := closed_false h1 h3 (k := 8) rfl (by decide)
        have hR58 := pf_int (pick_gen (l := [-1, t, 999999, 1000000]) (by repeat' (first | exact IsInts.nil | apply IsInts.cons)) (by simp)) (h4 6 hY7_6)
        try simp only [InRange] at hR58
        have hRn58 := hR58
        try simp only [Nat.zero_add, Nat.reduceAdd] at hRn58
        try simp only [upd_same, updD_same, upd_ne, updD_ne, ne_eq, Nat.reduceEqDiff, not_false_eq_true, stg_t, stg_f, vAd_s, vCap_s, blk_p, List.cons_append, List.nil_append, b2n_t, b2n_f, hY7_6, hN7_8]
        exact goW
      · intro ξ v; rfl
      · intro ξ k v S h3 hn hk
        first
        | rfl
        | skip
          have hY7_6 : S 6 = true := h3 7 _ rfl hn 6 (by decide)
          simp only [upd_S hY7_6 hk]
      apply YSeq.storeO
      · intro ξ S h1 h2 h3 h4
        have hY8_6 : S 6 = true := h2 6 (by decide)
        have hR58 := pf_int (pick_gen (l := [-1, t, 999999, 1000000]) (by repeat' (first | exact IsInts.nil | apply IsInts.cons)) (by simp)) (h4 6 hY8_6)
        try simp only [InRange] at hR58
        have hRn58 := hR58
        try simp only [Nat.zero_add, Nat.reduceAdd] at hRn58
        simp only [upd_same, updD_same, upd_ne, updD_ne, ne_eq, Nat.reduceEqDiff, not_false_eq_true, stg_t, stg_f, vAd_s, vCap_s, blk_p, List.cons_append, List.nil_append, b2n_t, b2n_f, hY8_6, h1]
        refine ⟨_, _, _, _, _, _, _, _, _, _, rfl, rfl, inferInstance, goXp, (by first | rfl | assumption | (simp [*]; done)), (by decide), ?_⟩
        exact goXm
      refine YSeq.nil fun ξ hf => ?_
      have hR58 := pf_int (pick_gen (l := [-1, t, 999999, 1000000]) (by repeat' (first | exact IsInts.nil | apply IsInts.cons)) (by simp)) (hf 6)
      try simp only [InRange] at hR58
      refine ⟨[(0, _), (4, _), (5, _)], _, Ent.trans (Ent.eqc rfl (by simp only [upd_same, updD_same, upd_ne, updD_ne, ne_eq, Nat.reduceEqDiff, not_false_eq_true, stg_t, stg_f, vAd_s, vCap_s, blk_p, List.cons_append, List.nil_append, b2n_t, b2n_f, ownV, slV, ptV] <;> rfl)) (Ent.sub goSub), ?_⟩
      clear hf
      generalize vInt (ξ 6) = x58 at hR58 ⊢
      repeat' (first | refine goH ?_ | refine goV ?_ | refine goB (fun b => ?_) | refine goC (fun ad cap => ?_) | refine goG ?_ | (refine Ops.k_guard ?_; first | (refine Ops.guard_dec rfl rfl (fun hc => ?_) (fun hc => ?_) <;> try (exfalso; omega)) | refine Ops.guard_split rfl rfl (fun hc => ?_) (fun hc => ?_)) | refine goI ?_ | (refine Cw.k_cond ?_; first | (refine Cw.cond_dec rfl (fun hc => ?_) (fun hc => ?_) <;> try (exfalso; omega)) | refine Cw.cond_bool rfl (fun hc => ?_) (fun hc => ?_)) | refine goR ?_ | refine goP ?_ | apply PSeq.cons | apply PSeq.yes rfl rfl rfl | exact goW | fail)
      erw [int_set]
      have hq3 : (intRows ((l ++ [x40]).set 0 x58)).length = (k + 1) := by rw [intRows_len, List.length_set, ← intRows_len, hq2]
      refine Fin.ent (Ent.settle_box (b := b4) (i := 1) (ad := ad42) (kk := 1) (rows := intRows ((l ++ [x40]).set 0 x58)) (by exact Perm.cons' goPk (Perm.cons' goPk (List.Perm.refl _))) rfl hq3.symm rfl) ?_
      refine Fin.ret (Ent.trans (Ent.setbox (s := 4) rfl goPk) (Ent.strm_only goPk (by omega))) (Outs.sole rfl goOe) ⟨rfl, ⟨w, ((l ++ [x40]).set 0 x58)⟩, rfl, by simp; omega, hatw⟩
    · skip
      refine Fin.ent (Ent.settle_box (b := b4) (i := 1) (ad := ad42) (kk := 1) (rows := intRows (l ++ [x40])) (by exact Perm.cons' goPk (Perm.cons' goPk (List.Perm.refl _))) rfl hq2.symm rfl) ?_
      refine Fin.ret (Ent.trans (Ent.setbox (s := 4) rfl goPk) (Ent.strm_only goPk (by omega))) (Outs.sole rfl goOe) ⟨rfl, ⟨w, (l ++ [x40])⟩, rfl, by simp; omega, hatw⟩
  · obtain ⟨y, hy⟩ := at_lt (l := l) (k := 0) (by omega)
    have r1 := intRows_at hy
    clear hy
    first | refine Cw.region_YP (fun ξ S => Chunk.strm 25 bs (intRows xs) (m + 1 + 1 + 1 + 1 + b2n (S 6)) :: Chunk.box b3 27 [.int c, .int t, .int f] :: Chunk.box b4 30 (List.map Tr.raw [.int .i64 0, .slice none 0 0]) :: Chunk.box b 30 [.int w, Tr.raw (.slice ad k cap)] :: Chunk.own ad cap 1 3 (stg (S 8) (intRows l) ((intRows l).set 0 [.int (vInt (ξ 6))])) :: []) rfl (by decide +kernel) rfl ((fun (ξ : Nat → Value) (S : Nat → Bool) => Chunk.strm 25 bs (intRows xs) (m + 1 + 1 + 1 + 1 + b2n (S 6)) :: Chunk.box b3 27 [.int c, .int t, .int f] :: Chunk.box b4 30 (List.map Tr.raw [.int .i64 0, .slice none 0 0]) :: Chunk.box b 30 [.int w, Tr.raw (.slice ad k cap)] :: Chunk.own ad cap 1 3 (stg (S 8) (intRows l) ((intRows l).set 0 [.int (vInt (ξ 6))])) :: []) (fun _ => undef) (fun _ => false)) (by simp only [upd_same, updD_same, upd_ne, updD_ne, ne_eq, Nat.reduceEqDiff, not_false_eq_true, stg_t, stg_f, vAd_s, vCap_s, blk_p, List.cons_append, List.nil_append, b2n_t, b2n_f]; exact goXm) (fun _ => rfl) ?_ | fail
    apply YSeq.w (by intro _ _ _; rfl)
    · intro ξ S h1 h2 h3 h4
      have hN0_8 := closed_false h1 h3 (k := 8) rfl (by decide)
      try simp only [upd_same, updD_same, upd_ne, updD_ne, ne_eq, Nat.reduceEqDiff, not_false_eq_true, stg_t, stg_f, vAd_s, vCap_s, blk_p, List.cons_append, List.nil_append, b2n_t, b2n_f, hN0_8]
      exact goW
    · intro ξ v; rfl
    · intro ξ k v S h3 hn hk
      first
      | rfl
    apply YSeq.w (by intro _ _ _; rfl)
    · intro ξ S h1 h2 h3 h4
      have hN1_8 := closed_false h1 h3 (k := 8) rfl (by decide)
      try simp only [upd_same, updD_same, upd_ne, updD_ne, ne_eq, Nat.reduceEqDiff, not_false_eq_true, stg_t, stg_f, vAd_s, vCap_s, blk_p, List.cons_append, List.nil_append, b2n_t, b2n_f, hN1_8]
      exact goW
    · intro ξ v; rfl
    · intro ξ k v S h3 hn hk
      first
      | rfl
    apply YSeq.w (by intro _ _ _; rfl)
    · intro ξ S h1 h2 h3 h4
      have hN2_6 := closed_false h1 h3 (k := 6) rfl (by decide)
      have hN2_8 := closed_false h1 h3 (k := 8) rfl (by decide)
      try simp only [upd_same, updD_same, upd_ne, updD_ne, ne_eq, Nat.reduceEqDiff, not_false_eq_true, stg_t, stg_f, vAd_s, vCap_s, blk_p, List.cons_append, List.nil_append, b2n_t, b2n_f, hN2_6, hN2_8]
      exact goW
    · intro ξ v; rfl
    · intro ξ k v S h3 hn hk
      first
      | rfl
    apply YSeq.w (by intro _ _ _; rfl)
    · intro ξ S h1 h2 h3 h4
      have hN3_4 := closed_false h1 h3 (k := 4) rfl (by decide)
      have hN3_5 := closed_false hN3_4 h3 (k := 5) rfl (by decide)
      have hN3_6 := closed_false hN3_5 h3 (k := 6) rfl (by decide)
      have hN3_8 := closed_false h1 h3 (k := 8) rfl (by decide)
      try simp only [upd_same, updD_same, upd_ne, updD_ne, ne_eq, Nat.reduceEqDiff, not_false_eq_true, stg_t, stg_f, vAd_s, vCap_s, blk_p, List.cons_append, List.nil_append, b2n_t, b2n_f, hN3_6, hN3_8]
      exact goW
    · intro ξ v; rfl
    · intro ξ k v S h3 hn hk
      first
      | rfl
    apply YSeq.w (by intro _ _ _; rfl)
    · intro ξ S h1 h2 h3 h4
      have hN4_5 := closed_false h1 h3 (k := 5) rfl (by decide)
      have hN4_6 := closed_false hN4_5 h3 (k := 6) rfl (by decide)
      have hN4_8 := closed_false h1 h3 (k := 8) rfl (by decide)
      try simp only [upd_same, updD_same, upd_ne, updD_ne, ne_eq, Nat.reduceEqDiff, not_false_eq_true, stg_t, stg_f, vAd_s, vCap_s, blk_p, List.cons_append, List.nil_append, b2n_t, b2n_f, hN4_6, hN4_8]
      exact goW
    · intro ξ v; rfl
    · intro ξ k v S h3 hn hk
      first
      | rfl
    apply YSeq.w (by intro _ _ _; rfl)
    · intro ξ S h1 h2 h3 h4
      have hN5_6 := closed_false h1 h3 (k := 6) rfl (by decide)
      have hN5_8 := closed_false h1 h3 (k := 8) rfl (by decide)
      try simp only [upd_same, updD_same, upd_ne, updD_ne, ne_eq, Nat.reduceEqDiff, not_false_eq_true, stg_t, stg_f, vAd_s, vCap_s, blk_p, List.cons_append, List.nil_append, b2n_t, b2n_f, hN5_6, hN5_8]
      exact goW
    · intro ξ v; rfl
    · intro ξ k v S h3 hn hk
      first
      | rfl
    apply YSeq.callI (pick_gen (l := [-1, t, 999999, 1000000]) (by repeat' (first | exact IsInts.nil | apply IsInts.cons)) (by simp)) (fun _ => (Evs.cons rfl (Evs.cons rfl Evs.nil)))
    · intro ξ S h1 h3
      have hN6_8 := closed_false h1 h3 (k := 8) rfl (by decide)
      have hq6 := b2n_le (S 6)
      simp only [upd_same, updD_same, upd_ne, updD_ne, ne_eq, Nat.reduceEqDiff, not_false_eq_true, stg_t, stg_f, vAd_s, vCap_s, blk_p, List.cons_append, List.nil_append, b2n_t, b2n_f, h1, hN6_8]
      refine ⟨_, _, ?_, goXp, fun v => ?_⟩
      · omega
      · refine List.Perm.trans goXp (perm_strm ?_)
        omega
    apply YSeq.w (by intro _ _ _; rfl)
    · intro ξ S h1 h2 h3 h4
      have hY7_6 : S 6 = true := h2 6 (by decide)
      have hN7_8 := closed_false h1 h3 (k := 8) rfl (by decide)
      have hR58 := pf_int (pick_gen (l := [-1, t, 999999, 1000000]) (by repeat' (first | exact IsInts.nil | apply IsInts.cons)) (by simp)) (h4 6 hY7_6)
      try simp only [InRange] at hR58
      have hRn58 := hR58
      try simp only [Nat.zero_add, Nat.reduceAdd] at hRn58
      try simp only [upd_same, updD_same, upd_ne, updD_ne, ne_eq, Nat.reduceEqDiff, not_false_eq_true, stg_t, stg_f, vAd_s, vCap_s, blk_p, List.cons_append, List.nil_append, b2n_t, b2n_f, hY7_6, hN7_8]
      exact goW
    · intro ξ v; rfl
    · intro ξ k v S h3 hn hk
      first
      | rfl
      | skip
        have hY7_6 : S 6 = true := h3 7 _ rfl hn 6 (by decide)
        simp only [upd_S hY7_6 hk]
    apply YSeq.storeO
    · intro ξ S h1 h2 h3 h4
      have hY8_6 : S 6 = true := h2 6 (by decide)
      have hR58 := pf_int (pick_gen (l := [-1, t, 999999, 1000000]) (by repeat' (first | exact IsInts.nil | apply IsInts.cons)) (by simp)) (h4 6 hY8_6)
      try simp only [InRange] at hR58
      have hRn58 := hR58
      try simp only [Nat.zero_add, Nat.reduceAdd] at hRn58
      simp only [upd_same, updD_same, upd_ne, updD_ne, ne_eq, Nat.reduceEqDiff, not_false_eq_true, stg_t, stg_f, vAd_s, vCap_s, blk_p, List.cons_append, List.nil_append, b2n_t, b2n_f, hY8_6, h1]
      refine ⟨_, _, _, _, _, _, _, _, _, _, rfl, rfl, inferInstance, goXp, (by first | rfl | assumption | (simp [*]; done)), (by decide), ?_⟩
      exact goXm
    refine YSeq.nil fun ξ hf => ?_
    have hR58 := pf_int (pick_gen (l := [-1, t, 999999, 1000000]) (by repeat' (first | exact IsInts.nil | apply IsInts.cons)) (by simp)) (hf 6)
    try simp only [InRange] at hR58
    refine ⟨[(0, _), (4, _), (5, _)], _, Ent.trans (Ent.eqc rfl (by simp only [upd_same, updD_same, upd_ne, updD_ne, ne_eq, Nat.reduceEqDiff, not_false_eq_true, stg_t, stg_f, vAd_s, vCap_s, blk_p, List.cons_append, List.nil_append, b2n_t, b2n_f, ownV, slV, ptV] <;> rfl)) (Ent.sub goSub), ?_⟩
    clear hf
    generalize vInt (ξ 6) = x58 at hR58 ⊢
    repeat' (first | refine goH ?_ | refine goV ?_ | refine goB (fun b => ?_) | refine goC (fun ad cap => ?_) | refine goG ?_ | (refine Ops.k_guard ?_; first | (refine Ops.guard_dec rfl rfl (fun hc => ?_) (fun hc => ?_) <;> try (exfalso; omega)) | refine Ops.guard_split rfl rfl (fun hc => ?_) (fun hc => ?_)) | refine goI ?_ | (refine Cw.k_cond ?_; first | (refine Cw.cond_dec rfl (fun hc => ?_) (fun hc => ?_) <;> try (exfalso; omega)) | refine Cw.cond_bool rfl (fun hc => ?_) (fun hc => ?_)) | refine goR ?_ | refine goP ?_ | apply PSeq.cons | apply PSeq.yes rfl rfl rfl | exact goW | fail)
    erw [int_set]
    have hq3 : (intRows (l.set 0 x58)).length = k := by rw [intRows_len, List.length_set, ← intRows_len, hrl]
    refine Fin.ent (Ent.settle_box (b := b4) (i := 1) (ad := ad) (kk := 1) (rows := intRows (l.set 0 x58)) (by exact Perm.cons' goPk (Perm.cons' goPk (List.Perm.refl _))) rfl hq3.symm rfl) ?_
    refine Fin.ret (Ent.trans (Ent.setbox (s := 4) rfl goPk) (Ent.strm_only goPk (by omega))) (Outs.sole rfl goOe) ⟨rfl, ⟨w, (l.set 0 x58)⟩, rfl, by simp; omega, hatw⟩
  · skip
    refine Fin.ent (Ent.settle_box (b := b4) (i := 1) (ad := ad) (kk := 1) (rows := intRows l) (by exact Perm.cons' goPk (Perm.cons' goPk (List.Perm.refl _))) rfl hrl.symm rfl) ?_
    refine Fin.ret (Ent.trans (Ent.setbox (s := 4) rfl goPk) (Ent.strm_only goPk (by omega))) (Outs.sole rfl goOe) ⟨rfl, ⟨w, l⟩, rfl, by simp; omega, hatw⟩
  · skip
    refine Fin.ent (Ent.settle_box (b := b4) (i := 1) (ad := ad) (kk := 1) (rows := intRows l) (by exact Perm.cons' goPk (Perm.cons' goPk (List.Perm.refl _))) rfl hrl.symm rfl) ?_
    refine Fin.ret (Ent.trans (Ent.setbox (s := 4) rfl goPk) (Ent.strm_only goPk (by omega))) (Outs.sole rfl goOe) ⟨rfl, ⟨w, l⟩, rfl, by simp; omega, hatw⟩
  · first | refine Cw.region_YP (fun ξ S => Chunk.strm 25 bs (intRows xs) (m + 1 + 1 + b2n (S 4)) :: Chunk.box b3 27 [.int c, .int t, .int f] :: Chunk.box b4 30 (List.map Tr.raw [.int .i64 0, .slice none 0 0]) :: Chunk.box b 30 [.int v, stg (S 8) (Tr.raw (.slice ad k cap)) (Tr.raw (.slice (vAd (ξ 6)) (k + 1) (vCap (ξ 6))))] :: stg (S 6) (Chunk.own ad cap 1 3 (intRows l)) (ownV (ξ 6) 1 3 (intRows l ++ [[.int (vInt (ξ 4))]])) :: []) rfl (by decide +kernel) rfl ((fun (ξ : Nat → Value) (S : Nat → Bool) => Chunk.strm 25 bs (intRows xs) (m + 1 + 1 + b2n (S 4)) :: Chunk.box b3 27 [.int c, .int t, .int f] :: Chunk.box b4 30 (List.map Tr.raw [.int .i64 0, .slice none 0 0]) :: Chunk.box b 30 [.int v, stg (S 8) (Tr.raw (.slice ad k cap)) (Tr.raw (.slice (vAd (ξ 6)) (k + 1) (vCap (ξ 6))))] :: stg (S 6) (Chunk.own ad cap 1 3 (intRows l)) (ownV (ξ 6) 1 3 (intRows l ++ [[.int (vInt (ξ 4))]])) :: []) (fun _ => undef) (fun _ => false)) (by simp only [upd_same, updD_same, upd_ne, updD_ne, ne_eq, Nat.reduceEqDiff, not_false_eq_true, stg_t, stg_f, vAd_s, vCap_s, blk_p, List.cons_append, List.nil_append, b2n_t, b2n_f]; exact goXm) (fun _ => rfl) ?_ | fail
    apply YSeq.w (by intro _ _ _; rfl)
    · intro ξ S h1 h2 h3 h4
      have hN0_1 := closed_false h1 h3 (k := 1) rfl (by decide)
      have hN0_6 := closed_false hN0_1 h3 (k := 6) rfl (by decide)
      have hN0_8 := closed_false h1 h3 (k := 8) rfl (by decide)
      try simp only [upd_same, updD_same, upd_ne, updD_ne, ne_eq, Nat.reduceEqDiff, not_false_eq_true, stg_t, stg_f, vAd_s, vCap_s, blk_p, List.cons_append, List.nil_append, b2n_t, b2n_f, hN0_6, hN0_8]
      exact goW
    · intro ξ v; rfl
    · intro ξ k v S h3 hn hk
      first
      | rfl
    apply YSeq.w (by intro _ _ _; rfl)
    · intro ξ S h1 h2 h3 h4
      have hN1_6 := closed_false h1 h3 (k := 6) rfl (by decide)
      have hN1_8 := closed_false h1 h3 (k := 8) rfl (by decide)
      try simp only [upd_same, updD_same, upd_ne, updD_ne, ne_eq, Nat.reduceEqDiff, not_false_eq_true, stg_t, stg_f, vAd_s, vCap_s, blk_p, List.cons_append, List.nil_append, b2n_t, b2n_f, hN1_6, hN1_8]
      exact goW
    · intro ξ v; rfl
    · intro ξ k v S h3 hn hk
      first
      | rfl
    apply YSeq.w (by intro _ _ _; rfl)
    · intro ξ S h1 h2 h3 h4
      have hN2_4 := closed_false h1 h3 (k := 4) rfl (by decide)
      have hN2_6 := closed_false hN2_4 h3 (k := 6) rfl (by decide)
      have hN2_8 := closed_false h1 h3 (k := 8) rfl (by decide)
      try simp only [upd_same, updD_same, upd_ne, updD_ne, ne_eq, Nat.reduceEqDiff, not_false_eq_true, stg_t, stg_f, vAd_s, vCap_s, blk_p, List.cons_append, List.nil_append, b2n_t, b2n_f, hN2_4, hN2_6, hN2_8]
      exact goW
    · intro ξ v; rfl
    · intro ξ k v S h3 hn hk
      first
      | rfl
    apply YSeq.w (by intro _ _ _; rfl)
    · intro ξ S h1 h2 h3 h4
      have hN3_4 := closed_false h1 h3 (k := 4) rfl (by decide)
      have hN3_6 := closed_false hN3_4 h3 (k := 6) rfl (by decide)
      have hN3_8 := closed_false h1 h3 (k := 8) rfl (by decide)
      try simp only [upd_same, updD_same, upd_ne, updD_ne, ne_eq, Nat.reduceEqDiff, not_false_eq_true, stg_t, stg_f, vAd_s, vCap_s, blk_p, List.cons_append, List.nil_append, b2n_t, b2n_f, hN3_4, hN3_6, hN3_8]
      exact goW
    · intro ξ v; rfl
    · intro ξ k v S h3 hn hk
      first
      | rfl
    apply YSeq.callI (pick_gen (l := [0, -1]) (by repeat' (first | exact IsInts.nil | apply IsInts.cons)) (by simp)) (fun _ => (Evs.cons rfl (Evs.cons rfl Evs.nil)))
    · intro ξ S h1 h3
      have hN4_6 := closed_false h1 h3 (k := 6) rfl (by decide)
      have hN4_8 := closed_false h1 h3 (k := 8) rfl (by decide)
      have hq4 := b2n_le (S 4)
      simp only [upd_same, updD_same, upd_ne, updD_ne, ne_eq, Nat.reduceEqDiff, not_false_eq_true, stg_t, stg_f, vAd_s, vCap_s, blk_p, List.cons_append, List.nil_append, b2n_t, b2n_f, h1, hN4_6, hN4_8]
      refine ⟨_, _, ?_, goXp, fun v => ?_⟩
      · omega
      · refine List.Perm.trans goXp (perm_strm ?_)
        omega
    apply YSeq.w (by intro _ _ _; rfl)
    · intro ξ S h1 h2 h3 h4
      have hY5_4 : S 4 = true := h2 4 (by decide)
      have hN5_6 := closed_false h1 h3 (k := 6) rfl (by decide)
      have hN5_8 := closed_false h1 h3 (k := 8) rfl (by decide)
      have hR40 := pf_int (pick_gen (l := [0, -1]) (by repeat' (first | exact IsInts.nil | apply IsInts.cons)) (by simp)) (h4 4 hY5_4)
      try simp only [InRange] at hR40
      have hRn40 := hR40
      try simp only [Nat.zero_add, Nat.reduceAdd] at hRn40
      try simp only [upd_same, updD_same, upd_ne, updD_ne, ne_eq, Nat.reduceEqDiff, not_false_eq_true, stg_t, stg_f, vAd_s, vCap_s, blk_p, List.cons_append, List.nil_append, b2n_t, b2n_f, hY5_4, hN5_6, hN5_8]
      exact goW
    · intro ξ v; rfl
    · intro ξ k v S h3 hn hk
      first
      | rfl
      | skip
        have hY5_4 : S 4 = true := h3 5 _ rfl hn 4 (by decide)
        simp only [upd_S hY5_4 hk]
    apply YSeq.append (k + 1)
    · intro ξ S h1 h2 h3 h4
      have hY6_4 : S 4 = true := h2 4 (by decide)
      have hN6_8 := closed_false h1 h3 (k := 8) rfl (by decide)
      have hR40 := pf_int (pick_gen (l := [0, -1]) (by repeat' (first | exact IsInts.nil | apply IsInts.cons)) (by simp)) (h4 4 hY6_4)
      try simp only [InRange] at hR40
      have hRn40 := hR40
      try simp only [Nat.zero_add, Nat.reduceAdd] at hRn40
      simp only [upd_same, updD_same, upd_ne, updD_ne, ne_eq, Nat.reduceEqDiff, not_false_eq_true, stg_t, stg_f, vAd_s, vCap_s, blk_p, List.cons_append, List.nil_append, b2n_t, b2n_f, hY6_4, h1, hN6_8]
      refine ⟨_, _, _, _, _, _, rfl, rfl, goXp, (by first | rfl | (simp; done) | omega), (by first | rfl | omega | (simp; done) | (simp; omega)), (by first | omega | (simp; done) | (simp; omega)), (by first | omega | (simp; done) | (simp; omega)), fun ad' cap' => ?_⟩
      exact goXm
    apply YSeq.w (by intro _ _ _; rfl)
    · intro ξ S h1 h2 h3 h4
      have hY7_4 : S 4 = true := h2 4 (by decide)
      have hY7_6 : S 6 = true := h2 6 (by decide)
      have hN7_8 := closed_false h1 h3 (k := 8) rfl (by decide)
      have hR40 := pf_int (pick_gen (l := [0, -1]) (by repeat' (first | exact IsInts.nil | apply IsInts.cons)) (by simp)) (h4 4 hY7_4)
      try simp only [InRange] at hR40
      have hRn40 := hR40
      try simp only [Nat.zero_add, Nat.reduceAdd] at hRn40
      try simp only [upd_same, updD_same, upd_ne, updD_ne, ne_eq, Nat.reduceEqDiff, not_false_eq_true, stg_t, stg_f, vAd_s, vCap_s, blk_p, List.cons_append, List.nil_append, b2n_t, b2n_f, hY7_4, hY7_6, hN7_8]
      exact goW
    · intro ξ v; rfl
    · intro ξ k v S h3 hn hk
      first
      | rfl
      | skip
        have hY7_4 : S 4 = true := h3 7 _ rfl hn 4 (by decide)
        have hY7_6 : S 6 = true := h3 7 _ rfl hn 6 (by decide)
        simp only [upd_S hY7_4 hk, upd_S hY7_6 hk]
    apply YSeq.store
    · intro ξ S h1 h2 h3 h4
      have hY8_4 : S 4 = true := h2 4 (by decide)
      have hY8_6 : S 6 = true := h2 6 (by decide)
      have hR40 := pf_int (pick_gen (l := [0, -1]) (by repeat' (first | exact IsInts.nil | apply IsInts.cons)) (by simp)) (h4 4 hY8_4)
      try simp only [InRange] at hR40
      have hRn40 := hR40
      try simp only [Nat.zero_add, Nat.reduceAdd] at hRn40
      simp only [upd_same, updD_same, upd_ne, updD_ne, ne_eq, Nat.reduceEqDiff, not_false_eq_true, stg_t, stg_f, vAd_s, vCap_s, blk_p, List.cons_append, List.nil_append, b2n_t, b2n_f, hY8_4, hY8_6, h1]
      refine ⟨_, _, _, _, _, _, _, rfl, rfl, inferInstance, goXp, rfl, Nat.le_of_ble_eq_true rfl, ?_⟩
      exact goXm
    refine YSeq.nil fun ξ hf => ?_
    have hR40 := pf_int (pick_gen (l := [0, -1]) (by repeat' (first | exact IsInts.nil | apply IsInts.cons)) (by simp)) (hf 4)
    try simp only [InRange] at hR40
    refine ⟨[(0, _), (3, _), (4, _), (5, _)], _, Ent.trans (Ent.eqc rfl (by simp only [upd_same, updD_same, upd_ne, updD_ne, ne_eq, Nat.reduceEqDiff, not_false_eq_true, stg_t, stg_f, vAd_s, vCap_s, blk_p, List.cons_append, List.nil_append, b2n_t, b2n_f, ownV, slV, ptV] <;> rfl)) (Ent.sub goSub), ?_⟩
    clear hf
    generalize vInt (ξ 4) = x40 at hR40 ⊢
    generalize vAd (ξ 6) = ad42
    generalize vCap (ξ 6) = cap42
    rw [intRows_snoc]
    have hq2 : (intRows (l ++ [x40])).length = k + 1 := by rw [intRows_len, List.length_append, hll]; rfl
    obtain ⟨y, hy⟩ := at_lt (l := l ++ [x40]) (k := 0) (by simp)
    have r1 : (intRows (l ++ [x40]))[0]? = some [Tr.int y] := intRows_at hy
    clear hy
    repeat' (first | refine goH ?_ | refine goV ?_ | refine goB (fun b => ?_) | refine goC (fun ad cap => ?_) | refine goG ?_ | (refine Ops.k_guard ?_; first | (refine Ops.guard_dec rfl rfl (fun hc => ?_) (fun hc => ?_) <;> try (exfalso; omega)) | refine Ops.guard_split rfl rfl (fun hc => ?_) (fun hc => ?_)) | refine goI ?_ | (refine Cw.k_cond ?_; first | (refine Cw.cond_dec rfl (fun hc => ?_) (fun hc => ?_) <;> try (exfalso; omega)) | refine Cw.cond_bool rfl (fun hc => ?_) (fun hc => ?_)) | (refine Ops.k_calla ?_; first | (refine Ops.k_callf 25 ?_; (refine Ops.callG (flip_gen _ (by omega)) (Evs.cons rfl (Evs.cons rfl Evs.nil)) goPk (by omega) rfl ?_; rintro r ⟨u, rfl⟩))) | fail)
    · skip
      first | refine Cw.region_YP (fun ξ S => Chunk.strm 25 bs (intRows xs) (m + 1 + 1 + 1 + 1 + b2n (S 6)) :: Chunk.box b3 27 [.int c, .int t, .int f] :: Chunk.box b4 30 (List.map Tr.raw [.int .i64 0, .slice none 0 0]) :: Chunk.box b 30 [.int v, Tr.raw (.slice ad42 (k + 1) cap42)] :: Chunk.own ad42 cap42 1 3 (stg (S 8) (intRows (l ++ [x40])) ((intRows (l ++ [x40])).set 0 [.int (vInt (ξ 6))])) :: []) rfl (by decide +kernel) rfl ((fun (ξ : Nat → Value) (S : Nat → Bool) => Chunk.strm 25 bs (intRows xs) (m + 1 + 1 + 1 + 1 + b2n (S 6)) :: Chunk.box b3 27 [.int c, .int t, .int f] :: Chunk.box b4 30 (List.map Tr.raw [.int .i64 0, .slice none 0 0]) :: Chunk.box b 30 [.int v, Tr.raw (.slice ad42 (k + 1) cap42)] :: Chunk.own ad42 cap42 1 3 (stg (S 8) (intRows (l ++ [x40])) ((intRows (l ++ [x40])).set 0 [.int (vInt (ξ 6))])) :: []) (fun _ => undef) (fun _ => false)) (by simp only [upd_same, updD_same, upd_ne, updD_ne, ne_eq, Nat.reduceEqDiff, not_false_eq_true, stg_t, stg_f, vAd_s, vCap_s, blk_p, List.cons_append, List.nil_append, b2n_t, b2n_f]; exact goXm) (fun _ => rfl) ?_ | fail
      apply YSeq.w (by intro _ _ _; rfl)
      · intro ξ S h1 h2 h3 h4
        have hN0_8 := closed_false h1 h3 (k := 8) rfl (by decide)
        try simp only [upd_same, updD_same, upd_ne, updD_ne, ne_eq, Nat.reduceEqDiff, not_false_eq_true, stg_t, stg_f, vAd_s, vCap_s, blk_p, List.cons_append, List.nil_append, b2n_t, b2n_f, hN0_8]
        exact goW
      · intro ξ v; rfl
      · intro ξ k v S h3 hn hk
        first
        | rfl
      apply YSeq.w (by intro _ _ _; rfl)
      · intro ξ S h1 h2 h3 h4
        have hN1_8 := closed_false h1 h3 (k := 8) rfl (by decide)
        try simp only [upd_same, updD_same, upd_ne, updD_ne, ne_eq, Nat.reduceEqDiff, not_false_eq_true, stg_t, stg_f, vAd_s, vCap_s, blk_p, List.cons_append, List.nil_append, b2n_t, b2n_f, hN1_8]
        exact goW
      · intro ξ v; rfl
      · intro ξ k v S h3 hn hk
        first
        | rfl
      apply YSeq.w (by intro _ _ _; rfl)
      · intro ξ S h1 h2 h3 h4
        have hN2_6 := closed_false h1 h3 (k := 6) rfl (by decide)
        have hN2_8 := closed_false h1 h3 (k := 8) rfl (by decide)
        try simp only [upd_same, updD_same, upd_ne, updD_ne, ne_eq, Nat.reduceEqDiff, not_false_eq_true, stg_t, stg_f, vAd_s, vCap_s, blk_p, List.cons_append, List.nil_append, b2n_t, b2n_f, hN2_6, hN2_8]
        exact goW
      · intro ξ v; rfl
      · intro ξ k v S h3 hn hk
        first
        | rfl
      apply YSeq.w (by intro _ _ _; rfl)
      · intro ξ S h1 h2 h3 h4
        have hN3_4 := closed_false h1 h3 (k := 4) rfl (by decide)
        have hN3_5 := closed_false hN3_4 h3 (k := 5) rfl (by decide)
        have hN3_6 := closed_false hN3_5 h3 (k := 6) rfl (by decide)
        have hN3_8 := closed_false h1 h3 (k := 8) rfl (by decide)
        try simp only [upd_same, updD_same, upd_ne, updD_ne, ne_eq, Nat.reduceEqDiff, not_false_eq_true, stg_t, stg_f, vAd_s, vCap_s, blk_p, List.cons_append, List.nil_append, b2n_t, b2n_f, hN3_6, hN3_8]
        exact goW
      · intro ξ v; rfl
      · intro ξ k v S h3 hn hk
        first
        | rfl
      apply YSeq.w (by intro _ _ _; rfl)
      · intro ξ S h1 h2 h3 h4
        have hN4_5 := closed_false h1 h3 (k := 5) rfl (by decide)
        have hN4_6 := closed_false hN4_5 h3 (k := 6) rfl (by decide)
        have hN4_8 := closed_false h1 h3 (k := 8) rfl (by decide)
        try simp only [upd_same, updD_same, upd_ne, updD_ne, ne_eq, Nat.reduceEqDiff, not_false_eq_true, stg_t, stg_f, vAd_s, vCap_s, blk_p, List.cons_append, List.nil_append, b2n_t, b2n_f, hN4_6, hN4_8]
        exact goW
      · intro ξ v; rfl
      · intro ξ k v S h3 hn hk
        first
        | rfl
      apply YSeq.w (by intro _ _ _; rfl)
      · intro ξ S h1 h2 h3 h4
        have hN5_6 := closed_false h1 h3 (k := 6) rfl (by decide)
        have hN5_8 := closed_false h1 h3 (k := 8) rfl (by decide)
        try simp only [upd_same, updD_same, upd_ne, updD_ne, ne_eq, Nat.reduceEqDiff, not_false_eq_true, stg_t, stg_f, vAd_s, vCap_s, blk_p, List.cons_append, List.nil_append, b2n_t, b2n_f, hN5_6, hN5_8]
        exact goW
      · intro ξ v; rfl
      · intro ξ k v S h3 hn hk
        first
        | rfl
      apply YSeq.callI (pick_gen (l := [-1, t, 999999, 1000000]) (by repeat' (first | exact IsInts.nil | apply IsInts.cons)) (by simp)) (fun _ => (Evs.cons rfl (Evs.cons rfl Evs.nil)))
      · intro ξ S h1 h3
        have hN6_8 := closed_false h1 h3 (k := 8) rfl (by decide)
        have hq6 := b2n_le (S 6)
        simp only [upd_same, updD_same, upd_ne, updD_ne, ne_eq, Nat.reduceEqDiff, not_false_eq_true, stg_t, stg_f, vAd_s, vCap_s, blk_p, List.cons_append, List.nil_append, b2n_t, b2n_f, h1, hN6_8]
        refine ⟨_, _, ?_, goXp, fun v => ?_⟩
        · omega
        · refine List.Perm.trans goXp (perm_strm ?_)
          omega
      apply YSeq.w (by intro _ _ _; rfl)
      · intro ξ S h1 h2 h3 h4
        have hY7_6 : S 6 = true := h2 6 (by decide)
        have hN7_8 := closed_false h1 h3 (k := 8) rfl (by decide)
        have hR58 := pf_int (pick_gen (l := [-1, t, 999999, 1000000]) (by repeat' (first | exact IsInts.nil | apply IsInts.cons)) (by simp)) (h4 6 hY7_6)
        try simp only [InRange] at hR58
        have hRn58 := hR58
        try simp only [Nat.zero_add, Nat.reduceAdd] at hRn58
        try simp only [upd_same, updD_same, upd_ne, updD_ne, ne_eq, Nat.reduceEqDiff, not_false_eq_true, stg_t, stg_f, vAd_s, vCap_s, blk_p, List.cons_append, List.nil_append, b2n_t, b2n_f, hY7_6, hN7_8]
        exact goW
      · intro ξ v; rfl
      · intro ξ k v S h3 hn hk
        first
        | rfl
        | skip
          have hY7_6 : S 6 = true := h3 7 _ rfl hn 6 (by decide)
          simp only [upd_S hY7_6 hk]
      apply YSeq.storeO
      · intro ξ S h1 h2 h3 h4
        have hY8_6 : S 6 = true := h2 6 (by decide)
        have hR58 := pf_int (pick_gen (l := [-1, t, 999999, 1000000]) (by repeat' (first | exact IsInts.nil | apply IsInts.cons)) (by simp)) (h4 6 hY8_6)
        try simp only [InRange] at hR58
        have hRn58 := hR58
        try simp only [Nat.zero_add, Nat.reduceAdd] at hRn58
        simp only [upd_same, updD_same, upd_ne, updD_ne, ne_eq, Nat.reduceEqDiff, not_false_eq_true, stg_t, stg_f, vAd_s, vCap_s, blk_p, List.cons_append, List.nil_append, b2n_t, b2n_f, hY8_6, h1]
        refine ⟨_, _, _, _, _, _, _, _, _, _, rfl, rfl, inferInstance, goXp, (by first | rfl | assumption | (simp [*]; done)), (by decide), ?_⟩
        exact goXm
      refine YSeq.nil fun ξ hf => ?_
      have hR58 := pf_int (pick_gen (l := [-1, t, 999999, 1000000]) (by repeat' (first | exact IsInts.nil | apply IsInts.cons)) (by simp)) (hf 6)
      try simp only [InRange] at hR58
      refine ⟨[(0, _), (4, _), (5, _)], _, Ent.trans (Ent.eqc rfl (by simp only [upd_same, updD_same, upd_ne, updD_ne, ne_eq, Nat.reduceEqDiff, not_false_eq_true, stg_t, stg_f, vAd_s, vCap_s, blk_p, List.cons_append, List.nil_append, b2n_t, b2n_f, ownV, slV, ptV] <;> rfl)) (Ent.sub goSub), ?_⟩
      clear hf
      generalize vInt (ξ 6) = x58 at hR58 ⊢
      repeat' (first | refine goH ?_ | refine goV ?_ | refine goB (fun b => ?_) | refine goC (fun ad cap => ?_) | refine goG ?_ | (refine Ops.k_guard ?_; first | (refine Ops.guard_dec rfl rfl (fun hc => ?_) (fun hc => ?_) <;> try (exfalso; omega)) | refine Ops.guard_split rfl rfl (fun hc => ?_) (fun hc => ?_)) | refine goI ?_ | (refine Cw.k_cond ?_; first | (refine Cw.cond_dec rfl (fun hc => ?_) (fun hc => ?_) <;> try (exfalso; omega)) | refine Cw.cond_bool rfl (fun hc => ?_) (fun hc => ?_)) | refine goR ?_ | refine goP ?_ | apply PSeq.cons | apply PSeq.yes rfl rfl rfl | exact goW | fail)
      erw [int_set]
      have hq3 : (intRows ((l ++ [x40]).set 0 x58)).length = (k + 1) := by rw [intRows_len, List.length_set, ← intRows_len, hq2]
      refine Fin.ent (Ent.settle_box (b := b4) (i := 1) (ad := ad42) (kk := 1) (rows := intRows ((l ++ [x40]).set 0 x58)) (by exact Perm.cons' goPk (Perm.cons' goPk (List.Perm.refl _))) rfl hq3.symm rfl) ?_
      refine Fin.ret (Ent.trans (Ent.setbox (s := 4) rfl goPk) (Ent.strm_only goPk (by omega))) (Outs.sole rfl goOe) ⟨rfl, ⟨v, ((l ++ [x40]).set 0 x58)⟩, rfl, by simp; omega, hatv⟩
    · skip
      refine Fin.ent (Ent.settle_box (b := b4) (i := 1) (ad := ad42) (kk := 1) (rows := intRows (l ++ [x40])) (by exact Perm.cons' goPk (Perm.cons' goPk (List.Perm.refl _))) rfl hq2.symm rfl) ?_
      refine Fin.ret (Ent.trans (Ent.setbox (s := 4) rfl goPk) (Ent.strm_only goPk (by omega))) (Outs.sole rfl goOe) ⟨rfl, ⟨v, (l ++ [x40])⟩, rfl, by simp; omega, hatv⟩
  · obtain ⟨y, hy⟩ := at_lt (l := l) (k := 0) (by omega)
    have r1 := intRows_at hy
    clear hy
    first | refine Cw.region_YP (fun ξ S => Chunk.strm 25 bs (intRows xs) (m + 1 + 1 + 1 + b2n (S 6)) :: Chunk.box b3 27 [.int c, .int t, .int f] :: Chunk.box b4 30 (List.map Tr.raw [.int .i64 0, .slice none 0 0]) :: Chunk.box b 30 [.int v, Tr.raw (.slice ad k cap)] :: Chunk.own ad cap 1 3 (stg (S 8) (intRows l) ((intRows l).set 0 [.int (vInt (ξ 6))])) :: []) rfl (by decide +kernel) rfl ((fun (ξ : Nat → Value) (S : Nat → Bool) => Chunk.strm 25 bs (intRows xs) (m + 1 + 1 + 1 + b2n (S 6)) :: Chunk.box b3 27 [.int c, .int t, .int f] :: Chunk.box b4 30 (List.map Tr.raw [.int .i64 0, .slice none 0 0]) :: Chunk.box b 30 [.int v, Tr.raw (.slice ad k cap)] :: Chunk.own ad cap 1 3 (stg (S 8) (intRows l) ((intRows l).set 0 [.int (vInt (ξ 6))])) :: []) (fun _ => undef) (fun _ => false)) (by simp only [upd_same, updD_same, upd_ne, updD_ne, ne_eq, Nat.reduceEqDiff, not_false_eq_true, stg_t, stg_f, vAd_s, vCap_s, blk_p, List.cons_append, List.nil_append, b2n_t, b2n_f]; exact goXm) (fun _ => rfl) ?_ | fail
    apply YSeq.w (by intro _ _ _; rfl)
    · intro ξ S h1 h2 h3 h4
      have hN0_8 := closed_false h1 h3 (k := 8) rfl (by decide)
      try simp only [upd_same, updD_same, upd_ne, updD_ne, ne_eq, Nat.reduceEqDiff, not_false_eq_true, stg_t, stg_f, vAd_s, vCap_s, blk_p, List.cons_append, List.nil_append, b2n_t, b2n_f, hN0_8]
      exact goW
    · intro ξ v; rfl
    · intro ξ k v S h3 hn hk
      first
      | rfl
    apply YSeq.w (by intro _ _ _; rfl)
    · intro ξ S h1 h2 h3 h4
      have hN1_8 := closed_false h1 h3 (k := 8) rfl (by decide)
      try simp only [upd_same, updD_same, upd_ne, updD_ne, ne_eq, Nat.reduceEqDiff, not_false_eq_true, stg_t, stg_f, vAd_s, vCap_s, blk_p, List.cons_append, List.nil_append, b2n_t, b2n_f, hN1_8]
      exact goW
    · intro ξ v; rfl
    · intro ξ k v S h3 hn hk
      first
      | rfl
    apply YSeq.w (by intro _ _ _; rfl)
    · intro ξ S h1 h2 h3 h4
      have hN2_6 := closed_false h1 h3 (k := 6) rfl (by decide)
      have hN2_8 := closed_false h1 h3 (k := 8) rfl (by decide)
      try simp only [upd_same, updD_same, upd_ne, updD_ne, ne_eq, Nat.reduceEqDiff, not_false_eq_true, stg_t, stg_f, vAd_s, vCap_s, blk_p, List.cons_append, List.nil_append, b2n_t, b2n_f, hN2_6, hN2_8]
      exact goW
    · intro ξ v; rfl
    · intro ξ k v S h3 hn hk
      first
      | rfl
    apply YSeq.w (by intro _ _ _; rfl)
    · intro ξ S h1 h2 h3 h4
      have hN3_4 := closed_false h1 h3 (k := 4) rfl (by decide)
      have hN3_5 := closed_false hN3_4 h3 (k := 5) rfl (by decide)
      have hN3_6 := closed_false hN3_5 h3 (k := 6) rfl (by decide)
      have hN3_8 := closed_false h1 h3 (k := 8) rfl (by decide)
      try simp only [upd_same, updD_same, upd_ne, updD_ne, ne_eq, Nat.reduceEqDiff, not_false_eq_true, stg_t, stg_f, vAd_s, vCap_s, blk_p, List.cons_append, List.nil_append, b2n_t, b2n_f, hN3_6, hN3_8]
      exact goW
    · intro ξ v; rfl
    · intro ξ k v S h3 hn hk
      first
      | rfl
    apply YSeq.w (by intro _ _ _; rfl)
    · intro ξ S h1 h2 h3 h4
      have hN4_5 := closed_false h1 h3 (k := 5) rfl (by decide)
      have hN4_6 := closed_false hN4_5 h3 (k := 6) rfl (by decide)
      have hN4_8 := closed_false h1 h3 (k := 8) rfl (by decide)
      try simp only [upd_same, updD_same, upd_ne, updD_ne, ne_eq, Nat.reduceEqDiff, not_false_eq_true, stg_t, stg_f, vAd_s, vCap_s, blk_p, List.cons_append, List.nil_append, b2n_t, b2n_f, hN4_6, hN4_8]
      exact goW
    · intro ξ v; rfl
    · intro ξ k v S h3 hn hk
      first
      | rfl
    apply YSeq.w (by intro _ _ _; rfl)
    · intro ξ S h1 h2 h3 h4
      have hN5_6 := closed_false h1 h3 (k := 6) rfl (by decide)
      have hN5_8 := closed_false h1 h3 (k := 8) rfl (by decide)
      try simp only [upd_same, updD_same, upd_ne, updD_ne, ne_eq, Nat.reduceEqDiff, not_false_eq_true, stg_t, stg_f, vAd_s, vCap_s, blk_p, List.cons_append, List.nil_append, b2n_t, b2n_f, hN5_6, hN5_8]
      exact goW
    · intro ξ v; rfl
    · intro ξ k v S h3 hn hk
      first
      | rfl
    apply YSeq.callI (pick_gen (l := [-1, t, 999999, 1000000]) (by repeat' (first | exact IsInts.nil | apply IsInts.cons)) (by simp)) (fun _ => (Evs.cons rfl (Evs.cons rfl Evs.nil)))
    · intro ξ S h1 h3
      have hN6_8 := closed_false h1 h3 (k := 8) rfl (by decide)
      have hq6 := b2n_le (S 6)
      simp only [upd_same, updD_same, upd_ne, updD_ne, ne_eq, Nat.reduceEqDiff, not_false_eq_true, stg_t, stg_f, vAd_s, vCap_s, blk_p, List.cons_append, List.nil_append, b2n_t, b2n_f, h1, hN6_8]
      refine ⟨_, _, ?_, goXp, fun v => ?_⟩
      · omega
      · refine List.Perm.trans goXp (perm_strm ?_)
        omega
    apply YSeq.w (by intro _ _ _; rfl)
    · intro ξ S h1 h2 h3 h4
      have hY7_6 : S 6 = true := h2 6 (by decide)
      have hN7_8 := closed_false h1 h3 (k := 8) rfl (by decide)
      have hR58 := pf_int (pick_gen (l := [-1, t, 999999, 1000000]) (by repeat' (first | exact IsInts.nil | apply IsInts.cons)) (by simp)) (h4 6 hY7_6)
      try simp only [InRange] at hR58
      have hRn58 := hR58
      try simp only [Nat.zero_add, Nat.reduceAdd] at hRn58
      try simp only [upd_same, updD_same, upd_ne, updD_ne, ne_eq, Nat.reduceEqDiff, not_false_eq_true, stg_t, stg_f, vAd_s, vCap_s, blk_p, List.cons_append, List.nil_append, b2n_t, b2n_f, hY7_6, hN7_8]
      exact goW
    · intro ξ v; rfl
    · intro ξ k v S h3 hn hk
      first
      | rfl
      | skip
        have hY7_6 : S 6 = true := h3 7 _ rfl hn 6 (by decide)
        simp only [upd_S hY7_6 hk]
    apply YSeq.storeO
    · intro ξ S h1 h2 h3 h4
      have hY8_6 : S 6 = true := h2 6 (by decide)
      have hR58 := pf_int (pick_gen (l := [-1, t, 999999, 1000000]) (by repeat' (first | exact IsInts.nil | apply IsInts.cons)) (by simp)) (h4 6 hY8_6)
      try simp only [InRange] at hR58
      have hRn58 := hR58
      try simp only [Nat.zero_add, Nat.reduceAdd] at hRn58
      simp only [upd_same, updD_same, upd_ne, updD_ne, ne_eq, Nat.reduceEqDiff, not_false_eq_true, stg_t, stg_f, vAd_s, vCap_s, blk_p, List.cons_append, List.nil_append, b2n_t, b2n_f, hY8_6, h1]
      refine ⟨_, _, _, _, _, _, _, _, _, _, rfl, rfl, inferInstance, goXp, (by first | rfl | assumption | (simp [*]; done)), (by decide), ?_⟩
      exact goXm
    refine YSeq.nil fun ξ hf => ?_
    have hR58 := pf_int (pick_gen (l := [-1, t, 999999, 1000000]) (by repeat' (first | exact IsInts.nil | apply IsInts.cons)) (by simp)) (hf 6)
    try simp only [InRange] at hR58
    refine ⟨[(0, _), (4, _), (5, _)], _, Ent.trans (Ent.eqc rfl (by simp only [upd_same, updD_same, upd_ne, updD_ne, ne_eq, Nat.reduceEqDiff, not_false_eq_true, stg_t, stg_f, vAd_s, vCap_s, blk_p, List.cons_append, List.nil_append, b2n_t, b2n_f, ownV, slV, ptV] <;> rfl)) (Ent.sub goSub), ?_⟩
    clear hf
    generalize vInt (ξ 6) = x58 at hR58 ⊢
    repeat' (first | refine goH ?_ | refine goV ?_ | refine goB (fun b => ?_) | refine goC (fun ad cap => ?_) | refine goG ?_ | (refine Ops.k_guard ?_; first | (refine Ops.guard_dec rfl rfl (fun hc => ?_) (fun hc => ?_) <;> try (exfalso; omega)) | refine Ops.guard_split rfl rfl (fun hc => ?_) (fun hc => ?_)) | refine goI ?_ | (refine Cw.k_cond ?_; first | (refine Cw.cond_dec rfl (fun hc => ?_) (fun hc => ?_) <;> try (exfalso; omega)) | refine Cw.cond_bool rfl (fun hc => ?_) (fun hc => ?_)) | refine goR ?_ | refine goP ?_ | apply PSeq.cons | apply PSeq.yes rfl rfl rfl | exact goW | fail)
    erw [int_set]
    have hq3 : (intRows (l.set 0 x58)).length = k := by rw [intRows_len, List.length_set, ← intRows_len, hrl]
    refine Fin.ent (Ent.settle_box (b := b4) (i := 1) (ad := ad) (kk := 1) (rows := intRows (l.set 0 x58)) (by exact Perm.cons' goPk (Perm.cons' goPk (List.Perm.refl _))) rfl hq3.symm rfl) ?_
    refine Fin.ret (Ent.trans (Ent.setbox (s := 4) rfl goPk) (Ent.strm_only goPk (by omega))) (Outs.sole rfl goOe) ⟨rfl, ⟨v, (l.set 0 x58)⟩, rfl, by simp; omega, hatv⟩
  · skip
    refine Fin.ent (Ent.settle_box (b := b4) (i := 1) (ad := ad) (kk := 1) (rows := intRows l) (by exact Perm.cons' goPk (Perm.cons' goPk (List.Perm.refl _))) rfl hrl.symm rfl) ?_
    refine Fin.ret (Ent.trans (Ent.setbox (s := 4) rfl goPk) (Ent.strm_only goPk (by omega))) (Outs.sole rfl goOe) ⟨rfl, ⟨v, l⟩, rfl, by simp; omega, hatv⟩
  · skip
    refine Fin.ent (Ent.settle_box (b := b4) (i := 1) (ad := ad) (kk := 1) (rows := intRows l) (by exact Perm.cons' goPk (Perm.cons' goPk (List.Perm.refl _))) rfl hrl.symm rfl) ?_
    refine Fin.ret (Ent.trans (Ent.setbox (s := 4) rfl goPk) (Ent.strm_only goPk (by omega))) (Outs.sole rfl goOe) ⟨rfl, ⟨v, l⟩, rfl, by simp; omega, hatv⟩
theorem reading_gen (c t f : Int) (ht : -1000000000000 ≤ t ∧ t ≤ 1000000000000) : Gen Try.prog 25 6 [.mtr c t f] 12 (fun r => ∃ d : Rdg, r = .rdg d ∧ d.vs.length ≤ 6) := by
  have h := reading_gen2 c t f ht
  unfold Gen at h ⊢
  intro b xs N hN
  exact (h b xs N hN).mono fun r cs ⟨h1, d, h2, h3, _⟩ => ⟨h1, d, h2, h3⟩
end Lg
end
section
set_option linter.all false
set_option maxRecDepth 100000
set_option maxHeartbeats 8000000
namespace Lg
open Go Go.Proofs
section appo
variable {P : Program} {Γ : Ctx} {env env' : Env} {cs cs' cf : List Chunk} {Q : Post} {R : Array Oper}
variable {i : Tmp} {ty : TypeId} {pos : String} {af : Array Edge} {rest : List Oper} {x y : Operand} {T T2 : TypeId}
/-- an owned slice is put behind another one, and stays -/
theorem Ops.append_own {E kk bb z} [hS : TySl P T E kk bb z] {ad ad2 : Option Addr} {n cap n2 cap2 : Nat} {rows rows2 : List (List Tr)} (hx : ev env x = some (.raw (.slice ad n cap))) (hy : ev env y = some (.raw (.slice ad2 n2 cap2)))
    (hp : cs.Perm (Chunk.own ad cap kk E rows :: Chunk.own ad2 cap2 kk E rows2 :: cf)) (hn : n = rows.length) (hn2 : n2 = rows2.length) (hb : (rows.length + rows2.length) * bb ≤ 140737488355328) (hm : rows.length + rows2.length ≤ 9223372036854775807) (hi : Nat.blt i Γ.n = true)
    (kont : ∀ ad' cap', Ops P Γ R rest ((i, .raw (.slice ad' (rows ++ rows2).length cap')) :: env) (Chunk.own ad' cap' kk E (rows ++ rows2) :: Chunk.own ad2 cap2 kk E rows2 :: cf) Q) :
    Ops P Γ R (⟨some i, .call ⟨.builtin .append, #[x, y], #[T, T]⟩, ty, pos, af, none⟩ :: rest) env cs Q :=
  Ops.of fun a w d => by
    subst hn
    subst hn2
    have hv := rd_raw (d.ev hx)
    have hv2 := rd_raw (d.ev hy)
    have d' := d.perm hp
    have hh := d'.has (List.Perm.refl _)
    have hh2 := d'.has (List.Perm.swap _ _ _)
    generalize hA : av Γ.M (Chunk.own ad cap kk E rows :: Chunk.own ad2 cap2 kk E rows2 :: cf) = A at hh hh2
    unfold Chunk.own at hh hh2
    obtain ⟨hk, xs, hown, hrd⟩ := hh
    obtain ⟨hk2, xs2, hown2, hrd2⟩ := hh2
    subst hA
    obtain ⟨ti, zv, hi1, hi2, hi3, hi4, hi5, hi6⟩ := hS.hE
    have hzs : zv.cells.size = kk := hS.hz _ _ hi1 hi2
    have hm' : rows.length + rows2.length ≤ maxLen := by simp only [maxLen]; omega
    have key : ∃ v' w', (Builtin.append_ #[T, T] ty #[.slice ad rows.length cap, .slice ad2 rows2.length cap2]).run P w = .ok v' w' ∧
        w'.ownsRow 0 E kk v' (rows.length + rows2.length) (xs ++ xs2) ∧ w.grownBy w' (Value.ownBlock (.slice ad rows.length cap)) ∧ (∀ b, v'.ownBlock = some b → (Value.ownBlock (.slice ad rows.length cap)) = some b ∨ w.heap.size ≤ b) := by
      rcases hown2.2 with ⟨e, h0⟩ | ⟨g, c, cur, e, _⟩
      · simp only [Value.slice.injEq] at e
        obtain ⟨rfl, e2, rfl⟩ := e
        have hxs : xs2 = [] := by
          have := hrd2.length
          rw [flat_len hk2, h0] at this
          exact List.eq_nil_of_length_eq_zero (by omega)
        subst hxs
        rw [h0]
        exact ⟨_, w, run_append_owned_none (P := P) w 0 T ty E ti kk hS.hT hi1 _ _ xs hown, by simpa using hown, ⟨rfl, rfl, rfl, Nat.le_refl _, fun _ _ _ => rfl⟩, fun b hb => .inl hb⟩
      · simp only [Value.slice.injEq] at e
        obtain ⟨rfl, _, rfl⟩ := e
        exact append_run (P := P) (ty := ty) (a := ⟨g, 0, none⟩) (m := rows2.length) (c := cap2) (news := xs2) hS.hT hi1 hi2 hi4 hi5 hzs hi6 hown (by rw [hrd2.length]; exact flat_len hk2) (hown2.cells (g := g) rfl) hrd2.one hm' hb
    obtain ⟨v', w', hrun, hown', hgr, hfresh⟩ := key
    have hform : ∃ ad' cap', v' = .slice ad' (rows ++ rows2).length cap' := by
      rcases hown'.2 with ⟨e, h0⟩ | ⟨g, c, cur, e, _⟩
      · exact ⟨none, 0, by rw [e, List.length_append, h0]⟩
      · exact ⟨_, c, by rw [e, List.length_append]⟩
    obtain ⟨ad', cap', rfl⟩ := hform
    refine ⟨_, _, .value _, w', by simp [execOp, resolve, invoke, builtin, hv, hv2, hrun] <;> rfl, .inl ⟨_, rfl, Den.put ?_ hi (raw_self _)⟩, kont ad' cap'⟩
    refine d'.turnF (c' := Chunk.own ad' cap' kk E (rows ++ rows2)) ?_ ?_ ?_ ?_
    · intro b hb
      have hb' : Value.ownBlock (.slice ad' (rows ++ rows2).length cap') = some b := by unfold Chunk.own at hb; simpa using hb
      rcases hfresh b hb' with h | h
      · exact .inl (by unfold Chunk.own; simpa using h)
      · exact .inr ⟨h, (hown'.lt b hb').2⟩
    · have : (Chunk.own ad' cap' kk E (rows ++ rows2)).fp = (Value.ownBlock (.slice ad' (rows ++ rows2).length cap')).toList := by unfold Chunk.own; rfl
      rw [this]
      cases Value.ownBlock (.slice ad' (rows ++ rows2).length cap') <;> simp
    · exact ⟨hgr.os, hgr.tape, hgr.output, hgr.size, fun b hb hn => hgr.block b hb fun e => hn (by unfold Chunk.own; simp [← e])⟩
    · intro hs _
      generalize av Γ.M (Chunk.own ad' cap' kk E (rows ++ rows2) :: Chunk.own ad2 cap2 kk E rows2 :: cf) = A' at hs ⊢
      unfold Chunk.own
      refine ⟨?_, _, by simpa using hown', ?_⟩
      · intro r hr
        rcases List.mem_append.1 hr with h | h
        · exact hk r h
        · exact hk2 r h
      · rw [List.flatten_append]
        exact (hrd.mono hs).app (hrd2.mono hs)
/-- an owned slice that holds something is not nil -/
theorem Ops.eql_nilO {E kk bb z} [hS : TySl P T E kk bb z] {ad : Option Addr} {n cap : Nat} {rows : List (List Tr)} (hx : ev env x = some (.raw (.slice ad n cap))) (hp : cs.Perm (Chunk.own ad cap kk E rows :: cf)) (hne : 0 < rows.length) (hi : Nat.blt i Γ.n = true)
    (kont : Ops P Γ R rest ((i, .bool false) :: env) cs Q) : Ops P Γ R (⟨some i, .binOp .eql T x (.const (.slice none 0 0)) T2, ty, pos, af, none⟩ :: rest) env cs Q :=
  Ops.of fun a w d => by
    have hv := rd_raw (d.ev hx)
    have hh := (d.perm hp).has (List.Perm.refl _)
    generalize av Γ.M _ = A at hh
    unfold Chunk.own at hh
    obtain ⟨hk, xs, hown, hrd⟩ := hh
    have had : ad.isNone = false := by
      rcases hown.2 with ⟨e, h0⟩ | ⟨g, c, cur, e, _⟩
      · omega
      · simp only [Value.slice.injEq] at e
        obtain ⟨rfl, _, rfl⟩ := e
        rfl
    have he : ∀ m, (Op.equalIn (m + 1) T (.slice ad n cap) (.slice none 0 0)).run P w = .ok false w := by
      intro m
      cases ad with
      | none => cases had
      | some _ => simp [Op.equalIn, run_underlying hS.hT]
    have hc : a.eval (.const (.slice none 0 0)) = .slice none 0 0 := rfl
    refine ⟨_, _, .value (.bool false), w, ?_, .inl ⟨_, rfl, Den.put d hi (raw_self _)⟩, kont⟩
    simp [execOp, hv, hc, eqGuard, binOp, Op.equal]
    rw [show Op.maxDepth = 9999 + 1 from rfl, he]
    rfl
end appo
theorem cloneO_int {ad : Option Addr} {n cap : Nat} (rows : List (List Tr)) (hk : ∀ r ∈ rows, r.length = 1) (hn : n = rows.length) (hl : 0 < rows.length ∧ rows.length ≤ 1000000) : Spec Try.prog 36 [Tr.raw (.slice ad n cap)] [Chunk.own ad cap 1 3 rows] (fun r cs => r = .sl 1 rows ∧ cs = [Chunk.own ad cap 1 3 rows]) := by
  refine Spec.body Try.func36 rfl rfl (Try.ntmps36) rfl fun w0 own0 M => ?_
  repeat' (first | refine goH ?_ | (refine Ops.k_b_eql ?_; first | (refine Ops.eql_nilO rfl goPk hl.1 rfl ?_)) | ((fail_if_success refine Ops.k_buildSlice ?_); refine goV ?_) | ((fail_if_success refine Ops.k_buildSlice ?_); refine goC (fun ad cap => ?_)) | refine goI ?_ | (refine Cw.k_cond ?_; first | (refine Cw.cond_dec rfl (fun hc => ?_) (fun hc => ?_) <;> try (exfalso; omega)) | refine Cw.cond_bool rfl (fun hc => ?_) (fun hc => ?_)) | fail)
  refine Ops.buildSlice_own (by exact Parts.nil) rfl rfl rfl (fun ad2 cap2 => ?_)
  repeat' (first | refine goH ?_ | ((fail_if_success refine Ops.k_c_append ?_); refine goV ?_) | ((fail_if_success refine Ops.k_c_append ?_); refine goC (fun ad cap => ?_)) | refine goI ?_ | (refine Cw.k_cond ?_; first | (refine Cw.cond_dec rfl (fun hc => ?_) (fun hc => ?_) <;> try (exfalso; omega)) | refine Cw.cond_bool rfl (fun hc => ?_) (fun hc => ?_)) | fail)
  refine Ops.append_own rfl rfl (List.Perm.refl _) rfl hn (by simp; omega) (by simp; omega) rfl (fun ad3 cap3 => ?_)
  rw [show rowsOf 1 0 (zeroRow [Value.int .i64 0] 0) ++ rows = rows from rfl]
  repeat' (first | refine goH ?_ | refine goV ?_ | refine goC (fun ad cap => ?_) | refine goI ?_ | (refine Cw.k_cond ?_; first | (refine Cw.cond_dec rfl (fun hc => ?_) (fun hc => ?_) <;> try (exfalso; omega)) | refine Cw.cond_bool rfl (fun hc => ?_) (fun hc => ?_)) | fail)
  exact Fin.ret (Ent.settle (s := 2) (ad := ad3) (cap := cap3) (cf := [Chunk.own ad cap 1 3 rows]) rfl (List.Perm.refl _) rfl) (Outs.one rfl rfl) ⟨rfl, rfl⟩
end Lg
end
