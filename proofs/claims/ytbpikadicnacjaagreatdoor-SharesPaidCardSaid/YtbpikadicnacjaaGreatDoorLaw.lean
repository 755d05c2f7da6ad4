/- A part of the proof of a law of this seat: it adds no condition. By an AI agent. -/
import Derived.Test.YtbpikadicnacjaaGreatDoorFrame
import Derived.Test.YtbpikadicnacjaaGreatDoorSp3
import Derived.Test.YtbpikadicnacjaaGreatDoorSGen
section
set_option linter.all false
set_option maxRecDepth 100000
set_option maxHeartbeats 8000000
namespace Lg
open Go Go.Proofs

theorem intRows_nil : intRows [] = [] := rfl
theorem intRows_snoc (l : List Int) (x : Int) : intRows l ++ [[Tr.int x]] = intRows (l ++ [x]) := by rw [intRows_app]; rfl
theorem int_set (l : List Int) (i : Nat) (v : Int) : (intRows l).set i [Tr.int v] = intRows (l.set i v) := by
  unfold intRows
  rw [List.map_set]
attribute [local irreducible] intRows
theorem order_gen (n : Nat) (hn : n ≤ 12) : Gen Tryz.prog 25 49 [.int n] 14 (fun r => ∃ l : List Int, r = .ints l ∧ l.length = n ∧ ∀ x ∈ l, 0 ≤ x ∧ x < n) := by
  unfold Gen
  intro bs xs N hN
  refine Spec.body Tryz.func49 rfl rfl (Tryz.ntmps49) rfl fun w0 own0 M => ?_
  repeat' (first | refine goH ?_ | refine goV ?_ | refine goC (fun ad cap => ?_) | refine goI ?_ | (refine Cw.k_cond ?_; first | (refine Cw.cond_dec rfl (fun hc => ?_) (fun hc => ?_) <;> try (exfalso; omega)) | refine Cw.cond_bool rfl (fun hc => ?_) (fun hc => ?_)) | refine goR ?_ | refine goP ?_ | apply PSeq.cons | apply PSeq.yes rfl rfl rfl | exact goW | fail)
  refine Cw.loopI [(0, _), (1, _), (9, _)] _ (fun q e cc => ∃ (k : Nat) (rows : List (List Tr)) (l : List Int) (ad : Option Addr) (cap : Nat), q = n - k ∧ (k ≤ n ∧ rows = intRows l ∧ rows.length = k ∧ l.length = k ∧ ∀ x ∈ l, 0 ≤ x ∧ x < n) ∧ e = [(5, Tr.raw (.slice ad k cap)), (10, .int k)] ∧ cc = [Chunk.own ad cap 1 3 rows])
    ⟨_, _, _, Ent.trans (Ent.nil 1 3) (Ent.mkP goSub goPm), 0, [], [], none, 0, rfl, ⟨by omega, intRows_nil.symm, rfl, rfl, by simp⟩, rfl, rfl⟩ ?_
  rintro _ _ _ ⟨k, rows, l, ad, cap, rfl, ⟨hk, hrs, hrl, hll, hlb⟩, rfl, rfl⟩
  by_cases hkl : k < n
  · have hrs2 : rows ++ [[Tr.int k]] = intRows (l ++ [(k : Int)]) := by rw [hrs, intRows_snoc]
    have hrl2 : (rows ++ [[Tr.int k]]).length = k + 1 := by rw [List.length_append, hrl]; rfl
    have hlb2 : ∀ x ∈ l ++ [(k : Int)], 0 ≤ x ∧ x < n := by
      intro x hx
      rcases List.mem_append.1 hx with h | h
      · exact hlb x h
      · rw [List.mem_singleton.1 h]; omega
    clear hrs hlb
    repeat' (first | refine goH ?_ | refine goV ?_ | refine goC (fun ad cap => ?_) | refine goI ?_ | (refine Cw.k_cond ?_; first | (refine Cw.cond_dec rfl (fun hc => ?_) (fun hc => ?_) <;> try (exfalso; omega)) | refine Cw.cond_bool rfl (fun hc => ?_) (fun hc => ?_)) | refine goR ?_ | refine goP ?_ | apply PSeq.cons | apply PSeq.yes rfl rfl rfl | exact goW | fail)
    erw [hrl2]
    exact ⟨_, _, _, (Ent.mk goSub goTk), ⟨k + 1, _, l ++ [(k : Int)], _, _, rfl, ⟨by omega, hrs2, hrl2, by simp [hll], hlb2⟩, rfl, rfl⟩, by omega⟩
  have hkn : k = n := by omega
  subst hkn
  subst hrs
  clear hkl hk
  repeat' (first | refine goH ?_ | refine goV ?_ | refine goC (fun ad cap => ?_) | refine goI ?_ | (refine Cw.k_cond ?_; first | (refine Cw.cond_dec rfl (fun hc => ?_) (fun hc => ?_) <;> try (exfalso; omega)) | refine Cw.cond_bool rfl (fun hc => ?_) (fun hc => ?_)) | refine goR ?_ | refine goP ?_ | apply PSeq.cons | apply PSeq.yes rfl rfl rfl | exact goW | fail)
  refine Cw.loopI [(0, _), (5, _)] _ (fun q e cc => ∃ (i : Int) (l : List Int) (c : Nat), q = i.toNat ∧ ((-1 ≤ i ∧ i < k) ∧ (intRows l).length = k ∧ l.length = k ∧ (∀ x ∈ l, 0 ≤ x ∧ x < k) ∧ c + i ≤ N + k) ∧ e = [(7, .int i)] ∧ cc = [Chunk.own ad cap 1 3 (intRows l), Chunk.strm 25 bs (intRows xs) c])
    ⟨_, _, _, (Ent.mkP goSub goPm), (k : Int) - 1, l, N, rfl, ⟨by omega, hrl, hll, hlb, by omega⟩, rfl, rfl⟩ ?_
  clear hrl hll hlb
  rintro _ _ _ ⟨i, l, c, rfl, ⟨hi, hrl, hll, hlb, hc⟩, rfl, rfl⟩
  by_cases hi0 : 0 < i
  rotate_left
  · repeat' (first | refine goH ?_ | refine goV ?_ | refine goC (fun ad cap => ?_) | refine goI ?_ | (refine Cw.k_cond ?_; first | (refine Cw.cond_dec rfl (fun hc => ?_) (fun hc => ?_) <;> try (exfalso; omega)) | refine Cw.cond_bool rfl (fun hc => ?_) (fun hc => ?_)) | refine goR ?_ | refine goP ?_ | apply PSeq.cons | apply PSeq.yes rfl rfl rfl | exact goW | fail)
    rw [← hrl]
    refine Fin.ret (Ent.trans (Ent.settle (s := 4) rfl goPk rfl) (Ent.strm_only goPk (by omega))) (Outs.sole rfl goOe) ⟨rfl, l, rfl, by rw [hrl]; exact hll, by rw [hrl]; exact hlb⟩
  repeat' (first | refine goH ?_ | refine goV ?_ | refine goC (fun ad cap => ?_) | refine goI ?_ | (refine Cw.k_cond ?_; first | (refine Cw.cond_dec rfl (fun hc => ?_) (fun hc => ?_) <;> try (exfalso; omega)) | refine Cw.cond_bool rfl (fun hc => ?_) (fun hc => ?_)) | (refine Ops.k_calla ?_; first | (refine Ops.k_callf 38 ?_; (refine Ops.callG (next_gen _ (by omega)) (Evs.cons rfl (Evs.cons rfl Evs.nil)) goPk (by omega) rfl ?_; rintro r ⟨j, rfl, hj⟩; unfold InRange at hj))) | fail)
  obtain ⟨x, hx⟩ := at_lt (l := l) (k := i.toNat) (by omega)
  obtain ⟨y, hy⟩ := at_lt (l := l) (k := j.toNat) (by omega)
  have r1 := intRows_at hx
  have r2 := intRows_at hy
  have r3 : ((intRows l).set i.toNat [Tr.int y])[j.toNat]? = some [Tr.int y] := by
    rw [int_set]
    refine intRows_at ?_
    rw [List.getElem?_set]
    by_cases h : i.toNat = j.toNat
    · rw [if_pos h, if_pos (by omega)]
    · rw [if_neg h]; exact hy
  first | refine Cw.region_YP (fun ξ S => Chunk.strm 25 bs (intRows xs) (c + 1) :: Chunk.own ad cap 1 3 (stg (S 15) (stg (S 13) (intRows l) ((intRows l).set i.toNat [.int y])) (((intRows l).set i.toNat [.int y]).set j.toNat [.int x])) :: []) rfl (by decide +kernel) rfl ((fun (ξ : Nat → Value) (S : Nat → Bool) => Chunk.strm 25 bs (intRows xs) (c + 1) :: Chunk.own ad cap 1 3 (stg (S 15) (stg (S 13) (intRows l) ((intRows l).set i.toNat [.int y])) (((intRows l).set i.toNat [.int y]).set j.toNat [.int x])) :: []) (fun _ => undef) (fun _ => false)) (by simp only [upd_same, updD_same, upd_ne, updD_ne, ne_eq, Nat.reduceEqDiff, not_false_eq_true, stg_t, stg_f, vAd_s, vCap_s, blk_p, List.cons_append, List.nil_append, b2n_t, b2n_f]; exact goXm) (fun _ => rfl) ?_ | fail
  apply YSeq.w (by intro _ _ _; rfl)
  · intro ξ S h1 h2 h3 h4
    have hN0_13 := closed_false h1 h3 (k := 13) rfl (by decide)
    have hN0_15 := closed_false h1 h3 (k := 15) rfl (by decide)
    try simp only [upd_same, updD_same, upd_ne, updD_ne, ne_eq, Nat.reduceEqDiff, not_false_eq_true, stg_t, stg_f, vAd_s, vCap_s, blk_p, List.cons_append, List.nil_append, b2n_t, b2n_f, hN0_13, hN0_15]
    exact goW
  · intro ξ v; rfl
  · intro ξ k v S h3 hn hk
    first
    | rfl
  apply YSeq.w (by intro _ _ _; rfl)
  · intro ξ S h1 h2 h3 h4
    have hN1_13 := closed_false h1 h3 (k := 13) rfl (by decide)
    have hN1_15 := closed_false h1 h3 (k := 15) rfl (by decide)
    try simp only [upd_same, updD_same, upd_ne, updD_ne, ne_eq, Nat.reduceEqDiff, not_false_eq_true, stg_t, stg_f, vAd_s, vCap_s, blk_p, List.cons_append, List.nil_append, b2n_t, b2n_f, hN1_13, hN1_15]
    exact goW
  · intro ξ v; rfl
  · intro ξ k v S h3 hn hk
    first
    | rfl
  apply YSeq.w (by intro _ _ _; rfl)
  · intro ξ S h1 h2 h3 h4
    have hN2_15 := closed_false h1 h3 (k := 15) rfl (by decide)
    try simp only [upd_same, updD_same, upd_ne, updD_ne, ne_eq, Nat.reduceEqDiff, not_false_eq_true, stg_t, stg_f, vAd_s, vCap_s, blk_p, List.cons_append, List.nil_append, b2n_t, b2n_f, hN2_15]
    exact goW
  · intro ξ v; rfl
  · intro ξ k v S h3 hn hk
    first
    | rfl
  apply YSeq.w (by intro _ _ _; rfl)
  · intro ξ S h1 h2 h3 h4
    have hN3_15 := closed_false h1 h3 (k := 15) rfl (by decide)
    try simp only [upd_same, updD_same, upd_ne, updD_ne, ne_eq, Nat.reduceEqDiff, not_false_eq_true, stg_t, stg_f, vAd_s, vCap_s, blk_p, List.cons_append, List.nil_append, b2n_t, b2n_f, hN3_15]
    exact goW
  · intro ξ v; rfl
  · intro ξ k v S h3 hn hk
    first
    | rfl
  apply YSeq.w (by intro _ _ _; rfl)
  · intro ξ S h1 h2 h3 h4
    have hN4_13 := closed_false h1 h3 (k := 13) rfl (by decide)
    have hN4_15 := closed_false h1 h3 (k := 15) rfl (by decide)
    try simp only [upd_same, updD_same, upd_ne, updD_ne, ne_eq, Nat.reduceEqDiff, not_false_eq_true, stg_t, stg_f, vAd_s, vCap_s, blk_p, List.cons_append, List.nil_append, b2n_t, b2n_f, hN4_13, hN4_15]
    exact goW
  · intro ξ v; rfl
  · intro ξ k v S h3 hn hk
    first
    | rfl
  apply YSeq.w (by intro _ _ _; rfl)
  · intro ξ S h1 h2 h3 h4
    have hN5_13 := closed_false h1 h3 (k := 13) rfl (by decide)
    have hN5_15 := closed_false h1 h3 (k := 15) rfl (by decide)
    try simp only [upd_same, updD_same, upd_ne, updD_ne, ne_eq, Nat.reduceEqDiff, not_false_eq_true, stg_t, stg_f, vAd_s, vCap_s, blk_p, List.cons_append, List.nil_append, b2n_t, b2n_f, hN5_13, hN5_15]
    exact goW
  · intro ξ v; rfl
  · intro ξ k v S h3 hn hk
    first
    | rfl
  apply YSeq.w (by intro _ _ _; rfl)
  · intro ξ S h1 h2 h3 h4
    have hN6_13 := closed_false h1 h3 (k := 13) rfl (by decide)
    have hN6_15 := closed_false h1 h3 (k := 15) rfl (by decide)
    try simp only [upd_same, updD_same, upd_ne, updD_ne, ne_eq, Nat.reduceEqDiff, not_false_eq_true, stg_t, stg_f, vAd_s, vCap_s, blk_p, List.cons_append, List.nil_append, b2n_t, b2n_f, hN6_13, hN6_15]
    exact goW
  · intro ξ v; rfl
  · intro ξ k v S h3 hn hk
    first
    | rfl
  apply YSeq.w (by intro _ _ _; rfl)
  · intro ξ S h1 h2 h3 h4
    have hN7_13 := closed_false h1 h3 (k := 13) rfl (by decide)
    have hN7_15 := closed_false h1 h3 (k := 15) rfl (by decide)
    try simp only [upd_same, updD_same, upd_ne, updD_ne, ne_eq, Nat.reduceEqDiff, not_false_eq_true, stg_t, stg_f, vAd_s, vCap_s, blk_p, List.cons_append, List.nil_append, b2n_t, b2n_f, hN7_13, hN7_15]
    exact goW
  · intro ξ v; rfl
  · intro ξ k v S h3 hn hk
    first
    | rfl
  apply YSeq.w (by intro _ _ _; rfl)
  · intro ξ S h1 h2 h3 h4
    have hN8_10 := closed_false h1 h3 (k := 10) rfl (by decide)
    have hN8_11 := closed_false hN8_10 h3 (k := 11) rfl (by decide)
    have hN8_13 := closed_false hN8_11 h3 (k := 13) rfl (by decide)
    have hN8_15 := closed_false h1 h3 (k := 15) rfl (by decide)
    try simp only [upd_same, updD_same, upd_ne, updD_ne, ne_eq, Nat.reduceEqDiff, not_false_eq_true, stg_t, stg_f, vAd_s, vCap_s, blk_p, List.cons_append, List.nil_append, b2n_t, b2n_f, hN8_13, hN8_15]
    exact goW
  · intro ξ v; rfl
  · intro ξ k v S h3 hn hk
    first
    | rfl
  apply YSeq.w (by intro _ _ _; rfl)
  · intro ξ S h1 h2 h3 h4
    have hN9_10 := closed_false h1 h3 (k := 10) rfl (by decide)
    have hN9_11 := closed_false hN9_10 h3 (k := 11) rfl (by decide)
    have hN9_13 := closed_false hN9_11 h3 (k := 13) rfl (by decide)
    have hN9_15 := closed_false h1 h3 (k := 15) rfl (by decide)
    try simp only [upd_same, updD_same, upd_ne, updD_ne, ne_eq, Nat.reduceEqDiff, not_false_eq_true, stg_t, stg_f, vAd_s, vCap_s, blk_p, List.cons_append, List.nil_append, b2n_t, b2n_f, hN9_13, hN9_15]
    exact goW
  · intro ξ v; rfl
  · intro ξ k v S h3 hn hk
    first
    | rfl
  apply YSeq.w (by intro _ _ _; rfl)
  · intro ξ S h1 h2 h3 h4
    have hN10_11 := closed_false h1 h3 (k := 11) rfl (by decide)
    have hN10_13 := closed_false hN10_11 h3 (k := 13) rfl (by decide)
    have hN10_15 := closed_false h1 h3 (k := 15) rfl (by decide)
    try simp only [upd_same, updD_same, upd_ne, updD_ne, ne_eq, Nat.reduceEqDiff, not_false_eq_true, stg_t, stg_f, vAd_s, vCap_s, blk_p, List.cons_append, List.nil_append, b2n_t, b2n_f, hN10_13, hN10_15]
    exact goW
  · intro ξ v; rfl
  · intro ξ k v S h3 hn hk
    first
    | rfl
  apply YSeq.w (by intro _ _ _; rfl)
  · intro ξ S h1 h2 h3 h4
    have hN11_13 := closed_false h1 h3 (k := 13) rfl (by decide)
    have hN11_15 := closed_false h1 h3 (k := 15) rfl (by decide)
    try simp only [upd_same, updD_same, upd_ne, updD_ne, ne_eq, Nat.reduceEqDiff, not_false_eq_true, stg_t, stg_f, vAd_s, vCap_s, blk_p, List.cons_append, List.nil_append, b2n_t, b2n_f, hN11_13, hN11_15]
    exact goW
  · intro ξ v; rfl
  · intro ξ k v S h3 hn hk
    first
    | rfl
  apply YSeq.w (by intro _ _ _; rfl)
  · intro ξ S h1 h2 h3 h4
    have hN12_13 := closed_false h1 h3 (k := 13) rfl (by decide)
    have hN12_15 := closed_false h1 h3 (k := 15) rfl (by decide)
    try simp only [upd_same, updD_same, upd_ne, updD_ne, ne_eq, Nat.reduceEqDiff, not_false_eq_true, stg_t, stg_f, vAd_s, vCap_s, blk_p, List.cons_append, List.nil_append, b2n_t, b2n_f, hN12_13, hN12_15]
    exact goW
  · intro ξ v; rfl
  · intro ξ k v S h3 hn hk
    first
    | rfl
  apply YSeq.storeO
  · intro ξ S h1 h2 h3 h4
    have hN13_15 := closed_false h1 h3 (k := 15) rfl (by decide)
    simp only [upd_same, updD_same, upd_ne, updD_ne, ne_eq, Nat.reduceEqDiff, not_false_eq_true, stg_t, stg_f, vAd_s, vCap_s, blk_p, List.cons_append, List.nil_append, b2n_t, b2n_f, h1, hN13_15]
    refine ⟨_, _, _, _, _, _, _, _, _, _, rfl, rfl, inferInstance, goXp, (by first | rfl | assumption | (simp [*]; done)), (by decide), ?_⟩
    exact goXm
  apply YSeq.w (by intro _ _ _; rfl)
  · intro ξ S h1 h2 h3 h4
    have hY14_13 : S 13 = true := h2 13 (by decide)
    have hN14_15 := closed_false h1 h3 (k := 15) rfl (by decide)
    try simp only [upd_same, updD_same, upd_ne, updD_ne, ne_eq, Nat.reduceEqDiff, not_false_eq_true, stg_t, stg_f, vAd_s, vCap_s, blk_p, List.cons_append, List.nil_append, b2n_t, b2n_f, hY14_13, hN14_15]
    exact goW
  · intro ξ v; rfl
  · intro ξ k v S h3 hn hk
    first
    | rfl
  apply YSeq.storeO
  · intro ξ S h1 h2 h3 h4
    have hY15_13 : S 13 = true := h2 13 (by decide)
    simp only [upd_same, updD_same, upd_ne, updD_ne, ne_eq, Nat.reduceEqDiff, not_false_eq_true, stg_t, stg_f, vAd_s, vCap_s, blk_p, List.cons_append, List.nil_append, b2n_t, b2n_f, hY15_13, h1]
    refine ⟨_, _, _, _, _, _, _, _, _, _, rfl, rfl, inferInstance, goXp, (by first | rfl | assumption | (simp [*]; done)), (by decide), ?_⟩
    exact goXm
  refine YSeq.nil fun ξ hf => ?_
  refine ⟨[(0, _), (5, _), (7, _), (8, _)], _, Ent.trans (Ent.eqc rfl (by first | (simp only [upd_same, updD_same, upd_ne, updD_ne, ne_eq, Nat.reduceEqDiff, not_false_eq_true, stg_t, stg_f, vAd_s, vCap_s, blk_p, List.cons_append, List.nil_append, b2n_t, b2n_f, ownV, slV, ptV] <;> rfl) | rfl)) (Ent.sub goSub), ?_⟩
  clear hf
  have hb : ∀ z ∈ (l.set i.toNat y).set j.toNat x, 0 ≤ z ∧ z < k := by
    intro z hz
    rcases List.mem_or_eq_of_mem_set hz with h | h
    · rcases List.mem_or_eq_of_mem_set h with h | h
      · exact hlb z h
      · rw [h]; exact hlb y (List.mem_of_getElem? hy)
    · rw [h]; exact hlb x (List.mem_of_getElem? hx)
  have hl2 : ((l.set i.toNat y).set j.toNat x).length = k := by simp [hll]
  rw [int_set, int_set]
  clear r1 r2 r3 hx hy
  repeat' (first | refine goH ?_ | refine goV ?_ | refine goC (fun ad cap => ?_) | refine goI ?_ | (refine Cw.k_cond ?_; first | (refine Cw.cond_dec rfl (fun hc => ?_) (fun hc => ?_) <;> try (exfalso; omega)) | refine Cw.cond_bool rfl (fun hc => ?_) (fun hc => ?_)) | refine goR ?_ | refine goP ?_ | apply PSeq.cons | apply PSeq.yes rfl rfl rfl | exact goW | fail)
  exact ⟨_, _, _, (Ent.mk goSub goTk), ⟨i - 1, _, _, rfl, ⟨by omega, by rw [intRows_len]; exact hl2, hl2, hb, by omega⟩, rfl, rfl⟩, by omega⟩
end Lg
end
section
set_option linter.all false
set_option maxRecDepth 100000
set_option maxHeartbeats 8000000
namespace Lg
open Go Go.Proofs

/-! ### what the law draws -/
theorem tiers_gen : Gen Tryz.prog 25 5 [] 20 (fun r => ∃ l : List Tier, r = .tiers l ∧ l.length ≤ 4) := by
  unfold Gen
  intro b xs N hN
  refine Spec.body Tryz.func5 rfl rfl (Tryz.ntmps5) rfl fun w0 own0 M => ?_
  repeat' (first | refine goH ?_ | (refine Ops.k_buildSlice ?_; first | (refine Ops.k_buildSlice1 ?_; refine Ops.buildSlice_own (E := 72) (by exact Parts.cons rfl rfl rfl (by exact Parts.nil)) goNt rfl rfl (fun ad cap => ?_))) | refine goV ?_ | refine goC (fun ad cap => ?_) | refine goI ?_ | (refine Cw.k_cond ?_; first | (refine Cw.cond_dec rfl (fun hc => ?_) (fun hc => ?_) <;> try (exfalso; omega)) | refine Cw.cond_bool rfl (fun hc => ?_) (fun hc => ?_)) | (refine Ops.k_calla ?_; first | (refine Ops.k_callf 38 ?_; (refine Ops.callG (next_gen 3 (by omega)) (Evs.cons rfl (Evs.cons rfl Evs.nil)) goPk (by omega) rfl ?_; rintro r ⟨q, rfl, hq⟩; unfold InRange at hq)) | (refine Ops.k_callf 6 ?_; (refine Ops.callG (pick_gen (by repeat' (first | exact IsInts.nil | apply IsInts.cons)) (by simp)) (Evs.cons rfl (Evs.cons rfl Evs.nil)) goPk (by omega) rfl ?_; rintro r ⟨u, rfl, hu⟩; clear hu))) | fail)
  refine Cw.loopI [(0, _), (11, _)] _ (fun z e cc => ∃ (k : Nat) (ad : Option Addr) (cap n : Nat) (rows : List (List Tr)) (c : Nat) (at_ : Int), z = q.toNat - k ∧ ((k : Int) ≤ q ∧ (∃ l : List Tier, rows = l.map Tier.row) ∧ rows.length = n ∧ 1 ≤ n ∧ n ≤ k + 1 ∧ c ≤ N + 2 + 2 * k ∧ 0 ≤ at_ ∧ at_ ≤ k * 10000) ∧ e = [(3, Tr.raw (.slice ad n cap)), (4, .int at_), (12, .int k)] ∧ cc = [Chunk.own ad cap 2 72 rows, Chunk.strm 25 b (intRows xs) c])
    ⟨_, _, _, (Ent.mkP goSub goPm), 0, _, _, _, _, _, _, rfl, ⟨by omega, ⟨[⟨0, u⟩], rfl⟩, rfl, by simp, by simp, by omega, by omega, by omega⟩, rfl, rfl⟩ ?_
  rintro _ _ _ ⟨k, ad, cap, n, rows, c, at_, rfl, ⟨hk, ⟨l, hrows⟩, hrl, hn1, hn2, hc, ha1, ha2⟩, rfl, rfl⟩
  have key : ∀ x : Tier, rows ++ [x.row] = (l ++ [x]).map Tier.row := by intro x; rw [hrows, List.map_append]; rfl
  by_cases hkl : (k : Int) < q
  · repeat' (first | refine goH ?_ | refine goV ?_ | refine goC (fun ad cap => ?_) | refine goI ?_ | (refine Cw.k_cond ?_; first | (refine Cw.cond_dec rfl (fun hc => ?_) (fun hc => ?_) <;> try (exfalso; omega)) | refine Cw.cond_bool rfl (fun hc => ?_) (fun hc => ?_)) | (refine Ops.k_calla ?_; first | (refine Ops.k_callf 6 ?_; (refine Ops.callG (pick_gen (by repeat' (first | exact IsInts.nil | apply IsInts.cons)) (by simp)) (Evs.cons rfl (Evs.cons rfl Evs.nil)) goPk (by omega) rfl ?_; rintro r ⟨v, rfl, hu⟩; have hv : 0 ≤ v ∧ v ≤ 10000 := (by simp at hu; omega); clear hu))) | fail)
    exact ⟨_, _, _, (Ent.mk goSub goTk), ⟨k + 1, _, _, _, _, _, _, rfl, ⟨by omega, ⟨_, key ⟨_, _⟩⟩, rfl, by simp, by simp only [List.length_append, List.length_cons, List.length_nil]; omega, by omega, by omega, by omega⟩, rfl, rfl⟩, by omega⟩
  obtain ⟨x0, hx0⟩ := at_lt (l := l) (k := 0) (by rw [hrows, List.length_map] at hrl; omega)
  have q0 : rows[(0 : Int).toNat]? = some [.int x0.fr, .int x0.rt] := by rw [hrows]; exact rows_at hx0
  have hset : ∀ v : Int, rows.set (0 : Int).toNat [.int v, .int x0.rt] = (l.set 0 ⟨v, x0.rt⟩).map Tier.row := by intro v; rw [hrows, List.map_set]; rfl
  have hll : l.length = n := by rw [hrows, List.length_map] at hrl; exact hrl
  have hrl3 : ∀ v : Int, (rows.set (0 : Int).toNat [.int v, .int x0.rt]).length = n := fun v => by rw [List.length_set, hrl]
  repeat' (first | refine goH ?_ | refine goV ?_ | refine goC (fun ad cap => ?_) | refine goI ?_ | (refine Cw.k_cond ?_; first | (refine Cw.cond_dec rfl (fun hc => ?_) (fun hc => ?_) <;> try (exfalso; omega)) | refine Cw.cond_bool rfl (fun hc => ?_) (fun hc => ?_)) | (refine Ops.k_calla ?_; first | (refine Ops.k_callf 39 ?_; (refine Ops.callG (flip_gen _ (by omega)) (Evs.cons rfl (Evs.cons rfl Evs.nil)) goPk (by omega) rfl ?_; rintro r ⟨f, rfl⟩)) | (refine Ops.k_callf 38 ?_; (refine Ops.callG (next_gen 4 (by omega)) (Evs.cons rfl (Evs.cons rfl Evs.nil)) goPk (by omega) rfl ?_; rintro r ⟨sw, rfl, hsw⟩; unfold InRange at hsw)) | (refine Ops.k_callf 6 ?_; (refine Ops.callG (pick_gen (by repeat' (first | exact IsInts.nil | apply IsInts.cons)) (by simp)) (Evs.cons rfl (Evs.cons rfl Evs.nil)) goPk (by omega) rfl ?_; rintro r ⟨v, rfl, hu⟩; clear hu))) | fail)
  · refine Fin.ret (Ent.trans (Ent.nilsl 2 (s := 2) rfl) (Ent.strm_only goPk (by omega))) (Outs.sole rfl goOe) ⟨rfl, [], rfl, by simp⟩
  · exact Fin.ret (Ent.trans (Ent.settle (s := 2) rfl goPk (hrl3 _).symm) (Ent.strm_only goPk (by omega))) (Outs.one rfl rfl) ⟨rfl, _, congrArg (Tr.sl 2) (hset _), by rw [List.length_set]; omega⟩
  · exact Fin.ret (Ent.trans (Ent.settle (s := 2) rfl goPk rfl) (Ent.strm_only goPk (by omega))) (Outs.one rfl rfl) ⟨rfl, _, congrArg (Tr.sl 2) (key ⟨_, _⟩), by simp; omega⟩
  · exact Fin.ret (Ent.trans (Ent.settle (s := 2) rfl goPk hrl.symm) (Ent.strm_only goPk (by omega))) (Outs.one rfl rfl) ⟨rfl, _, congrArg (Tr.sl 2) hrows, by omega⟩
theorem charges_gen : Gen Tryz.prog 25 16 [] 20 (fun r => ∃ l : List Chg, r = .chgs l ∧ l.length ≤ 6) := by
  unfold Gen
  intro b xs N hN
  refine Spec.body Tryz.func16 rfl rfl (Tryz.ntmps16) rfl fun w0 own0 M => ?_
  repeat' (first | refine goH ?_ | refine goV ?_ | refine goC (fun ad cap => ?_) | refine goI ?_ | (refine Cw.k_cond ?_; first | (refine Cw.cond_dec rfl (fun hc => ?_) (fun hc => ?_) <;> try (exfalso; omega)) | refine Cw.cond_bool rfl (fun hc => ?_) (fun hc => ?_)) | (refine Ops.k_calla ?_; first | (refine Ops.k_callf 38 ?_; (refine Ops.callG (next_gen 6 (by omega)) (Evs.cons rfl (Evs.cons rfl Evs.nil)) goPk (by omega) rfl ?_; rintro r ⟨q, rfl, hq⟩; unfold InRange at hq))) | fail)
  refine Cw.loopI [(0, _), (5, _)] _ (fun z e cc => ∃ (k : Nat) (ad : Option Addr) (cap n : Nat) (rows : List (List Tr)) (c : Nat), z = q.toNat - k ∧ ((k : Int) ≤ q ∧ (∃ l : List Chg, rows = l.map Chg.row) ∧ rows.length = n ∧ n ≤ k ∧ c ≤ N + 1 + 2 * k) ∧ e = [(3, Tr.raw (.slice ad n cap)), (6, .int k)] ∧ cc = [Chunk.own ad cap 2 77 rows, Chunk.strm 25 b (intRows xs) c])
    ⟨_, _, _, Ent.trans (Ent.nil 2 77) (Ent.mkP goSub goPm), 0, none, 0, 0, [], _, rfl, ⟨by omega, ⟨[], rfl⟩, rfl, by omega, by omega⟩, rfl, rfl⟩ ?_
  rintro _ _ _ ⟨k, ad, cap, n, rows, c, rfl, ⟨hk, ⟨l, hrows⟩, hrl, hn, hc⟩, rfl, rfl⟩
  have key : ∀ x : Chg, rows ++ [x.row] = (l ++ [x]).map Chg.row := by intro x; rw [hrows, List.map_append]; rfl
  have hll : l.length = n := by rw [hrows, List.length_map] at hrl; exact hrl
  by_cases hkl : (k : Int) < q
  · repeat' (first | refine goH ?_ | refine goV ?_ | refine goC (fun ad cap => ?_) | refine goI ?_ | (refine Cw.k_cond ?_; first | (refine Cw.cond_dec rfl (fun hc => ?_) (fun hc => ?_) <;> try (exfalso; omega)) | refine Cw.cond_bool rfl (fun hc => ?_) (fun hc => ?_)) | (refine Ops.k_calla ?_; first | (refine Ops.k_callf 6 ?_; (refine Ops.callG (pick_gen (by repeat' (first | exact IsInts.nil | apply IsInts.cons)) (by simp)) (Evs.cons rfl (Evs.cons rfl Evs.nil)) goPk (by omega) rfl ?_; rintro r ⟨v, rfl, hu⟩; clear hu))) | fail)
    exact ⟨_, _, _, (Ent.mk goSub goTk), ⟨k + 1, _, _, _, _, _, rfl, ⟨by omega, ⟨_, key ⟨_, _⟩⟩, rfl, by simp only [List.length_append, List.length_cons, List.length_nil]; omega, by omega⟩, rfl, rfl⟩, by omega⟩
  repeat' (first | refine goH ?_ | refine goV ?_ | refine goC (fun ad cap => ?_) | refine goI ?_ | (refine Cw.k_cond ?_; first | (refine Cw.cond_dec rfl (fun hc => ?_) (fun hc => ?_) <;> try (exfalso; omega)) | refine Cw.cond_bool rfl (fun hc => ?_) (fun hc => ?_)) | (refine Ops.k_calla ?_; first | (refine Ops.k_callf 39 ?_; (refine Ops.callG (flip_gen _ (by omega)) (Evs.cons rfl (Evs.cons rfl Evs.nil)) goPk (by omega) rfl ?_; rintro r ⟨f, rfl⟩)) | (refine Ops.k_callf 6 ?_; (refine Ops.callG (pick_gen (by repeat' (first | exact IsInts.nil | apply IsInts.cons)) (by simp)) (Evs.cons rfl (Evs.cons rfl Evs.nil)) goPk (by omega) rfl ?_; rintro r ⟨v, rfl, hu⟩; clear hu))) | fail)
  · exact Fin.ret (Ent.trans (Ent.settle (s := 2) rfl goPk rfl) (Ent.strm_only goPk (by omega))) (Outs.one rfl rfl) ⟨rfl, _, congrArg (Tr.sl 2) (key ⟨_, _⟩), by simp; omega⟩
  · exact Fin.ret (Ent.trans (Ent.settle (s := 2) rfl goPk hrl.symm) (Ent.strm_only goPk (by omega))) (Outs.one rfl rfl) ⟨rfl, _, congrArg (Tr.sl 2) hrows, by omega⟩
def NmBd (l : List Nm) : Prop := ∀ x ∈ l, -1000000000 ≤ x.many ∧ x.many ≤ 1000000000
theorem NmBd.snoc {l : List Nm} (h : NmBd l) {x : Nm} (hx : -1000000000 ≤ x.many ∧ x.many ≤ 1000000000) : NmBd (l ++ [x]) := by
  intro y hy
  rcases List.mem_append.1 hy with h2 | h2
  · exact h y h2
  · rw [List.mem_singleton.1 h2]; exact hx
theorem partners_gen : Gen Tryz.prog 25 19 [] 40 (fun r => ∃ l : List Nm, r = .nms l ∧ l.length ≤ 5 ∧ NmBd l) := by
  have hord := order_gen 4 (by omega)
  unfold Gen
  intro b xs N hN
  refine Spec.body Tryz.func19 rfl rfl (Tryz.ntmps19) rfl fun w0 own0 M => ?_
  repeat' (first | refine goH ?_ | refine goV ?_ | refine goC (fun ad cap => ?_) | refine goI ?_ | (refine Cw.k_cond ?_; first | (refine Cw.cond_dec rfl (fun hc => ?_) (fun hc => ?_) <;> try (exfalso; omega)) | refine Cw.cond_bool rfl (fun hc => ?_) (fun hc => ?_)) | (refine Ops.k_calla ?_; first | (refine Ops.k_callf 49 ?_; (refine Ops.callG hord (Evs.cons rfl (Evs.cons rfl Evs.nil)) goPk (by omega) rfl ?_; rintro r ⟨o, rfl, hol, hom⟩))) | refine goR ?_ | refine goP ?_ | apply PSeq.cons | apply PSeq.yes rfl rfl rfl | exact goW | fail)
  have hoL := intRows_len o
  rw [hoL, hol]
  refine Cw.loopI [(0, _), (4, _), (9, _), (10, .int 4)] _ (fun z e cc => ∃ (k : Nat) (ad : Option Addr) (cap n : Nat) (rows : List (List Tr)) (c : Nat), z = 4 - k ∧ (k ≤ 4 ∧ (∃ l : List Nm, rows = l.map Nm.row ∧ NmBd l) ∧ rows.length = n ∧ n ≤ k ∧ c ≤ N + 14 + 2 * k) ∧ e = [(3, Tr.raw (.slice ad n cap)), (11, .int k)] ∧ cc = [Chunk.own ad cap 2 69 rows, Chunk.strm 25 b (intRows xs) c])
    ⟨_, _, _, Ent.trans (Ent.nil 2 69) (Ent.mkP goSub goPm), 0, none, 0, 0, [], _, rfl, ⟨by omega, ⟨[], rfl, fun x hx => by cases hx⟩, rfl, by omega, by omega⟩, rfl, rfl⟩ ?_
  rintro _ _ _ ⟨k, ad, cap, n, rows, c, rfl, ⟨hk, ⟨l, hrows, hlb⟩, hrl, hn, hc⟩, rfl, rfl⟩
  have key : ∀ x : Nm, rows ++ [x.row] = (l ++ [x]).map Nm.row := by intro x; rw [hrows, List.map_append]; rfl
  have hll : l.length = n := by rw [hrows, List.length_map] at hrl; exact hrl
  by_cases hkl : k < 4
  · obtain ⟨x, hx⟩ := at_lt (l := o) (k := k) (by omega)
    have q0 := intRows_at hx
    have hxb := hom x (List.mem_of_getElem? hx)
    obtain ⟨y, hy⟩ : ∃ y : ByteArray, ([[Tr.str ⟨#[112, 97]⟩], [Tr.str ⟨#[112, 98]⟩], [Tr.str ⟨#[112, 99]⟩], [Tr.str ⟨#[112, 100]⟩]] : List (List Tr))[x.toNat]? = some [Tr.str y] := by
      obtain ⟨m, hm⟩ : ∃ m, x.toNat = m := ⟨_, rfl⟩
      rw [hm]
      match m, (show m < 4 by omega) with
      | 0, _ => exact ⟨_, rfl⟩
      | 1, _ => exact ⟨_, rfl⟩
      | 2, _ => exact ⟨_, rfl⟩
      | 3, _ => exact ⟨_, rfl⟩
    repeat' (first | refine goH ?_ | refine goV ?_ | refine goC (fun ad cap => ?_) | refine goI ?_ | (refine Cw.k_cond ?_; first | (refine Cw.cond_dec rfl (fun hc => ?_) (fun hc => ?_) <;> try (exfalso; omega)) | refine Cw.cond_bool rfl (fun hc => ?_) (fun hc => ?_)) | (refine Ops.k_calla ?_; first | (refine Ops.k_callf 39 ?_; (refine Ops.callG (flip_gen _ (by omega)) (Evs.cons rfl (Evs.cons rfl Evs.nil)) goPk (by omega) rfl ?_; rintro r ⟨f, rfl⟩))) | fail)
    · first | refine Cw.region_YP (fun ξ S => Chunk.strm 25 b (intRows xs) (c + 1 + b2n (S 7)) :: stg (S 10) (Chunk.own ad cap 2 69 rows) (ownV (ξ 10) 2 69 (rows ++ [[.str y, .int (vInt (ξ 7))]])) :: []) rfl (by decide +kernel) rfl ((fun (ξ : Nat → Value) (S : Nat → Bool) => Chunk.strm 25 b (intRows xs) (c + 1 + b2n (S 7)) :: stg (S 10) (Chunk.own ad cap 2 69 rows) (ownV (ξ 10) 2 69 (rows ++ [[.str y, .int (vInt (ξ 7))]])) :: []) (fun _ => undef) (fun _ => false)) (by simp only [upd_same, updD_same, upd_ne, updD_ne, ne_eq, Nat.reduceEqDiff, not_false_eq_true, stg_t, stg_f, vAd_s, vCap_s, blk_p, List.cons_append, List.nil_append, b2n_t, b2n_f]; exact goXm) (fun _ => rfl) ?_ | fail
      apply YSeq.w (by intro _ _ _; rfl)
      · intro ξ S h1 h2 h3 h4
        have hN0_10 := closed_false h1 h3 (k := 10) rfl (by decide)
        try simp only [upd_same, updD_same, upd_ne, updD_ne, ne_eq, Nat.reduceEqDiff, not_false_eq_true, stg_t, stg_f, vAd_s, vCap_s, blk_p, List.cons_append, List.nil_append, b2n_t, b2n_f, hN0_10]
        exact goW
      · intro ξ v; rfl
      · intro ξ k v S h3 hn hk
        first
        | rfl
      apply YSeq.w (by intro _ _ _; rfl)
      · intro ξ S h1 h2 h3 h4
        have hN1_3 := closed_false h1 h3 (k := 3) rfl (by decide)
        have hN1_4 := closed_false hN1_3 h3 (k := 4) rfl (by decide)
        have hN1_8 := closed_false hN1_4 h3 (k := 8) rfl (by decide)
        have hN1_9 := closed_false hN1_8 h3 (k := 9) rfl (by decide)
        have hN1_10 := closed_false hN1_9 h3 (k := 10) rfl (by decide)
        try simp only [upd_same, updD_same, upd_ne, updD_ne, ne_eq, Nat.reduceEqDiff, not_false_eq_true, stg_t, stg_f, vAd_s, vCap_s, blk_p, List.cons_append, List.nil_append, b2n_t, b2n_f, hN1_10]
        exact goW
      · intro ξ v; rfl
      · intro ξ k v S h3 hn hk
        first
        | rfl
      apply YSeq.w (by intro _ _ _; rfl)
      · intro ξ S h1 h2 h3 h4
        have hN2_3 := closed_false h1 h3 (k := 3) rfl (by decide)
        have hN2_4 := closed_false hN2_3 h3 (k := 4) rfl (by decide)
        have hN2_8 := closed_false hN2_4 h3 (k := 8) rfl (by decide)
        have hN2_9 := closed_false hN2_8 h3 (k := 9) rfl (by decide)
        have hN2_10 := closed_false hN2_9 h3 (k := 10) rfl (by decide)
        try simp only [upd_same, updD_same, upd_ne, updD_ne, ne_eq, Nat.reduceEqDiff, not_false_eq_true, stg_t, stg_f, vAd_s, vCap_s, blk_p, List.cons_append, List.nil_append, b2n_t, b2n_f, hN2_10]
        exact goW
      · intro ξ v; rfl
      · intro ξ k v S h3 hn hk
        first
        | rfl
      apply YSeq.w (by intro _ _ _; rfl)
      · intro ξ S h1 h2 h3 h4
        have hN3_4 := closed_false h1 h3 (k := 4) rfl (by decide)
        have hN3_8 := closed_false hN3_4 h3 (k := 8) rfl (by decide)
        have hN3_9 := closed_false hN3_8 h3 (k := 9) rfl (by decide)
        have hN3_10 := closed_false hN3_9 h3 (k := 10) rfl (by decide)
        try simp only [upd_same, updD_same, upd_ne, updD_ne, ne_eq, Nat.reduceEqDiff, not_false_eq_true, stg_t, stg_f, vAd_s, vCap_s, blk_p, List.cons_append, List.nil_append, b2n_t, b2n_f, hN3_10]
        exact goW
      · intro ξ v; rfl
      · intro ξ k v S h3 hn hk
        first
        | rfl
      apply YSeq.w (by intro _ _ _; rfl)
      · intro ξ S h1 h2 h3 h4
        have hN4_8 := closed_false h1 h3 (k := 8) rfl (by decide)
        have hN4_9 := closed_false hN4_8 h3 (k := 9) rfl (by decide)
        have hN4_10 := closed_false hN4_9 h3 (k := 10) rfl (by decide)
        try simp only [upd_same, updD_same, upd_ne, updD_ne, ne_eq, Nat.reduceEqDiff, not_false_eq_true, stg_t, stg_f, vAd_s, vCap_s, blk_p, List.cons_append, List.nil_append, b2n_t, b2n_f, hN4_10]
        exact goW
      · intro ξ v; rfl
      · intro ξ k v S h3 hn hk
        first
        | rfl
      apply YSeq.w (by intro _ _ _; rfl)
      · intro ξ S h1 h2 h3 h4
        have hN5_7 := closed_false h1 h3 (k := 7) rfl (by decide)
        have hN5_10 := closed_false hN5_7 h3 (k := 10) rfl (by decide)
        try simp only [upd_same, updD_same, upd_ne, updD_ne, ne_eq, Nat.reduceEqDiff, not_false_eq_true, stg_t, stg_f, vAd_s, vCap_s, blk_p, List.cons_append, List.nil_append, b2n_t, b2n_f, hN5_7, hN5_10]
        exact goW
      · intro ξ v; rfl
      · intro ξ k v S h3 hn hk
        first
        | rfl
      apply YSeq.w (by intro _ _ _; rfl)
      · intro ξ S h1 h2 h3 h4
        have hN6_7 := closed_false h1 h3 (k := 7) rfl (by decide)
        have hN6_10 := closed_false hN6_7 h3 (k := 10) rfl (by decide)
        try simp only [upd_same, updD_same, upd_ne, updD_ne, ne_eq, Nat.reduceEqDiff, not_false_eq_true, stg_t, stg_f, vAd_s, vCap_s, blk_p, List.cons_append, List.nil_append, b2n_t, b2n_f, hN6_7, hN6_10]
        exact goW
      · intro ξ v; rfl
      · intro ξ k v S h3 hn hk
        first
        | rfl
      apply YSeq.callI (pick_gen (l := [0, 1, 1, 2, 5]) (by repeat' (first | exact IsInts.nil | apply IsInts.cons)) (by simp)) (fun _ => (Evs.cons rfl (Evs.cons rfl Evs.nil)))
      · intro ξ S h1 h3
        have hN7_10 := closed_false h1 h3 (k := 10) rfl (by decide)
        have hq7 := b2n_le (S 7)
        simp only [upd_same, updD_same, upd_ne, updD_ne, ne_eq, Nat.reduceEqDiff, not_false_eq_true, stg_t, stg_f, vAd_s, vCap_s, blk_p, List.cons_append, List.nil_append, b2n_t, b2n_f, h1, hN7_10]
        refine ⟨_, _, ?_, goXp, fun v => ?_⟩
        · omega
        · refine List.Perm.trans goXp (perm_strm ?_)
          omega
      apply YSeq.w (by intro _ _ _; rfl)
      · intro ξ S h1 h2 h3 h4
        have hY8_7 : S 7 = true := h2 7 (by decide)
        have hN8_9 := closed_false h1 h3 (k := 9) rfl (by decide)
        have hN8_10 := closed_false hN8_9 h3 (k := 10) rfl (by decide)
        have hR25 := pf_int (pick_gen (l := [0, 1, 1, 2, 5]) (by repeat' (first | exact IsInts.nil | apply IsInts.cons)) (by simp)) (h4 7 hY8_7)
        try simp only [InRange] at hR25
        have hRn25 := hR25
        try simp only [Nat.zero_add, Nat.reduceAdd] at hRn25
        try simp only [upd_same, updD_same, upd_ne, updD_ne, ne_eq, Nat.reduceEqDiff, not_false_eq_true, stg_t, stg_f, vAd_s, vCap_s, blk_p, List.cons_append, List.nil_append, b2n_t, b2n_f, hY8_7, hN8_10]
        exact goW
      · intro ξ v; rfl
      · intro ξ k v S h3 hn hk
        first
        | rfl
        | skip
          have hY8_7 : S 7 = true := h3 8 _ rfl hn 7 (by decide)
          simp only [upd_S hY8_7 hk]
      apply YSeq.w (by intro _ _ _; rfl)
      · intro ξ S h1 h2 h3 h4
        have hY9_8 : S 8 = true := h2 8 (by decide)
        have hY9_7 : S 7 = true := h3 8 _ rfl hY9_8 7 (by decide)
        have hN9_10 := closed_false h1 h3 (k := 10) rfl (by decide)
        have hR25 := pf_int (pick_gen (l := [0, 1, 1, 2, 5]) (by repeat' (first | exact IsInts.nil | apply IsInts.cons)) (by simp)) (h4 7 hY9_7)
        try simp only [InRange] at hR25
        have hRn25 := hR25
        try simp only [Nat.zero_add, Nat.reduceAdd] at hRn25
        try simp only [upd_same, updD_same, upd_ne, updD_ne, ne_eq, Nat.reduceEqDiff, not_false_eq_true, stg_t, stg_f, vAd_s, vCap_s, blk_p, List.cons_append, List.nil_append, b2n_t, b2n_f, hY9_7, hN9_10]
        exact goW
      · intro ξ v; rfl
      · intro ξ k v S h3 hn hk
        first
        | rfl
        | skip
          have hY9_8 : S 8 = true := h3 9 _ rfl hn 8 (by decide)
          have hY9_7 : S 7 = true := h3 8 _ rfl hY9_8 7 (by decide)
          simp only [upd_S hY9_7 hk]
      apply YSeq.append (n + 1)
      · intro ξ S h1 h2 h3 h4
        have hY10_7 : S 7 = true := h2 7 (by decide)
        have hR25 := pf_int (pick_gen (l := [0, 1, 1, 2, 5]) (by repeat' (first | exact IsInts.nil | apply IsInts.cons)) (by simp)) (h4 7 hY10_7)
        try simp only [InRange] at hR25
        have hRn25 := hR25
        try simp only [Nat.zero_add, Nat.reduceAdd] at hRn25
        simp only [upd_same, updD_same, upd_ne, updD_ne, ne_eq, Nat.reduceEqDiff, not_false_eq_true, stg_t, stg_f, vAd_s, vCap_s, blk_p, List.cons_append, List.nil_append, b2n_t, b2n_f, hY10_7, h1]
        refine ⟨_, _, _, _, _, _, rfl, rfl, goXp, (by first | rfl | (simp; done) | omega), (by first | rfl | omega | (simp; done) | (simp; omega)), (by first | omega | (simp; done) | (simp; omega)), (by first | omega | (simp; done) | (simp; omega)), fun ad' cap' => ?_⟩
        exact goXm
      apply YSeq.w (by intro _ _ _; rfl)
      · intro ξ S h1 h2 h3 h4
        have hY11_7 : S 7 = true := h2 7 (by decide)
        have hY11_10 : S 10 = true := h2 10 (by decide)
        have hR25 := pf_int (pick_gen (l := [0, 1, 1, 2, 5]) (by repeat' (first | exact IsInts.nil | apply IsInts.cons)) (by simp)) (h4 7 hY11_7)
        try simp only [InRange] at hR25
        have hRn25 := hR25
        try simp only [Nat.zero_add, Nat.reduceAdd] at hRn25
        try simp only [upd_same, updD_same, upd_ne, updD_ne, ne_eq, Nat.reduceEqDiff, not_false_eq_true, stg_t, stg_f, vAd_s, vCap_s, blk_p, List.cons_append, List.nil_append, b2n_t, b2n_f, hY11_7, hY11_10]
        exact goW
      · intro ξ v; rfl
      · intro ξ k v S h3 hn hk
        first
        | rfl
        | skip
          have hY11_7 : S 7 = true := h3 11 _ rfl hn 7 (by decide)
          have hY11_10 : S 10 = true := h3 11 _ rfl hn 10 (by decide)
          simp only [upd_S hY11_7 hk, upd_S hY11_10 hk]
      refine YSeq.nil fun ξ hf => ?_
      have hR25 := pf_int (pick_gen (l := [0, 1, 1, 2, 5]) (by repeat' (first | exact IsInts.nil | apply IsInts.cons)) (by simp)) (hf 7)
      try simp only [InRange] at hR25
      refine ⟨[(0, _), (3, _), (4, _), (9, _), (10, _), (11, _)], _, Ent.trans (Ent.eqc rfl (by first | (simp only [upd_same, updD_same, upd_ne, updD_ne, ne_eq, Nat.reduceEqDiff, not_false_eq_true, stg_t, stg_f, vAd_s, vCap_s, blk_p, List.cons_append, List.nil_append, b2n_t, b2n_f, ownV, slV, ptV] <;> rfl) | rfl)) (Ent.sub goSub), ?_⟩
      clear hf
      generalize vInt (ξ 7) = x25 at hR25 ⊢
      generalize vAd (ξ 10) = ad28
      generalize vCap (ξ 10) = cap28
      have hv : -1000000000 ≤ x25 ∧ x25 ≤ 1000000000 := by simp at hR25; omega
      repeat' (first | refine goH ?_ | refine goV ?_ | refine goC (fun ad cap => ?_) | refine goI ?_ | (refine Cw.k_cond ?_; first | (refine Cw.cond_dec rfl (fun hc => ?_) (fun hc => ?_) <;> try (exfalso; omega)) | refine Cw.cond_bool rfl (fun hc => ?_) (fun hc => ?_)) | refine goR ?_ | refine goP ?_ | apply PSeq.cons | apply PSeq.yes rfl rfl rfl | exact goW | fail)
      exact ⟨_, _, _, (Ent.mk goSub goTk), ⟨k + 1, _, _, _, _, _, rfl, ⟨by omega, ⟨_, key ⟨y, x25⟩, hlb.snoc hv⟩, by rw [List.length_append, hrl]; rfl, by omega, by omega⟩, rfl, rfl⟩, by omega⟩
    · exact ⟨_, _, _, (Ent.mk goSub goTk), ⟨k + 1, _, _, _, _, _, rfl, ⟨by omega, ⟨l, hrows, hlb⟩, hrl, by omega, by omega⟩, rfl, rfl⟩, by omega⟩
  repeat' (first | refine goH ?_ | refine goV ?_ | refine goC (fun ad cap => ?_) | refine goI ?_ | (refine Cw.k_cond ?_; first | (refine Cw.cond_dec rfl (fun hc => ?_) (fun hc => ?_) <;> try (exfalso; omega)) | refine Cw.cond_bool rfl (fun hc => ?_) (fun hc => ?_)) | (refine Ops.k_calla ?_; first | (refine Ops.k_callf 39 ?_; (refine Ops.callG (flip_gen _ (by omega)) (Evs.cons rfl (Evs.cons rfl Evs.nil)) goPk (by omega) rfl ?_; rintro r ⟨f, rfl⟩)) | (refine Ops.k_callf 50 ?_; (refine Ops.callG (one_gen (l := [⟨#[]⟩, ⟨#[112, 97]⟩, ⟨#[122, 122]⟩]) (by repeat' (first | exact IsStrs.nil | apply IsStrs.cons)) (by simp)) (Evs.cons rfl (Evs.cons rfl Evs.nil)) goPk (by omega) rfl ?_; rintro r ⟨sv, rfl, hs⟩; clear hs)) | (refine Ops.k_callf 6 ?_; (refine Ops.callG (pick_gen (by repeat' (first | exact IsInts.nil | apply IsInts.cons)) (by simp)) (Evs.cons rfl (Evs.cons rfl Evs.nil)) goPk (by omega) rfl ?_; rintro r ⟨v, rfl, hu⟩; have hv : -1000000000 ≤ v ∧ v ≤ 1000000000 := (by simp at hu; omega); clear hu))) | refine goR ?_ | refine goP ?_ | apply PSeq.cons | apply PSeq.yes rfl rfl rfl | exact goW | fail)
  · exact Fin.ret (Ent.trans (Ent.settle (s := 2) rfl goPk rfl) (Ent.strm_only goPk (by omega))) (Outs.one rfl rfl) ⟨rfl, _, congrArg (Tr.sl 2) (key ⟨_, _⟩), by simp; omega, hlb.snoc hv⟩
  · exact Fin.ret (Ent.trans (Ent.settle (s := 2) rfl goPk hrl.symm) (Ent.strm_only goPk (by omega))) (Outs.one rfl rfl) ⟨rfl, _, congrArg (Tr.sl 2) hrows, by omega, hlb⟩
end Lg
end
section
set_option linter.all false
namespace Lg
open Go Go.Proofs

theorem Ops.shut0 {P : Program} {Γ : Ctx} {env : Env} {cs : List Chunk} {Q : Post} {R : Array Oper} {l : List Oper} {ty b : Nat} {cells : List Tr} {rows : List (List Tr)} (h : cells = [Tr.sl 1 rows, Tr.int ((0 : Nat) : Int)]) (k : Ops P Γ R l env (Chunk.strm ty b rows 0 :: cs) Q) : Ops P Γ R l env (Chunk.box b ty cells :: cs) Q := by
  subst h
  exact Ops.ent (Ent.shut_strm (m := 0) (Nat.le_refl 0)) k
end Lg
end
