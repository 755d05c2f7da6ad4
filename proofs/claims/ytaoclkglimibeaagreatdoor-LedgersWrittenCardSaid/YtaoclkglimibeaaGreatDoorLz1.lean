/- A part of the proof of a law of this seat: it adds no condition. By an AI agent. -/
import Derived.Test.YtaoclkglimibeaaGreatDoorNmS
section
set_option linter.all false
set_option maxRecDepth 100000
set_option maxHeartbeats 8000000
namespace Lg
open Go Go.Proofs

theorem intRows_nil : intRows [] = [] := rfl
theorem intRows_snoc (l : List Int) (x : Int) : intRows l ++ [[Tr.int x]] = intRows (l ++ [x]) := by rw [intRows_app]; rfl
theorem int_set (l : List Int) (i : Nat) (v : Int) : (intRows l).set i [Tr.int v] = intRows (l.set i v) := by
  unfold intRows
  rw [List.map_set]
attribute [local irreducible] intRows
theorem order_gen (n : Nat) (hn : n ≤ 12) : Gen Tryz.prog 25 70 [.int n] 14 (fun r => ∃ l : List Int, r = .ints l ∧ l.length = n ∧ ∀ x ∈ l, 0 ≤ x ∧ x < n) := by
  unfold Gen
  intro bs xs N hN
  refine Spec.body Tryz.func70 rfl rfl (Tryz.ntmps70) rfl fun w0 own0 M => ?_
  repeat' (first | refine goH ?_ | refine goV ?_ | refine goC (fun ad cap => ?_) | refine goI ?_ | (refine Cw.k_cond ?_; first | (refine Cw.cond_dec rfl (fun hc => ?_) (fun hc => ?_) <;> try (exfalso; omega)) | refine Cw.cond_bool rfl (fun hc => ?_) (fun hc => ?_)) | refine goR ?_ | refine goP ?_ | apply PSeq.cons | apply PSeq.yes rfl rfl rfl | exact goW | fail)
  refine Cw.loopI [(0, _), (1, _), (9, _)] _ (fun q e cc => ∃ (k : Nat) (rows : List (List Tr)) (l : List Int) (ad : Option Addr) (cap : Nat), q = n - k ∧ (k ≤ n ∧ rows = intRows l ∧ rows.length = k ∧ l.length = k ∧ ∀ x ∈ l, 0 ≤ x ∧ x < n) ∧ e = [(5, Tr.raw (.slice ad k cap)), (10, .int k)] ∧ cc = [Chunk.own ad cap 1 3 rows])
    ⟨_, _, _, Ent.trans (Ent.nil 1 3) (Ent.mkP goSub goPm), 0, [], [], none, 0, rfl, ⟨by omega, intRows_nil.symm, rfl, rfl, by simp⟩, rfl, rfl⟩ ?_
  rintro _ _ _ ⟨k, rows, l, ad, cap, rfl, ⟨hk, hrs, hrl, hll, hlb⟩, rfl, rfl⟩
  by_cases hkl : k < n
  · have hrs2 : rows ++ [[Tr.int k]] = intRows (l ++ [(k : Int)]) := by rw [hrs, intRows_snoc]
    have hrl2 : (rows ++ [[Tr.int k]]).length = k + 1 := by rw [List.length_append, hrl]; rfl
    have hlb2 : ∀ x ∈ l ++ [(k : Int)], 0 ≤ x ∧ x < n := by
      intro x hx
      rcases List.mem_append.1 hx with h | h
      · exact hlb x h
      · rw [List.mem_singleton.1 h]; omega
    clear hrs hlb
    repeat' (first | refine goH ?_ | refine goV ?_ | refine goC (fun ad cap => ?_) | refine goI ?_ | (refine Cw.k_cond ?_; first | (refine Cw.cond_dec rfl (fun hc => ?_) (fun hc => ?_) <;> try (exfalso; omega)) | refine Cw.cond_bool rfl (fun hc => ?_) (fun hc => ?_)) | refine goR ?_ | refine goP ?_ | apply PSeq.cons | apply PSeq.yes rfl rfl rfl | exact goW | fail)
    erw [hrl2]
    exact ⟨_, _, _, (Ent.mk goSub goTk), ⟨k + 1, _, l ++ [(k : Int)], _, _, rfl, ⟨by omega, hrs2, hrl2, by simp [hll], hlb2⟩, rfl, rfl⟩, by omega⟩
  have hkn : k = n := by omega
  subst hkn
  subst hrs
  clear hkl hk
  repeat' (first | refine goH ?_ | refine goV ?_ | refine goC (fun ad cap => ?_) | refine goI ?_ | (refine Cw.k_cond ?_; first | (refine Cw.cond_dec rfl (fun hc => ?_) (fun hc => ?_) <;> try (exfalso; omega)) | refine Cw.cond_bool rfl (fun hc => ?_) (fun hc => ?_)) | refine goR ?_ | refine goP ?_ | apply PSeq.cons | apply PSeq.yes rfl rfl rfl | exact goW | fail)
  refine Cw.loopI [(0, _), (5, _)] _ (fun q e cc => ∃ (i : Int) (l : List Int) (c : Nat), q = i.toNat ∧ ((-1 ≤ i ∧ i < k) ∧ (intRows l).length = k ∧ l.length = k ∧ (∀ x ∈ l, 0 ≤ x ∧ x < k) ∧ c + i ≤ N + k) ∧ e = [(7, .int i)] ∧ cc = [Chunk.own ad cap 1 3 (intRows l), Chunk.strm 25 bs (intRows xs) c])
    ⟨_, _, _, (Ent.mkP goSub goPm), (k : Int) - 1, l, N, rfl, ⟨by omega, hrl, hll, hlb, by omega⟩, rfl, rfl⟩ ?_
  clear hrl hll hlb
  rintro _ _ _ ⟨i, l, c, rfl, ⟨hi, hrl, hll, hlb, hc⟩, rfl, rfl⟩
  by_cases hi0 : 0 < i
  rotate_left
  · repeat' (first | refine goH ?_ | refine goV ?_ | refine goC (fun ad cap => ?_) | refine goI ?_ | (refine Cw.k_cond ?_; first | (refine Cw.cond_dec rfl (fun hc => ?_) (fun hc => ?_) <;> try (exfalso; omega)) | refine Cw.cond_bool rfl (fun hc => ?_) (fun hc => ?_)) | refine goR ?_ | refine goP ?_ | apply PSeq.cons | apply PSeq.yes rfl rfl rfl | exact goW | fail)
    rw [← hrl]
    refine Fin.ret (Ent.trans (Ent.settle (s := 4) rfl goPk rfl) (Ent.strm_only goPk (by omega))) (Outs.sole rfl goOe) ⟨rfl, l, rfl, by rw [hrl]; exact hll, by rw [hrl]; exact hlb⟩
  repeat' (first | refine goH ?_ | refine goV ?_ | refine goC (fun ad cap => ?_) | refine goI ?_ | (refine Cw.k_cond ?_; first | (refine Cw.cond_dec rfl (fun hc => ?_) (fun hc => ?_) <;> try (exfalso; omega)) | refine Cw.cond_bool rfl (fun hc => ?_) (fun hc => ?_)) | (refine Ops.k_calla ?_; first | (refine Ops.k_callf 40 ?_; (refine Ops.callG (next_gen _ (by omega)) (Evs.cons rfl (Evs.cons rfl Evs.nil)) goPk (by omega) rfl ?_; rintro r ⟨j, rfl, hj⟩; unfold InRange at hj))) | fail)
  obtain ⟨x, hx⟩ := at_lt (l := l) (k := i.toNat) (by omega)
  obtain ⟨y, hy⟩ := at_lt (l := l) (k := j.toNat) (by omega)
  have r1 := intRows_at hx
  have r2 := intRows_at hy
  have r3 : ((intRows l).set i.toNat [Tr.int y])[j.toNat]? = some [Tr.int y] := by
    rw [int_set]
    refine intRows_at ?_
    rw [List.getElem?_set]
    by_cases h : i.toNat = j.toNat
    · rw [if_pos h, if_pos (by omega)]
    · rw [if_neg h]; exact hy
  first | refine Cw.region_YP (fun ξ S => Chunk.strm 25 bs (intRows xs) (c + 1) :: Chunk.own ad cap 1 3 (stg (S 15) (stg (S 13) (intRows l) ((intRows l).set i.toNat [.int y])) (((intRows l).set i.toNat [.int y]).set j.toNat [.int x])) :: []) rfl (by decide +kernel) rfl ((fun (ξ : Nat → Value) (S : Nat → Bool) => Chunk.strm 25 bs (intRows xs) (c + 1) :: Chunk.own ad cap 1 3 (stg (S 15) (stg (S 13) (intRows l) ((intRows l).set i.toNat [.int y])) (((intRows l).set i.toNat [.int y]).set j.toNat [.int x])) :: []) (fun _ => undef) (fun _ => false)) (by simp only [upd_same, updD_same, upd_ne, updD_ne, ne_eq, Nat.reduceEqDiff, not_false_eq_true, stg_t, stg_f, vAd_s, vCap_s, blk_p, List.cons_append, List.nil_append, b2n_t, b2n_f]; exact goXm) (fun _ => rfl) ?_ | fail
  apply YSeq.w (by intro _ _ _; rfl)
  · intro ξ S h1 h2 h3 h4
    have hN0_13 := closed_false h1 h3 (k := 13) rfl (by decide)
    have hN0_15 := closed_false h1 h3 (k := 15) rfl (by decide)
    try simp only [upd_same, updD_same, upd_ne, updD_ne, ne_eq, Nat.reduceEqDiff, not_false_eq_true, stg_t, stg_f, vAd_s, vCap_s, blk_p, List.cons_append, List.nil_append, b2n_t, b2n_f, hN0_13, hN0_15]
    exact goW
  · intro ξ v; rfl
  · intro ξ k v S h3 hn hk
    first
    | rfl
  apply YSeq.w (by intro _ _ _; rfl)
  · intro ξ S h1 h2 h3 h4
    have hN1_13 := closed_false h1 h3 (k := 13) rfl (by decide)
    have hN1_15 := closed_false h1 h3 (k := 15) rfl (by decide)
    try simp only [upd_same, updD_same, upd_ne, updD_ne, ne_eq, Nat.reduceEqDiff, not_false_eq_true, stg_t, stg_f, vAd_s, vCap_s, blk_p, List.cons_append, List.nil_append, b2n_t, b2n_f, hN1_13, hN1_15]
    exact goW
  · intro ξ v; rfl
  · intro ξ k v S h3 hn hk
    first
    | rfl
  apply YSeq.w (by intro _ _ _; rfl)
  · intro ξ S h1 h2 h3 h4
    have hN2_15 := closed_false h1 h3 (k := 15) rfl (by decide)
    try simp only [upd_same, updD_same, upd_ne, updD_ne, ne_eq, Nat.reduceEqDiff, not_false_eq_true, stg_t, stg_f, vAd_s, vCap_s, blk_p, List.cons_append, List.nil_append, b2n_t, b2n_f, hN2_15]
    exact goW
  · intro ξ v; rfl
  · intro ξ k v S h3 hn hk
    first
    | rfl
  apply YSeq.w (by intro _ _ _; rfl)
  · intro ξ S h1 h2 h3 h4
    have hN3_15 := closed_false h1 h3 (k := 15) rfl (by decide)
    try simp only [upd_same, updD_same, upd_ne, updD_ne, ne_eq, Nat.reduceEqDiff, not_false_eq_true, stg_t, stg_f, vAd_s, vCap_s, blk_p, List.cons_append, List.nil_append, b2n_t, b2n_f, hN3_15]
    exact goW
  · intro ξ v; rfl
  · intro ξ k v S h3 hn hk
    first
    | rfl
  apply YSeq.w (by intro _ _ _; rfl)
  · intro ξ S h1 h2 h3 h4
    have hN4_13 := closed_false h1 h3 (k := 13) rfl (by decide)
    have hN4_15 := closed_false h1 h3 (k := 15) rfl (by decide)
    try simp only [upd_same, updD_same, upd_ne, updD_ne, ne_eq, Nat.reduceEqDiff, not_false_eq_true, stg_t, stg_f, vAd_s, vCap_s, blk_p, List.cons_append, List.nil_append, b2n_t, b2n_f, hN4_13, hN4_15]
    exact goW
  · intro ξ v; rfl
  · intro ξ k v S h3 hn hk
    first
    | rfl
  apply YSeq.w (by intro _ _ _; rfl)
  · intro ξ S h1 h2 h3 h4
    have hN5_13 := closed_false h1 h3 (k := 13) rfl (by decide)
    have hN5_15 := closed_false h1 h3 (k := 15) rfl (by decide)
    try simp only [upd_same, updD_same, upd_ne, updD_ne, ne_eq, Nat.reduceEqDiff, not_false_eq_true, stg_t, stg_f, vAd_s, vCap_s, blk_p, List.cons_append, List.nil_append, b2n_t, b2n_f, hN5_13, hN5_15]
    exact goW
  · intro ξ v; rfl
  · intro ξ k v S h3 hn hk
    first
    | rfl
  apply YSeq.w (by intro _ _ _; rfl)
  · intro ξ S h1 h2 h3 h4
    have hN6_13 := closed_false h1 h3 (k := 13) rfl (by decide)
    have hN6_15 := closed_false h1 h3 (k := 15) rfl (by decide)
    try simp only [upd_same, updD_same, upd_ne, updD_ne, ne_eq, Nat.reduceEqDiff, not_false_eq_true, stg_t, stg_f, vAd_s, vCap_s, blk_p, List.cons_append, List.nil_append, b2n_t, b2n_f, hN6_13, hN6_15]
    exact goW
  · intro ξ v; rfl
  · intro ξ k v S h3 hn hk
    first
    | rfl
  apply YSeq.w (by intro _ _ _; rfl)
  · intro ξ S h1 h2 h3 h4
    have hN7_13 := closed_false h1 h3 (k := 13) rfl (by decide)
    have hN7_15 := closed_false h1 h3 (k := 15) rfl (by decide)
    try simp only [upd_same, updD_same, upd_ne, updD_ne, ne_eq, Nat.reduceEqDiff, not_false_eq_true, stg_t, stg_f, vAd_s, vCap_s, blk_p, List.cons_append, List.nil_append, b2n_t, b2n_f, hN7_13, hN7_15]
    exact goW
  · intro ξ v; rfl
  · intro ξ k v S h3 hn hk
    first
    | rfl
  apply YSeq.w (by intro _ _ _; rfl)
  · intro ξ S h1 h2 h3 h4
    have hN8_10 := closed_false h1 h3 (k := 10) rfl (by decide)
    have hN8_11 := closed_false hN8_10 h3 (k := 11) rfl (by decide)
    have hN8_13 := closed_false hN8_11 h3 (k := 13) rfl (by decide)
    have hN8_15 := closed_false h1 h3 (k := 15) rfl (by decide)
    try simp only [upd_same, updD_same, upd_ne, updD_ne, ne_eq, Nat.reduceEqDiff, not_false_eq_true, stg_t, stg_f, vAd_s, vCap_s, blk_p, List.cons_append, List.nil_append, b2n_t, b2n_f, hN8_13, hN8_15]
    exact goW
  · intro ξ v; rfl
  · intro ξ k v S h3 hn hk
    first
    | rfl
  apply YSeq.w (by intro _ _ _; rfl)
  · intro ξ S h1 h2 h3 h4
    have hN9_10 := closed_false h1 h3 (k := 10) rfl (by decide)
    have hN9_11 := closed_false hN9_10 h3 (k := 11) rfl (by decide)
    have hN9_13 := closed_false hN9_11 h3 (k := 13) rfl (by decide)
    have hN9_15 := closed_false h1 h3 (k := 15) rfl (by decide)
    try simp only [upd_same, updD_same, upd_ne, updD_ne, ne_eq, Nat.reduceEqDiff, not_false_eq_true, stg_t, stg_f, vAd_s, vCap_s, blk_p, List.cons_append, List.nil_append, b2n_t, b2n_f, hN9_13, hN9_15]
    exact goW
  · intro ξ v; rfl
  · intro ξ k v S h3 hn hk
    first
    | rfl
  apply YSeq.w (by intro _ _ _; rfl)
  · intro ξ S h1 h2 h3 h4
    have hN10_11 := closed_false h1 h3 (k := 11) rfl (by decide)
    have hN10_13 := closed_false hN10_11 h3 (k := 13) rfl (by decide)
    have hN10_15 := closed_false h1 h3 (k := 15) rfl (by decide)
    try simp only [upd_same, updD_same, upd_ne, updD_ne, ne_eq, Nat.reduceEqDiff, not_false_eq_true, stg_t, stg_f, vAd_s, vCap_s, blk_p, List.cons_append, List.nil_append, b2n_t, b2n_f, hN10_13, hN10_15]
    exact goW
  · intro ξ v; rfl
  · intro ξ k v S h3 hn hk
    first
    | rfl
  apply YSeq.w (by intro _ _ _; rfl)
  · intro ξ S h1 h2 h3 h4
    have hN11_13 := closed_false h1 h3 (k := 13) rfl (by decide)
    have hN11_15 := closed_false h1 h3 (k := 15) rfl (by decide)
    try simp only [upd_same, updD_same, upd_ne, updD_ne, ne_eq, Nat.reduceEqDiff, not_false_eq_true, stg_t, stg_f, vAd_s, vCap_s, blk_p, List.cons_append, List.nil_append, b2n_t, b2n_f, hN11_13, hN11_15]
    exact goW
  · intro ξ v; rfl
  · intro ξ k v S h3 hn hk
    first
    | rfl
  apply YSeq.w (by intro _ _ _; rfl)
  · intro ξ S h1 h2 h3 h4
    have hN12_13 := closed_false h1 h3 (k := 13) rfl (by decide)
    have hN12_15 := closed_false h1 h3 (k := 15) rfl (by decide)
    try simp only [upd_same, updD_same, upd_ne, updD_ne, ne_eq, Nat.reduceEqDiff, not_false_eq_true, stg_t, stg_f, vAd_s, vCap_s, blk_p, List.cons_append, List.nil_append, b2n_t, b2n_f, hN12_13, hN12_15]
    exact goW
  · intro ξ v; rfl
  · intro ξ k v S h3 hn hk
    first
    | rfl
  apply YSeq.storeO
  · intro ξ S h1 h2 h3 h4
    have hN13_15 := closed_false h1 h3 (k := 15) rfl (by decide)
    simp only [upd_same, updD_same, upd_ne, updD_ne, ne_eq, Nat.reduceEqDiff, not_false_eq_true, stg_t, stg_f, vAd_s, vCap_s, blk_p, List.cons_append, List.nil_append, b2n_t, b2n_f, h1, hN13_15]
    refine ⟨_, _, _, _, _, _, _, _, _, _, rfl, rfl, inferInstance, goXp, (by first | rfl | assumption | (simp [*]; done)), (by decide), ?_⟩
    exact goXm
  apply YSeq.w (by intro _ _ _; rfl)
  · intro ξ S h1 h2 h3 h4
    have hY14_13 : S 13 = true := h2 13 (by decide)
    have hN14_15 := closed_false h1 h3 (k := 15) rfl (by decide)
    try simp only [upd_same, updD_same, upd_ne, updD_ne, ne_eq, Nat.reduceEqDiff, not_false_eq_true, stg_t, stg_f, vAd_s, vCap_s, blk_p, List.cons_append, List.nil_append, b2n_t, b2n_f, hY14_13, hN14_15]
    exact goW
  · intro ξ v; rfl
  · intro ξ k v S h3 hn hk
    first
    | rfl
  apply YSeq.storeO
  · intro ξ S h1 h2 h3 h4
    have hY15_13 : S 13 = true := h2 13 (by decide)
    simp only [upd_same, updD_same, upd_ne, updD_ne, ne_eq, Nat.reduceEqDiff, not_false_eq_true, stg_t, stg_f, vAd_s, vCap_s, blk_p, List.cons_append, List.nil_append, b2n_t, b2n_f, hY15_13, h1]
    refine ⟨_, _, _, _, _, _, _, _, _, _, rfl, rfl, inferInstance, goXp, (by first | rfl | assumption | (simp [*]; done)), (by decide), ?_⟩
    exact goXm
  refine YSeq.nil fun ξ hf => ?_
  refine ⟨[(0, _), (5, _), (7, _), (8, _)], _, Ent.trans (Ent.eqc rfl (by first | (simp only [upd_same, updD_same, upd_ne, updD_ne, ne_eq, Nat.reduceEqDiff, not_false_eq_true, stg_t, stg_f, vAd_s, vCap_s, blk_p, List.cons_append, List.nil_append, b2n_t, b2n_f, ownV, slV, ptV] <;> rfl) | rfl)) (Ent.sub goSub), ?_⟩
  clear hf
  have hb : ∀ z ∈ (l.set i.toNat y).set j.toNat x, 0 ≤ z ∧ z < k := by
    intro z hz
    rcases List.mem_or_eq_of_mem_set hz with h | h
    · rcases List.mem_or_eq_of_mem_set h with h | h
      · exact hlb z h
      · rw [h]; exact hlb y (List.mem_of_getElem? hy)
    · rw [h]; exact hlb x (List.mem_of_getElem? hx)
  have hl2 : ((l.set i.toNat y).set j.toNat x).length = k := by simp [hll]
  rw [int_set, int_set]
  clear r1 r2 r3 hx hy
  repeat' (first | refine goH ?_ | refine goV ?_ | refine goC (fun ad cap => ?_) | refine goI ?_ | (refine Cw.k_cond ?_; first | (refine Cw.cond_dec rfl (fun hc => ?_) (fun hc => ?_) <;> try (exfalso; omega)) | refine Cw.cond_bool rfl (fun hc => ?_) (fun hc => ?_)) | refine goR ?_ | refine goP ?_ | apply PSeq.cons | apply PSeq.yes rfl rfl rfl | exact goW | fail)
  exact ⟨_, _, _, (Ent.mk goSub goTk), ⟨i - 1, _, _, rfl, ⟨by omega, by rw [intRows_len]; exact hl2, hl2, hb, by omega⟩, rfl, rfl⟩, by omega⟩
end Lg
end
section
set_option linter.all false
set_option maxRecDepth 100000
set_option maxHeartbeats 8000000
namespace Lg
open Go Go.Proofs

/-! ### entries out of the stream -/
abbrev strmC (bs : Nat) (xs : List Int) (N : Nat) : Chunk := Chunk.strm 25 bs (intRows xs) N
def EnB (e : En) : Prop := e.text.size ≤ 100 ∧ e.ls.length ≤ 3
end Lg
end
section
set_option linter.all false
set_option maxRecDepth 100000
set_option maxHeartbeats 8000000
namespace Lg
open Go Go.Proofs

/-! ### what a text of a ledger says, in plain terms -/
/-- a text cut at its first blank -/
def brk : List UInt8 → Option (List UInt8 × List UInt8)
  | [] => none
  | b :: l => if b = 32 then some ([], l) else (brk l).map fun p => (b :: p.1, p.2)
theorem brk_some {l a b : List UInt8} (h : brk l = some (a, b)) : l = a ++ 32 :: b ∧ (32 : UInt8) ∉ a := by
  induction l generalizing a b with
  | nil => cases h
  | cons c l ih =>
    unfold brk at h
    split at h
    · rename_i hc
      cases h
      subst hc
      exact ⟨rfl, by simp⟩
    · rename_i hc
      cases hb : brk l with
      | none => rw [hb] at h; cases h
      | some p =>
        rw [hb] at h
        simp only [Option.map_some, Option.some.injEq, Prod.mk.injEq] at h
        obtain ⟨h1, h2⟩ := h
        obtain ⟨e1, e2⟩ := ih (a := p.1) (b := p.2) hb
        subst h1
        subst h2
        refine ⟨by rw [List.cons_append, ← e1], fun hm => ?_⟩
        rcases List.mem_cons.1 hm with h3 | h3
        · exact hc h3.symm
        · exact e2 h3
theorem brk_of {a b : List UInt8} (h : (32 : UInt8) ∉ a) : brk (a ++ 32 :: b) = some (a, b) := by
  induction a with
  | nil => unfold brk; exact if_pos rfl
  | cons c a ih =>
    rw [List.mem_cons, not_or] at h
    rw [List.cons_append, brk, if_neg (fun e => h.1 e.symm), ih h.2]
    rfl
theorem brk_none {l : List UInt8} : brk l = none ↔ (32 : UInt8) ∉ l := by
  induction l with
  | nil => simp [brk]
  | cons c l ih =>
    rw [brk, List.mem_cons, not_or]
    by_cases hc : c = 32
    · rw [if_pos hc]
      subst hc
      simp
    · rw [if_neg hc]
      simp only [Option.map_eq_none_iff, ih]
      constructor
      · intro h; exact ⟨fun e => hc e.symm, h⟩
      · intro h; exact h.2
theorem brk_pre {l w : List UInt8} (hw : (32 : UInt8) ∉ w) : Lib.hasPrefix l (w ++ [32]) = true ↔ ∃ r, brk l = some (w, r) := by
  unfold Lib.hasPrefix
  rw [List.isPrefixOf_iff_prefix]
  constructor
  · rintro ⟨r, rfl⟩
    exact ⟨r, by rw [List.append_assoc]; exact brk_of hw⟩
  · rintro ⟨r, h⟩
    obtain ⟨rfl, _⟩ := brk_some h
    exact ⟨r, by rw [List.append_assoc]; rfl⟩
theorem trim_pre {l w r : List UInt8} (hw : (32 : UInt8) ∉ w) (h : brk l = some (w, r)) : Lib.trimPrefix l (w ++ [32]) = r := by
  have h1 := (brk_pre hw).2 ⟨r, h⟩
  unfold Lib.trimPrefix
  rw [if_pos h1]
  obtain ⟨rfl, _⟩ := brk_some h
  rw [List.length_append, List.drop_append]
  simp
theorem okNum_dig {n : Nat} {l : List UInt8} (h : okNum n l = true) : (32 : UInt8) ∉ l := by
  unfold okNum at h
  rw [Bool.and_eq_true] at h
  have h2 := List.all_eq_true.1 h.2
  intro hm
  have h3 : (32 : UInt8) ∈ trimM l := by
    cases l with
    | nil => cases hm
    | cons c r =>
      show 32 ∈ (if c = 45 then r else c :: r)
      by_cases hc : c = 45
      · rw [if_pos hc]
        rcases List.mem_cons.1 hm with e | e
        · subst hc; cases e
        · exact e
      · rw [if_neg hc]
        exact hm
  have h4 := h2 _ h3
  unfold isDig at h4
  exact absurd h4 (by decide)
theorem okNum_brk {n : Nat} {l : List UInt8} {p} (h : brk l = some p) : okNum n l = false := by
  cases h2 : okNum n l
  · rfl
  · rw [brk_none.2 (okNum_dig h2)] at h
    cases h
theorem idx_brk (l : List UInt8) : (brk l = none → Lib.indexByte l 32 = -1) ∧ (∀ a b, brk l = some (a, b) → Lib.indexByte l 32 = (a.length : Int)) := by
  induction l with
  | nil => exact ⟨fun _ => rfl, fun a b h => by cases h⟩
  | cons c l ih =>
    unfold Lib.indexByte brk
    by_cases hc : c = 32
    · rw [if_pos hc, if_pos (by simp [hc])]
      refine ⟨?_, ?_⟩
      · intro h; cases h
      · intro a b h; cases h; rfl
    · rw [if_neg hc, if_neg (by simp [hc])]
      constructor
      · intro h
        have := ih.1 (by simpa using h)
        rw [this]
        rfl
      · intro a b h
        cases hb : brk l with
        | none => rw [hb] at h; cases h
        | some p =>
          rw [hb] at h
          simp only [Option.map_some, Option.some.injEq, Prod.mk.injEq] at h
          have := ih.2 p.1 p.2 hb
          rw [this, if_neg (by first | (simp; done) | (simp; omega)), ← h.1, List.length_cons]
          rfl
theorem ext_take (s : ByteArray) (n : Nat) : s.extract 0 n = mkB (s.data.toList.take n) := by
  have := mkB_ext s.data.toList 0 n
  rwa [mkB_eta, List.drop_zero, Nat.sub_zero] at this
theorem ext_drop (s : ByteArray) (n : Nat) : s.extract n s.size = mkB (s.data.toList.drop n) := by
  have := mkB_ext s.data.toList n s.size
  rw [mkB_eta] at this
  rw [this, List.take_of_length_le (by rw [List.length_drop, ← str_list]; exact Nat.le_refl _)]
theorem cut_none {s : ByteArray} (h : brk s.data.toList = none) : cutS 32 s = (s, ⟨#[]⟩, false) := cutS_none ((idx_brk _).1 h)
theorem cut_some {s : ByteArray} {a b : List UInt8} (h : brk s.data.toList = some (a, b)) : cutS 32 s = (mkB a, mkB b, true) := by
  rw [cutS_some ((idx_brk _).2 a b h), ext_take, ext_drop]
  obtain ⟨e, _⟩ := brk_some h
  rw [e, List.take_left, show a.length + 1 = (a ++ [32]).length by simp, show a ++ 32 :: b = (a ++ [32]) ++ b by simp, List.drop_left]
theorem spl_none {s : ByteArray} (h : brk s.data.toList = none) : splS 32 s = [s] := splS_none ((idx_brk _).1 h)
theorem spl_some {s : ByteArray} {a b : List UInt8} (h : brk s.data.toList = some (a, b)) : splS 32 s = mkB a :: splS 32 (mkB b) := by
  rw [(splS_some ((idx_brk _).2 a b h)).1, ext_take, ext_drop]
  obtain ⟨e, _⟩ := brk_some h
  rw [e, List.take_left, show a.length + 1 = (a ++ [32]).length by simp, show a ++ 32 :: b = (a ++ [32]) ++ b by simp, List.drop_left]
/-- strings.SplitN(s, " ", n + 1) -/
def splN : Nat → List UInt8 → List (List UInt8)
  | 0, l => [l]
  | n + 1, l => match brk l with
    | none => [l]
    | some (a, b) => a :: splN n b
/-! #### lines -/
def canL : List UInt8 := [99, 97, 110, 99, 101, 108]
def entL : List UInt8 := [101, 110, 116, 114, 121]
/-- the first line of an entry: a cancelling, or a day and a text -/
def hdL (l : List UInt8) : Option (Int ⊕ (Int × ByteArray)) := match brk l with
  | none => none
  | some (a, b) => if a = canL then (if okNum 10 b = true then some (.inl (valNum b)) else none) else if a = entL then (match brk b with
    | none => none
    | some (d, t) => if okNum 10 d = true then some (.inr (valNum d, mkB t)) else none) else none
/-- a line of an account, without its first two blanks -/
def lnL (l : List UInt8) : Option Ln := match brk l with
  | none => none
  | some (a, b) => if a = [] then none else if okNum 10 b = true then some ⟨mkB a, valNum b⟩ else none
def pre2 (s : ByteArray) : Bool := Lib.hasPrefix s.data.toList [32, 32]
structure Pend where
  first : Nat
  no : Int
  can : Bool
  e : En
def finP (L : List Ps) (p : Pend) : List Ps × Int × Int := if p.can = true then cnlR L p.no else pstR L p.e
def mkP (i : Nat) : Int ⊕ (Int × ByteArray) → Pend
  | .inl no => ⟨i, no, true, ⟨0, ⟨#[]⟩, []⟩⟩
  | .inr (d, t) => ⟨i, 0, false, ⟨d, t, []⟩⟩
def Pend.add (p : Pend) (x : Ln) : Pend := { p with e := { p.e with ls := p.e.ls ++ [x] } }
/-- what reading the lines from the i-th on gives: the entries, where an error is, the error -/
def rdS (last : Nat) : List ByteArray → Nat → List Ps → Option Pend → List Ps × Nat × Int
  | [], i, L, none => (L, 0, 0)
  | [], i, L, some p => if (finP L p).2.2 ≠ 0 then (L, p.first, (finP L p).2.2) else ((finP L p).1, 0, 0)
  | s :: r, i, L, none => (match hdL s.data.toList with
    | none => (L, i, 9)
    | some h => if i = last then (L, i, 9) else rdS last r (i + 1) L (some (mkP i h)))
  | s :: r, i, L, some p => if pre2 s = true then (match lnL (s.data.toList.drop 2) with
      | none => (L, i, 9)
      | some x => if p.can = true ∨ i = last then (L, i, 9) else rdS last r (i + 1) L (some (p.add x)))
    else if (finP L p).2.2 ≠ 0 then (L, p.first, (finP L p).2.2) else (match hdL s.data.toList with
      | none => ((finP L p).1, i, 9)
      | some h => if i = last then ((finP L p).1, i, 9) else rdS last r (i + 1) (finP L p).1 (some (mkP i h)))
theorem rdS_fin {last : Nat} {R : List ByteArray} {i : Nat} {L : List Ps} {p : Pend} (h : ∀ s r, R = s :: r → pre2 s = false) (he : (finP L p).2.2 = 0) : rdS last R i L (some p) = rdS last R i (finP L p).1 none := by
  cases R with
  | nil => rw [rdS, rdS, if_neg (fun e => e he)]
  | cons s r => rw [rdS, rdS, if_neg (by rw [h s r rfl]; decide), if_neg (fun e => e he)]
theorem rdS_err {last : Nat} {R : List ByteArray} {i : Nat} {L : List Ps} {p : Pend} (h : ∀ s r, R = s :: r → pre2 s = false) (he : (finP L p).2.2 ≠ 0) : rdS last R i L (some p) = (L, p.first, (finP L p).2.2) := by
  cases R with
  | nil => rw [rdS, if_pos he]
  | cons s r => rw [rdS, if_neg (by rw [h s r rfl]; decide), if_pos he]
def linesR (t : ByteArray) : List ByteArray := if (splS 10 t).getLast? = some ⟨#[]⟩ then (splS 10 t).dropLast else splS 10 t
/-- reading a text -/
def readS (t : ByteArray) : List Ps × Nat × Int := if 200000 < t.size then ([], 0, 2) else rdS ((splS 10 t).length - 1) (linesR t) 0 [] none
end Lg
end
