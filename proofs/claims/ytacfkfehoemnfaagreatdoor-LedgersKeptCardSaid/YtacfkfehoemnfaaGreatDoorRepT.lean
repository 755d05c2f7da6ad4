/- A part of the proof of a law of this seat: it adds no condition. By an AI agent. -/
import Derived.Shelf.Strings.OnBuilder
import Derived.Shelf.Strings.Repeat
import Derived.KernelRfl
import Derived.Test.YtacfkfehoemnfaaGreatDoorLgSort
import Derived.Test.YtacfkfehoemnfaaGreatDoorShelf2
section
set_option linter.all false
set_option maxRecDepth 100000
set_option maxHeartbeats 8000000
namespace Lg
open Go Go.Proofs

theorem intRows_nil : intRows [] = [] := rfl
theorem intRows_snoc (l : List Int) (x : Int) : intRows l ++ [[Tr.int x]] = intRows (l ++ [x]) := by rw [intRows_app]; rfl
theorem int_set (l : List Int) (i : Nat) (v : Int) : (intRows l).set i [Tr.int v] = intRows (l.set i v) := by
  unfold intRows
  rw [List.map_set]
attribute [local irreducible] intRows
theorem order_gen (n : Nat) (hn : n ≤ 12) : Gen Tryz.prog 25 52 [.int n] 14 (fun r => ∃ l : List Int, r = .ints l ∧ l.length = n ∧ ∀ x ∈ l, 0 ≤ x ∧ x < n) := by
  unfold Gen
  intro bs xs N hN
  refine Spec.body Tryz.func52 rfl rfl (Tryz.ntmps52) rfl fun w0 own0 M => ?_
  repeat' (first | refine goH ?_ | refine goV ?_ | refine goC (fun ad cap => ?_) | refine goI ?_ | (refine Cw.k_cond ?_; first | (refine Cw.cond_dec rfl (fun hc => ?_) (fun hc => ?_) <;> try (exfalso; omega)) | refine Cw.cond_bool rfl (fun hc => ?_) (fun hc => ?_)) | refine goR ?_ | refine goP ?_ | apply PSeq.cons | apply PSeq.yes rfl rfl rfl | exact goW | fail)
  refine Cw.loopI [(0, _), (1, _), (9, _)] _ (fun q e cc => ∃ (k : Nat) (rows : List (List Tr)) (l : List Int) (ad : Option Addr) (cap : Nat), q = n - k ∧ (k ≤ n ∧ rows = intRows l ∧ rows.length = k ∧ l.length = k ∧ ∀ x ∈ l, 0 ≤ x ∧ x < n) ∧ e = [(5, Tr.raw (.slice ad k cap)), (10, .int k)] ∧ cc = [Chunk.own ad cap 1 3 rows])
    ⟨_, _, _, Ent.trans (Ent.nil 1 3) (Ent.mkP goSub goPm), 0, [], [], none, 0, rfl, ⟨by omega, intRows_nil.symm, rfl, rfl, by simp⟩, rfl, rfl⟩ ?_
  rintro _ _ _ ⟨k, rows, l, ad, cap, rfl, ⟨hk, hrs, hrl, hll, hlb⟩, rfl, rfl⟩
  by_cases hkl : k < n
  · have hrs2 : rows ++ [[Tr.int k]] = intRows (l ++ [(k : Int)]) := by rw [hrs, intRows_snoc]
    have hrl2 : (rows ++ [[Tr.int k]]).length = k + 1 := by rw [List.length_append, hrl]; rfl
    have hlb2 : ∀ x ∈ l ++ [(k : Int)], 0 ≤ x ∧ x < n := by
      intro x hx
      rcases List.mem_append.1 hx with h | h
      · exact hlb x h
      · rw [List.mem_singleton.1 h]; omega
    clear hrs hlb
    repeat' (first | refine goH ?_ | refine goV ?_ | refine goC (fun ad cap => ?_) | refine goI ?_ | (refine Cw.k_cond ?_; first | (refine Cw.cond_dec rfl (fun hc => ?_) (fun hc => ?_) <;> try (exfalso; omega)) | refine Cw.cond_bool rfl (fun hc => ?_) (fun hc => ?_)) | refine goR ?_ | refine goP ?_ | apply PSeq.cons | apply PSeq.yes rfl rfl rfl | exact goW | fail)
    erw [hrl2]
    exact ⟨_, _, _, (Ent.mk goSub goTk), ⟨k + 1, _, l ++ [(k : Int)], _, _, rfl, ⟨by omega, hrs2, hrl2, by simp [hll], hlb2⟩, rfl, rfl⟩, by omega⟩
  have hkn : k = n := by omega
  subst hkn
  subst hrs
  clear hkl hk
  repeat' (first | refine goH ?_ | refine goV ?_ | refine goC (fun ad cap => ?_) | refine goI ?_ | (refine Cw.k_cond ?_; first | (refine Cw.cond_dec rfl (fun hc => ?_) (fun hc => ?_) <;> try (exfalso; omega)) | refine Cw.cond_bool rfl (fun hc => ?_) (fun hc => ?_)) | refine goR ?_ | refine goP ?_ | apply PSeq.cons | apply PSeq.yes rfl rfl rfl | exact goW | fail)
  refine Cw.loopI [(0, _), (5, _)] _ (fun q e cc => ∃ (i : Int) (l : List Int) (c : Nat), q = i.toNat ∧ ((-1 ≤ i ∧ i < k) ∧ (intRows l).length = k ∧ l.length = k ∧ (∀ x ∈ l, 0 ≤ x ∧ x < k) ∧ c + i ≤ N + k) ∧ e = [(7, .int i)] ∧ cc = [Chunk.own ad cap 1 3 (intRows l), Chunk.strm 25 bs (intRows xs) c])
    ⟨_, _, _, (Ent.mkP goSub goPm), (k : Int) - 1, l, N, rfl, ⟨by omega, hrl, hll, hlb, by omega⟩, rfl, rfl⟩ ?_
  clear hrl hll hlb
  rintro _ _ _ ⟨i, l, c, rfl, ⟨hi, hrl, hll, hlb, hc⟩, rfl, rfl⟩
  by_cases hi0 : 0 < i
  rotate_left
  · repeat' (first | refine goH ?_ | refine goV ?_ | refine goC (fun ad cap => ?_) | refine goI ?_ | (refine Cw.k_cond ?_; first | (refine Cw.cond_dec rfl (fun hc => ?_) (fun hc => ?_) <;> try (exfalso; omega)) | refine Cw.cond_bool rfl (fun hc => ?_) (fun hc => ?_)) | refine goR ?_ | refine goP ?_ | apply PSeq.cons | apply PSeq.yes rfl rfl rfl | exact goW | fail)
    rw [← hrl]
    refine Fin.ret (Ent.trans (Ent.settle (s := 4) rfl goPk rfl) (Ent.strm_only goPk (by omega))) (Outs.sole rfl goOe) ⟨rfl, l, rfl, by rw [hrl]; exact hll, by rw [hrl]; exact hlb⟩
  repeat' (first | refine goH ?_ | refine goV ?_ | refine goC (fun ad cap => ?_) | refine goI ?_ | (refine Cw.k_cond ?_; first | (refine Cw.cond_dec rfl (fun hc => ?_) (fun hc => ?_) <;> try (exfalso; omega)) | refine Cw.cond_bool rfl (fun hc => ?_) (fun hc => ?_)) | (refine Ops.k_calla ?_; first | (refine Ops.k_callf 6 ?_; (refine Ops.callG (next_gen _ (by omega)) (Evs.cons rfl (Evs.cons rfl Evs.nil)) goPk (by omega) rfl ?_; rintro r ⟨j, rfl, hj⟩; unfold InRange at hj))) | fail)
  obtain ⟨x, hx⟩ := at_lt (l := l) (k := i.toNat) (by omega)
  obtain ⟨y, hy⟩ := at_lt (l := l) (k := j.toNat) (by omega)
  have r1 := intRows_at hx
  have r2 := intRows_at hy
  have r3 : ((intRows l).set i.toNat [Tr.int y])[j.toNat]? = some [Tr.int y] := by
    rw [int_set]
    refine intRows_at ?_
    rw [List.getElem?_set]
    by_cases h : i.toNat = j.toNat
    · rw [if_pos h, if_pos (by omega)]
    · rw [if_neg h]; exact hy
  first | refine Cw.region_YP (fun ξ S => Chunk.strm 25 bs (intRows xs) (c + 1) :: Chunk.own ad cap 1 3 (stg (S 15) (stg (S 13) (intRows l) ((intRows l).set i.toNat [.int y])) (((intRows l).set i.toNat [.int y]).set j.toNat [.int x])) :: []) rfl (by decide +kernel) rfl ((fun (ξ : Nat → Value) (S : Nat → Bool) => Chunk.strm 25 bs (intRows xs) (c + 1) :: Chunk.own ad cap 1 3 (stg (S 15) (stg (S 13) (intRows l) ((intRows l).set i.toNat [.int y])) (((intRows l).set i.toNat [.int y]).set j.toNat [.int x])) :: []) (fun _ => undef) (fun _ => false)) (by simp only [upd_same, updD_same, upd_ne, updD_ne, ne_eq, Nat.reduceEqDiff, not_false_eq_true, stg_t, stg_f, vAd_s, vCap_s, blk_p, List.cons_append, List.nil_append, b2n_t, b2n_f]; exact goXm) (fun _ => rfl) ?_ | fail
  apply YSeq.w (by intro _ _ _; rfl)
  · intro ξ S h1 h2 h3 h4
    have hN0_13 := closed_false h1 h3 (k := 13) rfl (by decide)
    have hN0_15 := closed_false h1 h3 (k := 15) rfl (by decide)
    try simp only [upd_same, updD_same, upd_ne, updD_ne, ne_eq, Nat.reduceEqDiff, not_false_eq_true, stg_t, stg_f, vAd_s, vCap_s, blk_p, List.cons_append, List.nil_append, b2n_t, b2n_f, hN0_13, hN0_15]
    exact goW
  · intro ξ v; rfl
  · intro ξ k v S h3 hn hk
    first
    | rfl
  apply YSeq.w (by intro _ _ _; rfl)
  · intro ξ S h1 h2 h3 h4
    have hN1_13 := closed_false h1 h3 (k := 13) rfl (by decide)
    have hN1_15 := closed_false h1 h3 (k := 15) rfl (by decide)
    try simp only [upd_same, updD_same, upd_ne, updD_ne, ne_eq, Nat.reduceEqDiff, not_false_eq_true, stg_t, stg_f, vAd_s, vCap_s, blk_p, List.cons_append, List.nil_append, b2n_t, b2n_f, hN1_13, hN1_15]
    exact goW
  · intro ξ v; rfl
  · intro ξ k v S h3 hn hk
    first
    | rfl
  apply YSeq.w (by intro _ _ _; rfl)
  · intro ξ S h1 h2 h3 h4
    have hN2_15 := closed_false h1 h3 (k := 15) rfl (by decide)
    try simp only [upd_same, updD_same, upd_ne, updD_ne, ne_eq, Nat.reduceEqDiff, not_false_eq_true, stg_t, stg_f, vAd_s, vCap_s, blk_p, List.cons_append, List.nil_append, b2n_t, b2n_f, hN2_15]
    exact goW
  · intro ξ v; rfl
  · intro ξ k v S h3 hn hk
    first
    | rfl
  apply YSeq.w (by intro _ _ _; rfl)
  · intro ξ S h1 h2 h3 h4
    have hN3_15 := closed_false h1 h3 (k := 15) rfl (by decide)
    try simp only [upd_same, updD_same, upd_ne, updD_ne, ne_eq, Nat.reduceEqDiff, not_false_eq_true, stg_t, stg_f, vAd_s, vCap_s, blk_p, List.cons_append, List.nil_append, b2n_t, b2n_f, hN3_15]
    exact goW
  · intro ξ v; rfl
  · intro ξ k v S h3 hn hk
    first
    | rfl
  apply YSeq.w (by intro _ _ _; rfl)
  · intro ξ S h1 h2 h3 h4
    have hN4_13 := closed_false h1 h3 (k := 13) rfl (by decide)
    have hN4_15 := closed_false h1 h3 (k := 15) rfl (by decide)
    try simp only [upd_same, updD_same, upd_ne, updD_ne, ne_eq, Nat.reduceEqDiff, not_false_eq_true, stg_t, stg_f, vAd_s, vCap_s, blk_p, List.cons_append, List.nil_append, b2n_t, b2n_f, hN4_13, hN4_15]
    exact goW
  · intro ξ v; rfl
  · intro ξ k v S h3 hn hk
    first
    | rfl
  apply YSeq.w (by intro _ _ _; rfl)
  · intro ξ S h1 h2 h3 h4
    have hN5_13 := closed_false h1 h3 (k := 13) rfl (by decide)
    have hN5_15 := closed_false h1 h3 (k := 15) rfl (by decide)
    try simp only [upd_same, updD_same, upd_ne, updD_ne, ne_eq, Nat.reduceEqDiff, not_false_eq_true, stg_t, stg_f, vAd_s, vCap_s, blk_p, List.cons_append, List.nil_append, b2n_t, b2n_f, hN5_13, hN5_15]
    exact goW
  · intro ξ v; rfl
  · intro ξ k v S h3 hn hk
    first
    | rfl
  apply YSeq.w (by intro _ _ _; rfl)
  · intro ξ S h1 h2 h3 h4
    have hN6_13 := closed_false h1 h3 (k := 13) rfl (by decide)
    have hN6_15 := closed_false h1 h3 (k := 15) rfl (by decide)
    try simp only [upd_same, updD_same, upd_ne, updD_ne, ne_eq, Nat.reduceEqDiff, not_false_eq_true, stg_t, stg_f, vAd_s, vCap_s, blk_p, List.cons_append, List.nil_append, b2n_t, b2n_f, hN6_13, hN6_15]
    exact goW
  · intro ξ v; rfl
  · intro ξ k v S h3 hn hk
    first
    | rfl
  apply YSeq.w (by intro _ _ _; rfl)
  · intro ξ S h1 h2 h3 h4
    have hN7_13 := closed_false h1 h3 (k := 13) rfl (by decide)
    have hN7_15 := closed_false h1 h3 (k := 15) rfl (by decide)
    try simp only [upd_same, updD_same, upd_ne, updD_ne, ne_eq, Nat.reduceEqDiff, not_false_eq_true, stg_t, stg_f, vAd_s, vCap_s, blk_p, List.cons_append, List.nil_append, b2n_t, b2n_f, hN7_13, hN7_15]
    exact goW
  · intro ξ v; rfl
  · intro ξ k v S h3 hn hk
    first
    | rfl
  apply YSeq.w (by intro _ _ _; rfl)
  · intro ξ S h1 h2 h3 h4
    have hN8_10 := closed_false h1 h3 (k := 10) rfl (by decide)
    have hN8_11 := closed_false hN8_10 h3 (k := 11) rfl (by decide)
    have hN8_13 := closed_false hN8_11 h3 (k := 13) rfl (by decide)
    have hN8_15 := closed_false h1 h3 (k := 15) rfl (by decide)
    try simp only [upd_same, updD_same, upd_ne, updD_ne, ne_eq, Nat.reduceEqDiff, not_false_eq_true, stg_t, stg_f, vAd_s, vCap_s, blk_p, List.cons_append, List.nil_append, b2n_t, b2n_f, hN8_13, hN8_15]
    exact goW
  · intro ξ v; rfl
  · intro ξ k v S h3 hn hk
    first
    | rfl
  apply YSeq.w (by intro _ _ _; rfl)
  · intro ξ S h1 h2 h3 h4
    have hN9_10 := closed_false h1 h3 (k := 10) rfl (by decide)
    have hN9_11 := closed_false hN9_10 h3 (k := 11) rfl (by decide)
    have hN9_13 := closed_false hN9_11 h3 (k := 13) rfl (by decide)
    have hN9_15 := closed_false h1 h3 (k := 15) rfl (by decide)
    try simp only [upd_same, updD_same, upd_ne, updD_ne, ne_eq, Nat.reduceEqDiff, not_false_eq_true, stg_t, stg_f, vAd_s, vCap_s, blk_p, List.cons_append, List.nil_append, b2n_t, b2n_f, hN9_13, hN9_15]
    exact goW
  · intro ξ v; rfl
  · intro ξ k v S h3 hn hk
    first
    | rfl
  apply YSeq.w (by intro _ _ _; rfl)
  · intro ξ S h1 h2 h3 h4
    have hN10_11 := closed_false h1 h3 (k := 11) rfl (by decide)
    have hN10_13 := closed_false hN10_11 h3 (k := 13) rfl (by decide)
    have hN10_15 := closed_false h1 h3 (k := 15) rfl (by decide)
    try simp only [upd_same, updD_same, upd_ne, updD_ne, ne_eq, Nat.reduceEqDiff, not_false_eq_true, stg_t, stg_f, vAd_s, vCap_s, blk_p, List.cons_append, List.nil_append, b2n_t, b2n_f, hN10_13, hN10_15]
    exact goW
  · intro ξ v; rfl
  · intro ξ k v S h3 hn hk
    first
    | rfl
  apply YSeq.w (by intro _ _ _; rfl)
  · intro ξ S h1 h2 h3 h4
    have hN11_13 := closed_false h1 h3 (k := 13) rfl (by decide)
    have hN11_15 := closed_false h1 h3 (k := 15) rfl (by decide)
    try simp only [upd_same, updD_same, upd_ne, updD_ne, ne_eq, Nat.reduceEqDiff, not_false_eq_true, stg_t, stg_f, vAd_s, vCap_s, blk_p, List.cons_append, List.nil_append, b2n_t, b2n_f, hN11_13, hN11_15]
    exact goW
  · intro ξ v; rfl
  · intro ξ k v S h3 hn hk
    first
    | rfl
  apply YSeq.w (by intro _ _ _; rfl)
  · intro ξ S h1 h2 h3 h4
    have hN12_13 := closed_false h1 h3 (k := 13) rfl (by decide)
    have hN12_15 := closed_false h1 h3 (k := 15) rfl (by decide)
    try simp only [upd_same, updD_same, upd_ne, updD_ne, ne_eq, Nat.reduceEqDiff, not_false_eq_true, stg_t, stg_f, vAd_s, vCap_s, blk_p, List.cons_append, List.nil_append, b2n_t, b2n_f, hN12_13, hN12_15]
    exact goW
  · intro ξ v; rfl
  · intro ξ k v S h3 hn hk
    first
    | rfl
  apply YSeq.storeO
  · intro ξ S h1 h2 h3 h4
    have hN13_15 := closed_false h1 h3 (k := 15) rfl (by decide)
    simp only [upd_same, updD_same, upd_ne, updD_ne, ne_eq, Nat.reduceEqDiff, not_false_eq_true, stg_t, stg_f, vAd_s, vCap_s, blk_p, List.cons_append, List.nil_append, b2n_t, b2n_f, h1, hN13_15]
    refine ⟨_, _, _, _, _, _, _, _, _, _, rfl, rfl, inferInstance, goXp, (by first | rfl | assumption | (simp [*]; done)), (by decide), ?_⟩
    exact goXm
  apply YSeq.w (by intro _ _ _; rfl)
  · intro ξ S h1 h2 h3 h4
    have hY14_13 : S 13 = true := h2 13 (by decide)
    have hN14_15 := closed_false h1 h3 (k := 15) rfl (by decide)
    try simp only [upd_same, updD_same, upd_ne, updD_ne, ne_eq, Nat.reduceEqDiff, not_false_eq_true, stg_t, stg_f, vAd_s, vCap_s, blk_p, List.cons_append, List.nil_append, b2n_t, b2n_f, hY14_13, hN14_15]
    exact goW
  · intro ξ v; rfl
  · intro ξ k v S h3 hn hk
    first
    | rfl
  apply YSeq.storeO
  · intro ξ S h1 h2 h3 h4
    have hY15_13 : S 13 = true := h2 13 (by decide)
    simp only [upd_same, updD_same, upd_ne, updD_ne, ne_eq, Nat.reduceEqDiff, not_false_eq_true, stg_t, stg_f, vAd_s, vCap_s, blk_p, List.cons_append, List.nil_append, b2n_t, b2n_f, hY15_13, h1]
    refine ⟨_, _, _, _, _, _, _, _, _, _, rfl, rfl, inferInstance, goXp, (by first | rfl | assumption | (simp [*]; done)), (by decide), ?_⟩
    exact goXm
  refine YSeq.nil fun ξ hf => ?_
  refine ⟨[(0, _), (5, _), (7, _), (8, _)], _, Ent.trans (Ent.eqc rfl (by first | (simp only [upd_same, updD_same, upd_ne, updD_ne, ne_eq, Nat.reduceEqDiff, not_false_eq_true, stg_t, stg_f, vAd_s, vCap_s, blk_p, List.cons_append, List.nil_append, b2n_t, b2n_f, ownV, slV, ptV] <;> rfl) | rfl)) (Ent.sub goSub), ?_⟩
  clear hf
  have hb : ∀ z ∈ (l.set i.toNat y).set j.toNat x, 0 ≤ z ∧ z < k := by
    intro z hz
    rcases List.mem_or_eq_of_mem_set hz with h | h
    · rcases List.mem_or_eq_of_mem_set h with h | h
      · exact hlb z h
      · rw [h]; exact hlb y (List.mem_of_getElem? hy)
    · rw [h]; exact hlb x (List.mem_of_getElem? hx)
  have hl2 : ((l.set i.toNat y).set j.toNat x).length = k := by simp [hll]
  rw [int_set, int_set]
  clear r1 r2 r3 hx hy
  repeat' (first | refine goH ?_ | refine goV ?_ | refine goC (fun ad cap => ?_) | refine goI ?_ | (refine Cw.k_cond ?_; first | (refine Cw.cond_dec rfl (fun hc => ?_) (fun hc => ?_) <;> try (exfalso; omega)) | refine Cw.cond_bool rfl (fun hc => ?_) (fun hc => ?_)) | refine goR ?_ | refine goP ?_ | apply PSeq.cons | apply PSeq.yes rfl rfl rfl | exact goW | fail)
  exact ⟨_, _, _, (Ent.mk goSub goTk), ⟨i - 1, _, _, rfl, ⟨by omega, by rw [intRows_len]; exact hl2, hl2, hb, by omega⟩, rfl, rfl⟩, by omega⟩
end Lg
end
section
set_option linter.all false
set_option maxRecDepth 100000
set_option maxHeartbeats 4000000
namespace Lg
open Go Go.Proofs

/-! ### strings.Repeat -/
theorem extra105 : Builder.Extra Tryz.prog Tryz.lays105_ren := {
  sizeBuilder := by kernel_rfl
  liesBuilder := by kernel_rfl
  t5 := by kernel_rfl
  a5 := fun w => by first | rfl | exact run_isAgg_plain (by kernel_rfl) rfl w
  z5 := fun w => by first | rfl | kernel_rfl
  v5 := fun w => by first | rfl | kernel_rfl
  infoByte := by kernel_rfl
  cellsByte := by kernel_rfl
  sizeByte := by kernel_rfl
  neB5 := by decide
}
theorem repeat_fn (s : ByteArray) (n : Nat) (hn : n ≤ 1000000) (hs : s.size ≤ 1000000) : PFn Tryz.prog 35 [.str s, .int n] (· = .str (mkB (Lib.repeatL s.data.toList n))) := by
  refine PFn.of_callsB (args := [.string s, .int .i64 n]) (fun vs w => rfl) (fun w => ?_)
  have hm : s.size * n ≤ 1000000 * 1000000 := Nat.mul_le_mul hs hn
  refine (Any.strings_Repeat Tryz.lays105 extra105 s n w (by omega) (by omega)).mono ?_
  rintro e w' ⟨rfl, hb⟩
  exact ⟨rfl, hb⟩
end Lg
end
