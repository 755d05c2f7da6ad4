/- A part of the proof of a law of this seat: it adds no condition. By an AI agent. -/
import Derived.Test.YtacfkfehoemnfaaGreatDoorNmS
import Derived.Test.YtacfkfehoemnfaaGreatDoorRepT
set_option linter.all false
set_option maxRecDepth 100000
set_option maxHeartbeats 8000000
namespace Lg
open Go Go.Proofs

/-! ### entries out of the stream -/
abbrev strmC (bs : Nat) (xs : List Int) (N : Nat) : Chunk := Chunk.strm 25 bs (intRows xs) N
theorem rightEntry_fn (bs : Nat) (xs : List Int) (N : Nat) (day : Int) (hN : N + 30 ≤ 1000000000000) :
    Spec Tryz.prog 33 [.ptr bs, .int day] [strmC bs xs N] (fun r cs => ∃ (text : ByteArray) (l : List Ln) (ad : Option Addr) (cap n c : Nat), (c ≤ N + 30 ∧ text.size ≤ 100 ∧ l.length = n ∧ 2 ≤ n ∧ n ≤ 3 ∧ ∀ x ∈ l, -1000 ≤ x.c ∧ x.c ≤ 1000) ∧ r = .agg [.int day, .str text, Tr.raw (.slice ad n cap)] ∧ cs = [strmC bs xs c, Chunk.own ad cap 2 71 (l.map Ln.row)]) := by
  refine Spec.body Tryz.func33 rfl rfl (Tryz.ntmps33) rfl fun w0 own0 M => ?_
  repeat' (first | refine goH ?_ | refine goV ?_ | refine goB (fun b => ?_) | refine goC (fun ad cap => ?_) | refine goI ?_ | (refine Cw.k_cond ?_; first | (refine Cw.cond_dec rfl (fun hc => ?_) (fun hc => ?_) <;> try (exfalso; omega)) | refine Cw.cond_bool rfl (fun hc => ?_) (fun hc => ?_)) | (refine Ops.k_calla ?_; first | (refine Ops.k_callf 34 ?_; (refine Ops.callG (one_gen (by repeat' (first | exact IsStrs.nil | apply IsStrs.cons)) (by simp)) (Evs.cons rfl (Evs.cons rfl Evs.nil)) goPk (by omega) rfl ?_; rintro r ⟨text, rfl, ht⟩)) | (refine Ops.k_callf 7 ?_; (refine Ops.callG (pick_gen (by repeat' (first | exact IsInts.nil | apply IsInts.cons)) (by simp)) (Evs.cons rfl (Evs.cons rfl Evs.nil)) goPk (by omega) rfl ?_; rintro r ⟨u, rfl, hu⟩; simp only [List.mem_cons, List.mem_nil_iff, or_false] at hu)) | (refine Ops.k_callf 52 ?_; (refine Ops.callG (order_gen 4 (by omega)) (Evs.cons rfl (Evs.cons rfl Evs.nil)) goPk (by omega) rfl ?_; rintro r ⟨o, rfl, hol, hob⟩))) | fail)
  rename_i b4
  obtain ⟨o0, o1, o2, o3, rfl⟩ : ∃ o0 o1 o2 o3, o = [o0, o1, o2, o3] := by
    match o, hol with
    | [a, b, c, d], _ => exact ⟨a, b, c, d, rfl⟩
  have b0 := hob o0 (by simp)
  have b1 := hob o1 (by simp)
  have b2 := hob o2 (by simp)
  have htz : text.size ≤ 100 := by
    simp only [List.mem_cons, List.mem_nil_iff, or_false] at ht
    rcases ht with rfl | rfl | rfl <;> decide
  clear hob hol ht
  obtain ⟨A, hA, hAl⟩ : ∃ A : List ByteArray, A = [⟨#[99, 97, 115, 104]⟩, ⟨#[108, 111, 115, 115]⟩, ⟨#[115, 97, 108, 101, 115]⟩, ⟨#[98, 97, 110, 107]⟩] ∧ A.length = 4 := ⟨_, rfl, rfl⟩
  have hAr : ([[Tr.raw (Value.string { data := #[99, 97, 115, 104] })], [Tr.raw (Value.string { data := #[108, 111, 115, 115] })], [Tr.raw (Value.string { data := #[115, 97, 108, 101, 115] })], [Tr.raw (Value.string { data := #[98, 97, 110, 107] })]] : List (List Tr)) = strRows A := by rw [hA]; rfl
  rw [hAr]
  clear hAr hA
  obtain ⟨a0, h0⟩ := at_lt (l := A) (k := o0.toNat) (by omega)
  obtain ⟨a1, h1⟩ := at_lt (l := A) (k := o1.toNat) (by omega)
  obtain ⟨a2, h2⟩ := at_lt (l := A) (k := o2.toNat) (by omega)
  have r0 : (strRows A)[o0.toNat]? = some [.str a0] := strRows_at h0
  have r1 : (strRows A)[o1.toNat]? = some [.str a1] := strRows_at h1
  have r2 : (strRows A)[o2.toNat]? = some [.str a2] := strRows_at h2
  have i0 : (intRows [o0, o1, o2, o3])[(0 : Int).toNat]? = some [.int o0] := by with_unfolding_all rfl
  have i1 : (intRows [o0, o1, o2, o3])[(1 : Int).toNat]? = some [.int o1] := by with_unfolding_all rfl
  have i2 : (intRows [o0, o1, o2, o3])[(2 : Int).toNat]? = some [.int o2] := by with_unfolding_all rfl
  clear h0 h1 h2
  first | refine Cw.region_YP (fun ξ S => strmC bs xs (N + 1 + 1 + 14) :: Chunk.box b 39 [.int day, .str text, stg (S 19) (Tr.raw (.slice none 0 0)) (slV (ξ 17) 2)] :: Chunk.box b4 39 (List.map Tr.raw [.int .i64 0, .string ⟨#[]⟩, .slice none 0 0]) :: (stg (S 17) [] [ownV (ξ 17) 2 71 [[.str a0, .int u], [.str a1, .int (-u)]]] ++ [])) rfl (by decide +kernel) rfl ((fun (ξ : Nat → Value) (S : Nat → Bool) => strmC bs xs (N + 1 + 1 + 14) :: Chunk.box b 39 [.int day, .str text, stg (S 19) (Tr.raw (.slice none 0 0)) (slV (ξ 17) 2)] :: Chunk.box b4 39 (List.map Tr.raw [.int .i64 0, .string ⟨#[]⟩, .slice none 0 0]) :: (stg (S 17) [] [ownV (ξ 17) 2 71 [[.str a0, .int u], [.str a1, .int (-u)]]] ++ [])) (fun _ => undef) (fun _ => false)) (by simp only [upd_same, updD_same, upd_ne, updD_ne, ne_eq, Nat.reduceEqDiff, not_false_eq_true, stg_t, stg_f, vAd_s, vCap_s, blk_p, List.cons_append, List.nil_append, b2n_t, b2n_f]; exact goXm) (fun _ => rfl) ?_ | fail
  apply YSeq.w (by intro _ _ _; rfl)
  · intro ξ S h1 h2 h3 h4
    have hN0_4 := closed_false h1 h3 (k := 4) rfl (by decide)
    have hN0_5 := closed_false hN0_4 h3 (k := 5) rfl (by decide)
    have hN0_7 := closed_false hN0_5 h3 (k := 7) rfl (by decide)
    have hN0_17 := closed_false hN0_7 h3 (k := 17) rfl (by decide)
    have hN0_19 := closed_false h1 h3 (k := 19) rfl (by decide)
    try simp only [upd_same, updD_same, upd_ne, updD_ne, ne_eq, Nat.reduceEqDiff, not_false_eq_true, stg_t, stg_f, vAd_s, vCap_s, blk_p, List.cons_append, List.nil_append, b2n_t, b2n_f, hN0_17, hN0_19]
    exact goW
  · intro ξ v; rfl
  · intro ξ k v S h3 hn hk
    first
    | rfl
  apply YSeq.w (by intro _ _ _; rfl)
  · intro ξ S h1 h2 h3 h4
    have hN1_2 := closed_false h1 h3 (k := 2) rfl (by decide)
    have hN1_3 := closed_false hN1_2 h3 (k := 3) rfl (by decide)
    have hN1_4 := closed_false hN1_3 h3 (k := 4) rfl (by decide)
    have hN1_5 := closed_false hN1_4 h3 (k := 5) rfl (by decide)
    have hN1_7 := closed_false hN1_5 h3 (k := 7) rfl (by decide)
    have hN1_17 := closed_false hN1_7 h3 (k := 17) rfl (by decide)
    have hN1_19 := closed_false h1 h3 (k := 19) rfl (by decide)
    try simp only [upd_same, updD_same, upd_ne, updD_ne, ne_eq, Nat.reduceEqDiff, not_false_eq_true, stg_t, stg_f, vAd_s, vCap_s, blk_p, List.cons_append, List.nil_append, b2n_t, b2n_f, hN1_17, hN1_19]
    exact goW
  · intro ξ v; rfl
  · intro ξ k v S h3 hn hk
    first
    | rfl
  apply YSeq.w (by intro _ _ _; rfl)
  · intro ξ S h1 h2 h3 h4
    have hN2_3 := closed_false h1 h3 (k := 3) rfl (by decide)
    have hN2_4 := closed_false hN2_3 h3 (k := 4) rfl (by decide)
    have hN2_5 := closed_false hN2_4 h3 (k := 5) rfl (by decide)
    have hN2_7 := closed_false hN2_5 h3 (k := 7) rfl (by decide)
    have hN2_17 := closed_false hN2_7 h3 (k := 17) rfl (by decide)
    have hN2_19 := closed_false h1 h3 (k := 19) rfl (by decide)
    try simp only [upd_same, updD_same, upd_ne, updD_ne, ne_eq, Nat.reduceEqDiff, not_false_eq_true, stg_t, stg_f, vAd_s, vCap_s, blk_p, List.cons_append, List.nil_append, b2n_t, b2n_f, hN2_17, hN2_19]
    exact goW
  · intro ξ v; rfl
  · intro ξ k v S h3 hn hk
    first
    | rfl
  apply YSeq.w (by intro _ _ _; rfl)
  · intro ξ S h1 h2 h3 h4
    have hN3_4 := closed_false h1 h3 (k := 4) rfl (by decide)
    have hN3_5 := closed_false hN3_4 h3 (k := 5) rfl (by decide)
    have hN3_7 := closed_false hN3_5 h3 (k := 7) rfl (by decide)
    have hN3_17 := closed_false hN3_7 h3 (k := 17) rfl (by decide)
    have hN3_19 := closed_false h1 h3 (k := 19) rfl (by decide)
    try simp only [upd_same, updD_same, upd_ne, updD_ne, ne_eq, Nat.reduceEqDiff, not_false_eq_true, stg_t, stg_f, vAd_s, vCap_s, blk_p, List.cons_append, List.nil_append, b2n_t, b2n_f, hN3_17, hN3_19]
    exact goW
  · intro ξ v; rfl
  · intro ξ k v S h3 hn hk
    first
    | rfl
  apply YSeq.w (by intro _ _ _; rfl)
  · intro ξ S h1 h2 h3 h4
    have hN4_5 := closed_false h1 h3 (k := 5) rfl (by decide)
    have hN4_7 := closed_false hN4_5 h3 (k := 7) rfl (by decide)
    have hN4_17 := closed_false hN4_7 h3 (k := 17) rfl (by decide)
    have hN4_19 := closed_false h1 h3 (k := 19) rfl (by decide)
    try simp only [upd_same, updD_same, upd_ne, updD_ne, ne_eq, Nat.reduceEqDiff, not_false_eq_true, stg_t, stg_f, vAd_s, vCap_s, blk_p, List.cons_append, List.nil_append, b2n_t, b2n_f, hN4_17, hN4_19]
    exact goW
  · intro ξ v; rfl
  · intro ξ k v S h3 hn hk
    first
    | rfl
  apply YSeq.w (by intro _ _ _; rfl)
  · intro ξ S h1 h2 h3 h4
    have hN5_7 := closed_false h1 h3 (k := 7) rfl (by decide)
    have hN5_17 := closed_false hN5_7 h3 (k := 17) rfl (by decide)
    have hN5_19 := closed_false h1 h3 (k := 19) rfl (by decide)
    try simp only [upd_same, updD_same, upd_ne, updD_ne, ne_eq, Nat.reduceEqDiff, not_false_eq_true, stg_t, stg_f, vAd_s, vCap_s, blk_p, List.cons_append, List.nil_append, b2n_t, b2n_f, hN5_17, hN5_19]
    exact goW
  · intro ξ v; rfl
  · intro ξ k v S h3 hn hk
    first
    | rfl
  apply YSeq.w (by intro _ _ _; rfl)
  · intro ξ S h1 h2 h3 h4
    have hN6_7 := closed_false h1 h3 (k := 7) rfl (by decide)
    have hN6_17 := closed_false hN6_7 h3 (k := 17) rfl (by decide)
    have hN6_19 := closed_false h1 h3 (k := 19) rfl (by decide)
    try simp only [upd_same, updD_same, upd_ne, updD_ne, ne_eq, Nat.reduceEqDiff, not_false_eq_true, stg_t, stg_f, vAd_s, vCap_s, blk_p, List.cons_append, List.nil_append, b2n_t, b2n_f, hN6_17, hN6_19]
    exact goW
  · intro ξ v; rfl
  · intro ξ k v S h3 hn hk
    first
    | rfl
  apply YSeq.w (by intro _ _ _; rfl)
  · intro ξ S h1 h2 h3 h4
    have hN7_17 := closed_false h1 h3 (k := 17) rfl (by decide)
    have hN7_19 := closed_false h1 h3 (k := 19) rfl (by decide)
    try simp only [upd_same, updD_same, upd_ne, updD_ne, ne_eq, Nat.reduceEqDiff, not_false_eq_true, stg_t, stg_f, vAd_s, vCap_s, blk_p, List.cons_append, List.nil_append, b2n_t, b2n_f, hN7_17, hN7_19]
    exact goW
  · intro ξ v; rfl
  · intro ξ k v S h3 hn hk
    first
    | rfl
  apply YSeq.w (by intro _ _ _; rfl)
  · intro ξ S h1 h2 h3 h4
    have hN8_12 := closed_false h1 h3 (k := 12) rfl (by decide)
    have hN8_13 := closed_false hN8_12 h3 (k := 13) rfl (by decide)
    have hN8_16 := closed_false hN8_13 h3 (k := 16) rfl (by decide)
    have hN8_17 := closed_false hN8_16 h3 (k := 17) rfl (by decide)
    have hN8_19 := closed_false h1 h3 (k := 19) rfl (by decide)
    try simp only [upd_same, updD_same, upd_ne, updD_ne, ne_eq, Nat.reduceEqDiff, not_false_eq_true, stg_t, stg_f, vAd_s, vCap_s, blk_p, List.cons_append, List.nil_append, b2n_t, b2n_f, hN8_17, hN8_19]
    exact goW
  · intro ξ v; rfl
  · intro ξ k v S h3 hn hk
    first
    | rfl
  apply YSeq.w (by intro _ _ _; rfl)
  · intro ξ S h1 h2 h3 h4
    have hN9_10 := closed_false h1 h3 (k := 10) rfl (by decide)
    have hN9_11 := closed_false hN9_10 h3 (k := 11) rfl (by decide)
    have hN9_12 := closed_false hN9_11 h3 (k := 12) rfl (by decide)
    have hN9_13 := closed_false hN9_12 h3 (k := 13) rfl (by decide)
    have hN9_16 := closed_false hN9_13 h3 (k := 16) rfl (by decide)
    have hN9_17 := closed_false hN9_16 h3 (k := 17) rfl (by decide)
    have hN9_19 := closed_false h1 h3 (k := 19) rfl (by decide)
    try simp only [upd_same, updD_same, upd_ne, updD_ne, ne_eq, Nat.reduceEqDiff, not_false_eq_true, stg_t, stg_f, vAd_s, vCap_s, blk_p, List.cons_append, List.nil_append, b2n_t, b2n_f, hN9_17, hN9_19]
    exact goW
  · intro ξ v; rfl
  · intro ξ k v S h3 hn hk
    first
    | rfl
  apply YSeq.w (by intro _ _ _; rfl)
  · intro ξ S h1 h2 h3 h4
    have hN10_11 := closed_false h1 h3 (k := 11) rfl (by decide)
    have hN10_12 := closed_false hN10_11 h3 (k := 12) rfl (by decide)
    have hN10_13 := closed_false hN10_12 h3 (k := 13) rfl (by decide)
    have hN10_16 := closed_false hN10_13 h3 (k := 16) rfl (by decide)
    have hN10_17 := closed_false hN10_16 h3 (k := 17) rfl (by decide)
    have hN10_19 := closed_false h1 h3 (k := 19) rfl (by decide)
    try simp only [upd_same, updD_same, upd_ne, updD_ne, ne_eq, Nat.reduceEqDiff, not_false_eq_true, stg_t, stg_f, vAd_s, vCap_s, blk_p, List.cons_append, List.nil_append, b2n_t, b2n_f, hN10_17, hN10_19]
    exact goW
  · intro ξ v; rfl
  · intro ξ k v S h3 hn hk
    first
    | rfl
  apply YSeq.w (by intro _ _ _; rfl)
  · intro ξ S h1 h2 h3 h4
    have hN11_12 := closed_false h1 h3 (k := 12) rfl (by decide)
    have hN11_13 := closed_false hN11_12 h3 (k := 13) rfl (by decide)
    have hN11_16 := closed_false hN11_13 h3 (k := 16) rfl (by decide)
    have hN11_17 := closed_false hN11_16 h3 (k := 17) rfl (by decide)
    have hN11_19 := closed_false h1 h3 (k := 19) rfl (by decide)
    try simp only [upd_same, updD_same, upd_ne, updD_ne, ne_eq, Nat.reduceEqDiff, not_false_eq_true, stg_t, stg_f, vAd_s, vCap_s, blk_p, List.cons_append, List.nil_append, b2n_t, b2n_f, hN11_17, hN11_19]
    exact goW
  · intro ξ v; rfl
  · intro ξ k v S h3 hn hk
    first
    | rfl
  apply YSeq.w (by intro _ _ _; rfl)
  · intro ξ S h1 h2 h3 h4
    have hN12_13 := closed_false h1 h3 (k := 13) rfl (by decide)
    have hN12_16 := closed_false hN12_13 h3 (k := 16) rfl (by decide)
    have hN12_17 := closed_false hN12_16 h3 (k := 17) rfl (by decide)
    have hN12_19 := closed_false h1 h3 (k := 19) rfl (by decide)
    try simp only [upd_same, updD_same, upd_ne, updD_ne, ne_eq, Nat.reduceEqDiff, not_false_eq_true, stg_t, stg_f, vAd_s, vCap_s, blk_p, List.cons_append, List.nil_append, b2n_t, b2n_f, hN12_17, hN12_19]
    exact goW
  · intro ξ v; rfl
  · intro ξ k v S h3 hn hk
    first
    | rfl
  apply YSeq.w (by intro _ _ _; rfl)
  · intro ξ S h1 h2 h3 h4
    have hN13_16 := closed_false h1 h3 (k := 16) rfl (by decide)
    have hN13_17 := closed_false hN13_16 h3 (k := 17) rfl (by decide)
    have hN13_19 := closed_false h1 h3 (k := 19) rfl (by decide)
    try simp only [upd_same, updD_same, upd_ne, updD_ne, ne_eq, Nat.reduceEqDiff, not_false_eq_true, stg_t, stg_f, vAd_s, vCap_s, blk_p, List.cons_append, List.nil_append, b2n_t, b2n_f, hN13_17, hN13_19]
    exact goW
  · intro ξ v; rfl
  · intro ξ k v S h3 hn hk
    first
    | rfl
  apply YSeq.w (by intro _ _ _; rfl)
  · intro ξ S h1 h2 h3 h4
    have hN14_15 := closed_false h1 h3 (k := 15) rfl (by decide)
    have hN14_16 := closed_false hN14_15 h3 (k := 16) rfl (by decide)
    have hN14_17 := closed_false hN14_16 h3 (k := 17) rfl (by decide)
    have hN14_19 := closed_false h1 h3 (k := 19) rfl (by decide)
    try simp only [upd_same, updD_same, upd_ne, updD_ne, ne_eq, Nat.reduceEqDiff, not_false_eq_true, stg_t, stg_f, vAd_s, vCap_s, blk_p, List.cons_append, List.nil_append, b2n_t, b2n_f, hN14_17, hN14_19]
    exact goW
  · intro ξ v; rfl
  · intro ξ k v S h3 hn hk
    first
    | rfl
  apply YSeq.w (by intro _ _ _; rfl)
  · intro ξ S h1 h2 h3 h4
    have hN15_16 := closed_false h1 h3 (k := 16) rfl (by decide)
    have hN15_17 := closed_false hN15_16 h3 (k := 17) rfl (by decide)
    have hN15_19 := closed_false h1 h3 (k := 19) rfl (by decide)
    try simp only [upd_same, updD_same, upd_ne, updD_ne, ne_eq, Nat.reduceEqDiff, not_false_eq_true, stg_t, stg_f, vAd_s, vCap_s, blk_p, List.cons_append, List.nil_append, b2n_t, b2n_f, hN15_17, hN15_19]
    exact goW
  · intro ξ v; rfl
  · intro ξ k v S h3 hn hk
    first
    | rfl
  apply YSeq.w (by intro _ _ _; rfl)
  · intro ξ S h1 h2 h3 h4
    have hN16_17 := closed_false h1 h3 (k := 17) rfl (by decide)
    have hN16_19 := closed_false h1 h3 (k := 19) rfl (by decide)
    try simp only [upd_same, updD_same, upd_ne, updD_ne, ne_eq, Nat.reduceEqDiff, not_false_eq_true, stg_t, stg_f, vAd_s, vCap_s, blk_p, List.cons_append, List.nil_append, b2n_t, b2n_f, hN16_17, hN16_19]
    exact goW
  · intro ξ v; rfl
  · intro ξ k v S h3 hn hk
    first
    | rfl
  apply YSeq.lit
  · intro ξ S h1 h2 h3 h4
    have hN17_19 := closed_false h1 h3 (k := 19) rfl (by decide)
    refine ⟨_, _, (by first | exact (by exact Parts.cons rfl rfl rfl (by exact Parts.nil)) | exact (by exact Parts.cons rfl rfl rfl (by exact Parts.cons rfl rfl rfl (by exact Parts.nil))) | exact (by exact Parts.cons rfl rfl rfl (by exact Parts.cons rfl rfl rfl (by exact Parts.cons rfl rfl rfl (by exact Parts.nil)))) | exact (by exact Parts.cons rfl rfl rfl (by exact Parts.cons rfl rfl rfl (by exact Parts.cons rfl rfl rfl (by exact Parts.cons rfl rfl rfl (by exact Parts.nil))))) | exact (by exact Parts.cons rfl rfl rfl (by exact Parts.cons rfl rfl rfl (by exact Parts.cons rfl rfl rfl (by exact Parts.cons rfl rfl rfl (by exact Parts.cons rfl rfl rfl (by exact Parts.nil))))))), goNt, rfl, fun ad cap => ?_⟩
    simp only [upd_same, updD_same, upd_ne, updD_ne, ne_eq, Nat.reduceEqDiff, not_false_eq_true, stg_t, stg_f, vAd_s, vCap_s, blk_p, List.cons_append, List.nil_append, b2n_t, b2n_f, h1, hN17_19]
    exact goXm
  apply YSeq.w (by intro _ _ _; rfl)
  · intro ξ S h1 h2 h3 h4
    have hY18_17 : S 17 = true := h2 17 (by decide)
    have hN18_19 := closed_false h1 h3 (k := 19) rfl (by decide)
    try simp only [upd_same, updD_same, upd_ne, updD_ne, ne_eq, Nat.reduceEqDiff, not_false_eq_true, stg_t, stg_f, vAd_s, vCap_s, blk_p, List.cons_append, List.nil_append, b2n_t, b2n_f, hY18_17, hN18_19]
    exact goW
  · intro ξ v; rfl
  · intro ξ k v S h3 hn hk
    first
    | rfl
    | skip
      have hY18_17 : S 17 = true := h3 18 _ rfl hn 17 (by decide)
      simp only [upd_S hY18_17 hk]
  apply YSeq.store
  · intro ξ S h1 h2 h3 h4
    have hY19_17 : S 17 = true := h2 17 (by decide)
    simp only [upd_same, updD_same, upd_ne, updD_ne, ne_eq, Nat.reduceEqDiff, not_false_eq_true, stg_t, stg_f, vAd_s, vCap_s, blk_p, List.cons_append, List.nil_append, b2n_t, b2n_f, hY19_17, h1]
    refine ⟨_, _, _, _, _, _, _, rfl, rfl, inferInstance, goXp, rfl, Nat.le_of_ble_eq_true rfl, ?_⟩
    exact goXm
  refine YSeq.nil fun ξ hf => ?_
  refine ⟨[(0, _), (4, _), (5, _), (6, _), (7, _), (8, _)], _, Ent.trans (Ent.eqc rfl (by first | (simp only [upd_same, updD_same, upd_ne, updD_ne, ne_eq, Nat.reduceEqDiff, not_false_eq_true, stg_t, stg_f, vAd_s, vCap_s, blk_p, List.cons_append, List.nil_append, b2n_t, b2n_f, ownV, slV, ptV] <;> rfl) | rfl)) (Ent.sub goSub), ?_⟩
  clear hf
  generalize vAd (ξ 17) = ad37
  generalize vCap (ξ 17) = cap37
  repeat (first | refine InB.norm ?_ | refine Then.norm ?_)
  repeat' (first | refine goH ?_ | refine goV ?_ | refine goB (fun b => ?_) | refine goC (fun ad cap => ?_) | refine goI ?_ | (refine Cw.k_cond ?_; first | (refine Cw.cond_dec rfl (fun hc => ?_) (fun hc => ?_) <;> try (exfalso; omega)) | refine Cw.cond_bool rfl (fun hc => ?_) (fun hc => ?_)) | (refine Ops.k_calla ?_; first | (refine Ops.k_callf 8 ?_; (refine Ops.callG (flip_gen _ (by omega)) (Evs.cons rfl (Evs.cons rfl Evs.nil)) goPk (by omega) rfl ?_; rintro r ⟨v1, rfl⟩))) | fail)
  · rw [show ([[Tr.str a0, Tr.int u], [Tr.str a1, Tr.int (-u)]] : List (List Tr)).set (Int.toNat 0) ([Tr.str a0, Tr.int u].set (0 + 1) (Tr.int (u + 7))) = [[Tr.str a0, Tr.int (u + 7)], [Tr.str a1, Tr.int (-u)]] from rfl]
    first | refine Cw.region_YP (fun ξ S => strmC bs xs (N + 1 + 1 + 14 + 1) :: Chunk.box b 39 [.int day, .str text, stg (S 12) (Tr.raw (.slice ad37 2 cap37)) (slV (ξ 10) 3)] :: Chunk.box b4 39 (List.map Tr.raw [.int .i64 0, .string ⟨#[]⟩, .slice none 0 0]) :: stg (S 10) (Chunk.own ad37 cap37 2 71 [[.str a0, .int (u + 7)], [.str a1, .int (-u)]]) (ownV (ξ 10) 2 71 ([[.str a0, .int (u + 7)], [.str a1, .int (-u)]] ++ [[.str a2, .int (-7)]])) :: []) rfl (by decide +kernel) rfl ((fun (ξ : Nat → Value) (S : Nat → Bool) => strmC bs xs (N + 1 + 1 + 14 + 1) :: Chunk.box b 39 [.int day, .str text, stg (S 12) (Tr.raw (.slice ad37 2 cap37)) (slV (ξ 10) 3)] :: Chunk.box b4 39 (List.map Tr.raw [.int .i64 0, .string ⟨#[]⟩, .slice none 0 0]) :: stg (S 10) (Chunk.own ad37 cap37 2 71 [[.str a0, .int (u + 7)], [.str a1, .int (-u)]]) (ownV (ξ 10) 2 71 ([[.str a0, .int (u + 7)], [.str a1, .int (-u)]] ++ [[.str a2, .int (-7)]])) :: []) (fun _ => undef) (fun _ => false)) (by simp only [upd_same, updD_same, upd_ne, updD_ne, ne_eq, Nat.reduceEqDiff, not_false_eq_true, stg_t, stg_f, vAd_s, vCap_s, blk_p, List.cons_append, List.nil_append, b2n_t, b2n_f]; exact goXm) (fun _ => rfl) ?_ | fail
    apply YSeq.w (by intro _ _ _; rfl)
    · intro ξ S h1 h2 h3 h4
      have hN0_1 := closed_false h1 h3 (k := 1) rfl (by decide)
      have hN0_10 := closed_false hN0_1 h3 (k := 10) rfl (by decide)
      have hN0_12 := closed_false h1 h3 (k := 12) rfl (by decide)
      try simp only [upd_same, updD_same, upd_ne, updD_ne, ne_eq, Nat.reduceEqDiff, not_false_eq_true, stg_t, stg_f, vAd_s, vCap_s, blk_p, List.cons_append, List.nil_append, b2n_t, b2n_f, hN0_10, hN0_12]
      exact goW
    · intro ξ v; rfl
    · intro ξ k v S h3 hn hk
      first
      | rfl
    apply YSeq.w (by intro _ _ _; rfl)
    · intro ξ S h1 h2 h3 h4
      have hN1_10 := closed_false h1 h3 (k := 10) rfl (by decide)
      have hN1_12 := closed_false h1 h3 (k := 12) rfl (by decide)
      try simp only [upd_same, updD_same, upd_ne, updD_ne, ne_eq, Nat.reduceEqDiff, not_false_eq_true, stg_t, stg_f, vAd_s, vCap_s, blk_p, List.cons_append, List.nil_append, b2n_t, b2n_f, hN1_10, hN1_12]
      exact goW
    · intro ξ v; rfl
    · intro ξ k v S h3 hn hk
      first
      | rfl
    apply YSeq.w (by intro _ _ _; rfl)
    · intro ξ S h1 h2 h3 h4
      have hN2_6 := closed_false h1 h3 (k := 6) rfl (by decide)
      have hN2_7 := closed_false hN2_6 h3 (k := 7) rfl (by decide)
      have hN2_8 := closed_false hN2_7 h3 (k := 8) rfl (by decide)
      have hN2_9 := closed_false hN2_8 h3 (k := 9) rfl (by decide)
      have hN2_10 := closed_false hN2_9 h3 (k := 10) rfl (by decide)
      have hN2_12 := closed_false h1 h3 (k := 12) rfl (by decide)
      try simp only [upd_same, updD_same, upd_ne, updD_ne, ne_eq, Nat.reduceEqDiff, not_false_eq_true, stg_t, stg_f, vAd_s, vCap_s, blk_p, List.cons_append, List.nil_append, b2n_t, b2n_f, hN2_10, hN2_12]
      exact goW
    · intro ξ v; rfl
    · intro ξ k v S h3 hn hk
      first
      | rfl
    apply YSeq.w (by intro _ _ _; rfl)
    · intro ξ S h1 h2 h3 h4
      have hN3_4 := closed_false h1 h3 (k := 4) rfl (by decide)
      have hN3_5 := closed_false hN3_4 h3 (k := 5) rfl (by decide)
      have hN3_6 := closed_false hN3_5 h3 (k := 6) rfl (by decide)
      have hN3_7 := closed_false hN3_6 h3 (k := 7) rfl (by decide)
      have hN3_8 := closed_false hN3_7 h3 (k := 8) rfl (by decide)
      have hN3_9 := closed_false hN3_8 h3 (k := 9) rfl (by decide)
      have hN3_10 := closed_false hN3_9 h3 (k := 10) rfl (by decide)
      have hN3_12 := closed_false h1 h3 (k := 12) rfl (by decide)
      try simp only [upd_same, updD_same, upd_ne, updD_ne, ne_eq, Nat.reduceEqDiff, not_false_eq_true, stg_t, stg_f, vAd_s, vCap_s, blk_p, List.cons_append, List.nil_append, b2n_t, b2n_f, hN3_10, hN3_12]
      exact goW
    · intro ξ v; rfl
    · intro ξ k v S h3 hn hk
      first
      | rfl
    apply YSeq.w (by intro _ _ _; rfl)
    · intro ξ S h1 h2 h3 h4
      have hN4_5 := closed_false h1 h3 (k := 5) rfl (by decide)
      have hN4_6 := closed_false hN4_5 h3 (k := 6) rfl (by decide)
      have hN4_7 := closed_false hN4_6 h3 (k := 7) rfl (by decide)
      have hN4_8 := closed_false hN4_7 h3 (k := 8) rfl (by decide)
      have hN4_9 := closed_false hN4_8 h3 (k := 9) rfl (by decide)
      have hN4_10 := closed_false hN4_9 h3 (k := 10) rfl (by decide)
      have hN4_12 := closed_false h1 h3 (k := 12) rfl (by decide)
      try simp only [upd_same, updD_same, upd_ne, updD_ne, ne_eq, Nat.reduceEqDiff, not_false_eq_true, stg_t, stg_f, vAd_s, vCap_s, blk_p, List.cons_append, List.nil_append, b2n_t, b2n_f, hN4_10, hN4_12]
      exact goW
    · intro ξ v; rfl
    · intro ξ k v S h3 hn hk
      first
      | rfl
    apply YSeq.w (by intro _ _ _; rfl)
    · intro ξ S h1 h2 h3 h4
      have hN5_6 := closed_false h1 h3 (k := 6) rfl (by decide)
      have hN5_7 := closed_false hN5_6 h3 (k := 7) rfl (by decide)
      have hN5_8 := closed_false hN5_7 h3 (k := 8) rfl (by decide)
      have hN5_9 := closed_false hN5_8 h3 (k := 9) rfl (by decide)
      have hN5_10 := closed_false hN5_9 h3 (k := 10) rfl (by decide)
      have hN5_12 := closed_false h1 h3 (k := 12) rfl (by decide)
      try simp only [upd_same, updD_same, upd_ne, updD_ne, ne_eq, Nat.reduceEqDiff, not_false_eq_true, stg_t, stg_f, vAd_s, vCap_s, blk_p, List.cons_append, List.nil_append, b2n_t, b2n_f, hN5_10, hN5_12]
      exact goW
    · intro ξ v; rfl
    · intro ξ k v S h3 hn hk
      first
      | rfl
    apply YSeq.w (by intro _ _ _; rfl)
    · intro ξ S h1 h2 h3 h4
      have hN6_7 := closed_false h1 h3 (k := 7) rfl (by decide)
      have hN6_8 := closed_false hN6_7 h3 (k := 8) rfl (by decide)
      have hN6_9 := closed_false hN6_8 h3 (k := 9) rfl (by decide)
      have hN6_10 := closed_false hN6_9 h3 (k := 10) rfl (by decide)
      have hN6_12 := closed_false h1 h3 (k := 12) rfl (by decide)
      try simp only [upd_same, updD_same, upd_ne, updD_ne, ne_eq, Nat.reduceEqDiff, not_false_eq_true, stg_t, stg_f, vAd_s, vCap_s, blk_p, List.cons_append, List.nil_append, b2n_t, b2n_f, hN6_10, hN6_12]
      exact goW
    · intro ξ v; rfl
    · intro ξ k v S h3 hn hk
      first
      | rfl
    apply YSeq.w (by intro _ _ _; rfl)
    · intro ξ S h1 h2 h3 h4
      have hN7_8 := closed_false h1 h3 (k := 8) rfl (by decide)
      have hN7_9 := closed_false hN7_8 h3 (k := 9) rfl (by decide)
      have hN7_10 := closed_false hN7_9 h3 (k := 10) rfl (by decide)
      have hN7_12 := closed_false h1 h3 (k := 12) rfl (by decide)
      try simp only [upd_same, updD_same, upd_ne, updD_ne, ne_eq, Nat.reduceEqDiff, not_false_eq_true, stg_t, stg_f, vAd_s, vCap_s, blk_p, List.cons_append, List.nil_append, b2n_t, b2n_f, hN7_10, hN7_12]
      exact goW
    · intro ξ v; rfl
    · intro ξ k v S h3 hn hk
      first
      | rfl
    apply YSeq.w (by intro _ _ _; rfl)
    · intro ξ S h1 h2 h3 h4
      have hN8_9 := closed_false h1 h3 (k := 9) rfl (by decide)
      have hN8_10 := closed_false hN8_9 h3 (k := 10) rfl (by decide)
      have hN8_12 := closed_false h1 h3 (k := 12) rfl (by decide)
      try simp only [upd_same, updD_same, upd_ne, updD_ne, ne_eq, Nat.reduceEqDiff, not_false_eq_true, stg_t, stg_f, vAd_s, vCap_s, blk_p, List.cons_append, List.nil_append, b2n_t, b2n_f, hN8_10, hN8_12]
      exact goW
    · intro ξ v; rfl
    · intro ξ k v S h3 hn hk
      first
      | rfl
    apply YSeq.w (by intro _ _ _; rfl)
    · intro ξ S h1 h2 h3 h4
      have hN9_10 := closed_false h1 h3 (k := 10) rfl (by decide)
      have hN9_12 := closed_false h1 h3 (k := 12) rfl (by decide)
      try simp only [upd_same, updD_same, upd_ne, updD_ne, ne_eq, Nat.reduceEqDiff, not_false_eq_true, stg_t, stg_f, vAd_s, vCap_s, blk_p, List.cons_append, List.nil_append, b2n_t, b2n_f, hN9_10, hN9_12]
      exact goW
    · intro ξ v; rfl
    · intro ξ k v S h3 hn hk
      first
      | rfl
    apply YSeq.append (3)
    · intro ξ S h1 h2 h3 h4
      have hN10_12 := closed_false h1 h3 (k := 12) rfl (by decide)
      simp only [upd_same, updD_same, upd_ne, updD_ne, ne_eq, Nat.reduceEqDiff, not_false_eq_true, stg_t, stg_f, vAd_s, vCap_s, blk_p, List.cons_append, List.nil_append, b2n_t, b2n_f, h1, hN10_12]
      refine ⟨_, _, _, _, _, _, rfl, rfl, goXp, (by first | rfl | (simp; done) | omega), (by first | rfl | omega | (simp; done) | (simp; omega)), (by first | omega | (simp; done) | (simp; omega)), (by first | omega | (simp; done) | (simp; omega)), fun ad' cap' => ?_⟩
      exact goXm
    apply YSeq.w (by intro _ _ _; rfl)
    · intro ξ S h1 h2 h3 h4
      have hY11_10 : S 10 = true := h2 10 (by decide)
      have hN11_12 := closed_false h1 h3 (k := 12) rfl (by decide)
      try simp only [upd_same, updD_same, upd_ne, updD_ne, ne_eq, Nat.reduceEqDiff, not_false_eq_true, stg_t, stg_f, vAd_s, vCap_s, blk_p, List.cons_append, List.nil_append, b2n_t, b2n_f, hY11_10, hN11_12]
      exact goW
    · intro ξ v; rfl
    · intro ξ k v S h3 hn hk
      first
      | rfl
      | skip
        have hY11_10 : S 10 = true := h3 11 _ rfl hn 10 (by decide)
        simp only [upd_S hY11_10 hk]
    apply YSeq.store
    · intro ξ S h1 h2 h3 h4
      have hY12_10 : S 10 = true := h2 10 (by decide)
      simp only [upd_same, updD_same, upd_ne, updD_ne, ne_eq, Nat.reduceEqDiff, not_false_eq_true, stg_t, stg_f, vAd_s, vCap_s, blk_p, List.cons_append, List.nil_append, b2n_t, b2n_f, hY12_10, h1]
      refine ⟨_, _, _, _, _, _, _, rfl, rfl, inferInstance, goXp, rfl, Nat.le_of_ble_eq_true rfl, ?_⟩
      exact goXm
    refine YSeq.nil fun ξ hf => ?_
    refine ⟨[(0, _), (4, _), (5, _)], _, Ent.trans (Ent.eqc rfl (by first | (simp only [upd_same, updD_same, upd_ne, updD_ne, ne_eq, Nat.reduceEqDiff, not_false_eq_true, stg_t, stg_f, vAd_s, vCap_s, blk_p, List.cons_append, List.nil_append, b2n_t, b2n_f, ownV, slV, ptV] <;> rfl) | rfl)) (Ent.sub goSub), ?_⟩
    clear hf
    generalize vAd (ξ 10) = ad57
    generalize vCap (ξ 10) = cap57
    repeat (first | refine InB.norm ?_ | refine Then.norm ?_)
    repeat' (first | refine goH ?_ | refine goV ?_ | refine goB (fun b => ?_) | refine goC (fun ad cap => ?_) | refine goI ?_ | (refine Cw.k_cond ?_; first | (refine Cw.cond_dec rfl (fun hc => ?_) (fun hc => ?_) <;> try (exfalso; omega)) | refine Cw.cond_bool rfl (fun hc => ?_) (fun hc => ?_)) | refine goR ?_ | refine goP ?_ | apply PSeq.cons | apply PSeq.yes rfl rfl rfl | exact goW | fail)
    exact Fin.ret (Ent.trans (Ent.setbox (s := 4) rfl goPk) (Ent.take goTk)) (Outs.sole rfl goOe) ⟨text, [⟨a0, u + 7⟩, ⟨a1, -u⟩, ⟨a2, -7⟩], ad57, cap57, 3, _, ⟨by omega, htz, rfl, by omega, by omega, by intro x hx; simp only [List.mem_cons, List.mem_nil_iff, or_false] at hx; rcases hx with rfl | rfl | rfl <;> simp only <;> omega⟩, rfl, rfl⟩
  · exact Fin.ret (Ent.trans (Ent.setbox (s := 4) rfl goPk) (Ent.take goTk)) (Outs.sole rfl goOe) ⟨text, [⟨a0, u⟩, ⟨a1, -u⟩], ad37, cap37, 2, _, ⟨by omega, htz, rfl, by omega, by omega, by intro x hx; simp only [List.mem_cons, List.mem_nil_iff, or_false] at hx; rcases hx with rfl | rfl <;> simp only <;> omega⟩, rfl, rfl⟩
def EnB (e : En) : Prop := e.text.size ≤ 100 ∧ e.ls.length ≤ 3
theorem rep_fn (n : Nat) (h : n = 60 ∨ n = 61) : ∃ u : ByteArray, u.size ≤ 100 ∧ PFn Tryz.prog 35 [.str ⟨#[116]⟩, .int n] (· = .str u) := by
  refine ⟨_, ?_, repeat_fn ⟨#[116]⟩ n (by omega) (by decide)⟩
  rcases h with rfl | rfl <;> decide
theorem entry_gen (day : Int) : Gen Tryz.prog 25 12 [.int day] 50 (fun r => ∃ e : En, r = .agg e.row ∧ EnB e) := by
  unfold Gen
  intro bs xs N hN
  refine Spec.body Tryz.func12 rfl rfl (Tryz.ntmps12) rfl fun w0 own0 M => ?_
  have k1 := rightEntry_fn bs xs N day (by omega)
  obtain ⟨t60, hz60, k60⟩ := rep_fn 60 (.inl rfl)
  obtain ⟨t61, hz61, k61⟩ := rep_fn 61 (.inr rfl)
  repeat' (first | refine goH ?_ | refine goV ?_ | refine goB (fun b => ?_) | refine goI ?_ | (refine Cw.k_cond ?_; first | (refine Cw.cond_dec rfl (fun hc => ?_) (fun hc => ?_) <;> try (exfalso; omega)) | refine Cw.cond_bool rfl (fun hc => ?_) (fun hc => ?_)) | (refine Ops.k_calla ?_; first | (refine Ops.k_callf 33 ?_; (refine Ops.call k1 (Evs.cons rfl (Evs.cons rfl Evs.nil)) goPm rfl ?_; rintro r cs' ⟨text, l, ad, cap, n, c, ⟨hc, hsz, hl, hn2, hn3, hlc⟩, rfl, rfl⟩)) | (refine Ops.k_callf 8 ?_; (refine Ops.callG (flip_gen _ (by omega)) (Evs.cons rfl (Evs.cons rfl Evs.nil)) goPk (by omega) rfl ?_; rintro r ⟨v1, rfl⟩; cases v1)) | (refine Ops.k_callf 6 ?_; (refine Ops.callG (next_gen _ (by omega)) (Evs.cons rfl (Evs.cons rfl Evs.nil)) goPk (by omega) rfl ?_; rintro r ⟨v, rfl, hv⟩; unfold InRange at hv; have hv5 : v = 0 ∨ v = 1 ∨ v = 2 ∨ v = 3 ∨ v = 4 ∨ v = 5 := (by omega); clear hv; obtain ⟨x, y, t, rfl⟩ : ∃ x y t, l = x :: y :: t := (by match l, hl, hn2 with | [], h, h2 => (simp at h; omega) | [_], h, h2 => (simp at h; omega) | a :: b :: t, _, _ => exact ⟨a, b, t, rfl⟩); have hr0 : ((x :: y :: t).map Ln.row)[(0 : Int).toNat]? = some [.str x.acc, .int x.c] := rfl; have hr1 : ((x :: y :: t).map Ln.row)[(1 : Int).toNat]? = some [.str y.acc, .int y.c] := rfl; have hrl : ((x :: y :: t).map Ln.row).length = n := (by rw [List.length_map]; exact hl); have hxc := hlc x (by simp); rcases hv5 with rfl | rfl | rfl | rfl | rfl | rfl)) | (refine Ops.k_callf 7 ?_; (refine Ops.callG (pick_gen (by repeat' (first | exact IsInts.nil | apply IsInts.cons)) (by simp)) (Evs.cons rfl (Evs.cons rfl Evs.nil)) goPk (by omega) rfl ?_; rintro r ⟨u, rfl, hu⟩; clear hu)) | (refine Ops.k_callf 34 ?_; (refine Ops.callG (one_gen (by repeat' (first | exact IsStrs.nil | apply IsStrs.cons)) (by simp)) (Evs.cons rfl (Evs.cons rfl Evs.nil)) goPk (by omega) rfl ?_; rintro r ⟨s, rfl, hs⟩)) | refine Ops.callV k60 (Evs.cons rfl (Evs.cons rfl Evs.nil)) rfl ?_ | refine Ops.callV k61 (Evs.cons rfl (Evs.cons rfl Evs.nil)) rfl ?_) | (apply OpW.k_call; first | exact OpW.callV k60 (Evs.cons rfl (Evs.cons rfl Evs.nil)) | exact OpW.callV k61 (Evs.cons rfl (Evs.cons rfl Evs.nil))) | fail)
  · exact Fin.ret (Ent.trans (Ent.settle_box (i := 2) (rows := l.map Ln.row) (kk := 2) (by exact Perm.cons' goPk (Perm.cons' goPk (List.Perm.refl _))) rfl (by rw [List.length_map]; exact hl.symm) rfl) (Ent.trans (Ent.setbox (s := 4) rfl goPk) (Ent.strm_only goPk (by omega)))) (Outs.sole rfl goOe) ⟨rfl, ⟨day, text, l⟩, rfl, ⟨by exact hsz, by simp only; omega⟩⟩
  · exact Fin.ret (Ent.trans (Ent.settle_box (i := 2) (rows := (x :: y :: t).map Ln.row) (kk := 2) (by exact Perm.cons' goPk (Perm.cons' goPk (List.Perm.refl _))) rfl hrl.symm rfl) (Ent.trans (Ent.setbox (s := 4) rfl goPk) (Ent.strm_only goPk (by omega)))) (Outs.sole rfl goOe) ⟨rfl, ⟨u, text, x :: y :: t⟩, rfl, ⟨by exact hsz, by simp only; omega⟩⟩
  · have hs2 : s.size ≤ 100 := by
      simp only [List.mem_cons, List.mem_nil_iff, or_false] at hs
      rcases hs with rfl | rfl | rfl | rfl | rfl <;> first | assumption | decide
    exact Fin.ret (Ent.trans (Ent.settle_box (i := 2) (rows := (x :: y :: t).map Ln.row) (kk := 2) (by exact Perm.cons' goPk (Perm.cons' goPk (List.Perm.refl _))) rfl hrl.symm rfl) (Ent.trans (Ent.setbox (s := 4) rfl goPk) (Ent.strm_only goPk (by omega)))) (Outs.sole rfl goOe) ⟨rfl, ⟨day, s, x :: y :: t⟩, rfl, ⟨by exact hs2, by simp only; omega⟩⟩
  · exact Fin.ret (Ent.trans (Ent.settle_box (i := 2) (rows := List.take (Int.toNat 1) (List.map Ln.row (x :: y :: t))) (kk := 2) (by exact Perm.cons' goPk (Perm.cons' goPk (List.Perm.refl _))) rfl rfl rfl) (Ent.trans (Ent.setbox (s := 4) rfl goPk) (Ent.strm_only goPk (by omega)))) (Outs.sole rfl goOe) ⟨rfl, ⟨day, text, [x]⟩, rfl, ⟨by exact hsz, by show 1 ≤ 3; omega⟩⟩
  · rename_i b4
    first | refine Cw.region_YP (fun ξ S => strmC bs xs (c + 1 + 1 + b2n (S 9)) :: Chunk.box b 39 [.int day, .str text, Tr.raw (.slice ad n cap)] :: stg (S 12) (Chunk.own ad cap 2 71 ((x :: y :: t).map Ln.row)) (Chunk.own ad cap 2 71 (((x :: y :: t).map Ln.row).set (Int.toNat 0) [.str (vStr (ξ 9)), .int x.c])) :: Chunk.box b4 39 (List.map Tr.raw [.int .i64 0, .string ⟨#[]⟩, .slice none 0 0]) :: []) rfl (by decide +kernel) rfl ((fun (ξ : Nat → Value) (S : Nat → Bool) => strmC bs xs (c + 1 + 1 + b2n (S 9)) :: Chunk.box b 39 [.int day, .str text, Tr.raw (.slice ad n cap)] :: stg (S 12) (Chunk.own ad cap 2 71 ((x :: y :: t).map Ln.row)) (Chunk.own ad cap 2 71 (((x :: y :: t).map Ln.row).set (Int.toNat 0) [.str (vStr (ξ 9)), .int x.c])) :: Chunk.box b4 39 (List.map Tr.raw [.int .i64 0, .string ⟨#[]⟩, .slice none 0 0]) :: []) (fun _ => undef) (fun _ => false)) (by simp only [upd_same, updD_same, upd_ne, updD_ne, ne_eq, Nat.reduceEqDiff, not_false_eq_true, stg_t, stg_f, vAd_s, vCap_s, blk_p, List.cons_append, List.nil_append, b2n_t, b2n_f]; exact goXm) (fun _ => rfl) ?_ | fail
    apply YSeq.w (by intro _ _ _; rfl)
    · intro ξ S h1 h2 h3 h4
      have hN0_12 := closed_false h1 h3 (k := 12) rfl (by decide)
      try simp only [upd_same, updD_same, upd_ne, updD_ne, ne_eq, Nat.reduceEqDiff, not_false_eq_true, stg_t, stg_f, vAd_s, vCap_s, blk_p, List.cons_append, List.nil_append, b2n_t, b2n_f, hN0_12]
      exact goW
    · intro ξ v; rfl
    · intro ξ k v S h3 hn hk
      first
      | rfl
    apply YSeq.w (by intro _ _ _; rfl)
    · intro ξ S h1 h2 h3 h4
      have hN1_12 := closed_false h1 h3 (k := 12) rfl (by decide)
      try simp only [upd_same, updD_same, upd_ne, updD_ne, ne_eq, Nat.reduceEqDiff, not_false_eq_true, stg_t, stg_f, vAd_s, vCap_s, blk_p, List.cons_append, List.nil_append, b2n_t, b2n_f, hN1_12]
      exact goW
    · intro ξ v; rfl
    · intro ξ k v S h3 hn hk
      first
      | rfl
    apply YSeq.w (by intro _ _ _; rfl)
    · intro ξ S h1 h2 h3 h4
      have hN2_9 := closed_false h1 h3 (k := 9) rfl (by decide)
      have hN2_12 := closed_false h1 h3 (k := 12) rfl (by decide)
      try simp only [upd_same, updD_same, upd_ne, updD_ne, ne_eq, Nat.reduceEqDiff, not_false_eq_true, stg_t, stg_f, vAd_s, vCap_s, blk_p, List.cons_append, List.nil_append, b2n_t, b2n_f, hN2_9, hN2_12]
      exact goW
    · intro ξ v; rfl
    · intro ξ k v S h3 hn hk
      first
      | rfl
    apply YSeq.w (by intro _ _ _; rfl)
    · intro ξ S h1 h2 h3 h4
      have hN3_4 := closed_false h1 h3 (k := 4) rfl (by decide)
      have hN3_5 := closed_false hN3_4 h3 (k := 5) rfl (by decide)
      have hN3_6 := closed_false hN3_5 h3 (k := 6) rfl (by decide)
      have hN3_7 := closed_false hN3_6 h3 (k := 7) rfl (by decide)
      have hN3_8 := closed_false hN3_7 h3 (k := 8) rfl (by decide)
      have hN3_9 := closed_false hN3_8 h3 (k := 9) rfl (by decide)
      have hN3_12 := closed_false h1 h3 (k := 12) rfl (by decide)
      try simp only [upd_same, updD_same, upd_ne, updD_ne, ne_eq, Nat.reduceEqDiff, not_false_eq_true, stg_t, stg_f, vAd_s, vCap_s, blk_p, List.cons_append, List.nil_append, b2n_t, b2n_f, hN3_9, hN3_12]
      exact goW
    · intro ξ v; rfl
    · intro ξ k v S h3 hn hk
      first
      | rfl
    apply YSeq.w (by intro _ _ _; rfl)
    · intro ξ S h1 h2 h3 h4
      have hN4_5 := closed_false h1 h3 (k := 5) rfl (by decide)
      have hN4_6 := closed_false hN4_5 h3 (k := 6) rfl (by decide)
      have hN4_7 := closed_false hN4_6 h3 (k := 7) rfl (by decide)
      have hN4_8 := closed_false hN4_7 h3 (k := 8) rfl (by decide)
      have hN4_9 := closed_false hN4_8 h3 (k := 9) rfl (by decide)
      have hN4_12 := closed_false h1 h3 (k := 12) rfl (by decide)
      try simp only [upd_same, updD_same, upd_ne, updD_ne, ne_eq, Nat.reduceEqDiff, not_false_eq_true, stg_t, stg_f, vAd_s, vCap_s, blk_p, List.cons_append, List.nil_append, b2n_t, b2n_f, hN4_9, hN4_12]
      exact goW
    · intro ξ v; rfl
    · intro ξ k v S h3 hn hk
      first
      | rfl
    apply YSeq.w (by intro _ _ _; rfl)
    · intro ξ S h1 h2 h3 h4
      have hN5_6 := closed_false h1 h3 (k := 6) rfl (by decide)
      have hN5_7 := closed_false hN5_6 h3 (k := 7) rfl (by decide)
      have hN5_8 := closed_false hN5_7 h3 (k := 8) rfl (by decide)
      have hN5_9 := closed_false hN5_8 h3 (k := 9) rfl (by decide)
      have hN5_12 := closed_false h1 h3 (k := 12) rfl (by decide)
      try simp only [upd_same, updD_same, upd_ne, updD_ne, ne_eq, Nat.reduceEqDiff, not_false_eq_true, stg_t, stg_f, vAd_s, vCap_s, blk_p, List.cons_append, List.nil_append, b2n_t, b2n_f, hN5_9, hN5_12]
      exact goW
    · intro ξ v; rfl
    · intro ξ k v S h3 hn hk
      first
      | rfl
    apply YSeq.w (by intro _ _ _; rfl)
    · intro ξ S h1 h2 h3 h4
      have hN6_7 := closed_false h1 h3 (k := 7) rfl (by decide)
      have hN6_8 := closed_false hN6_7 h3 (k := 8) rfl (by decide)
      have hN6_9 := closed_false hN6_8 h3 (k := 9) rfl (by decide)
      have hN6_12 := closed_false h1 h3 (k := 12) rfl (by decide)
      try simp only [upd_same, updD_same, upd_ne, updD_ne, ne_eq, Nat.reduceEqDiff, not_false_eq_true, stg_t, stg_f, vAd_s, vCap_s, blk_p, List.cons_append, List.nil_append, b2n_t, b2n_f, hN6_9, hN6_12]
      exact goW
    · intro ξ v; rfl
    · intro ξ k v S h3 hn hk
      first
      | rfl
    apply YSeq.w (by intro _ _ _; rfl)
    · intro ξ S h1 h2 h3 h4
      have hN7_8 := closed_false h1 h3 (k := 8) rfl (by decide)
      have hN7_9 := closed_false hN7_8 h3 (k := 9) rfl (by decide)
      have hN7_12 := closed_false h1 h3 (k := 12) rfl (by decide)
      try simp only [upd_same, updD_same, upd_ne, updD_ne, ne_eq, Nat.reduceEqDiff, not_false_eq_true, stg_t, stg_f, vAd_s, vCap_s, blk_p, List.cons_append, List.nil_append, b2n_t, b2n_f, hN7_9, hN7_12]
      exact goW
    · intro ξ v; rfl
    · intro ξ k v S h3 hn hk
      first
      | rfl
    apply YSeq.w (by intro _ _ _; rfl)
    · intro ξ S h1 h2 h3 h4
      have hN8_9 := closed_false h1 h3 (k := 9) rfl (by decide)
      have hN8_12 := closed_false h1 h3 (k := 12) rfl (by decide)
      try simp only [upd_same, updD_same, upd_ne, updD_ne, ne_eq, Nat.reduceEqDiff, not_false_eq_true, stg_t, stg_f, vAd_s, vCap_s, blk_p, List.cons_append, List.nil_append, b2n_t, b2n_f, hN8_9, hN8_12]
      exact goW
    · intro ξ v; rfl
    · intro ξ k v S h3 hn hk
      first
      | rfl
    apply YSeq.callS (one_gen (l := [⟨#[]⟩, ⟨#[65]⟩, y.acc]) (by repeat' (first | exact IsStrs.nil | apply IsStrs.cons)) (by simp)) (fun _ => (Evs.cons rfl (Evs.cons rfl Evs.nil)))
    · intro ξ S h1 h3
      have hN9_12 := closed_false h1 h3 (k := 12) rfl (by decide)
      have hq9 := b2n_le (S 9)
      simp only [upd_same, updD_same, upd_ne, updD_ne, ne_eq, Nat.reduceEqDiff, not_false_eq_true, stg_t, stg_f, vAd_s, vCap_s, blk_p, List.cons_append, List.nil_append, b2n_t, b2n_f, h1, hN9_12]
      refine ⟨_, _, ?_, goXp, fun v => ?_⟩
      · omega
      · refine List.Perm.trans goXp (perm_strm ?_)
        omega
    apply YSeq.w (by intro _ _ _; rfl)
    · intro ξ S h1 h2 h3 h4
      have hY10_9 : S 9 = true := h2 9 (by decide)
      have hN10_11 := closed_false h1 h3 (k := 11) rfl (by decide)
      have hN10_12 := closed_false hN10_11 h3 (k := 12) rfl (by decide)
      have hR52 := pf_str (one_gen (l := [⟨#[]⟩, ⟨#[65]⟩, y.acc]) (by repeat' (first | exact IsStrs.nil | apply IsStrs.cons)) (by simp)) (h4 9 hY10_9)
      try simp only [InRange] at hR52
      have hRn52 := hR52
      try simp only [Nat.zero_add, Nat.reduceAdd] at hRn52
      try simp only [upd_same, updD_same, upd_ne, updD_ne, ne_eq, Nat.reduceEqDiff, not_false_eq_true, stg_t, stg_f, vAd_s, vCap_s, blk_p, List.cons_append, List.nil_append, b2n_t, b2n_f, hY10_9, hN10_12]
      exact goW
    · intro ξ v; rfl
    · intro ξ k v S h3 hn hk
      first
      | rfl
      | skip
        have hY10_9 : S 9 = true := h3 10 _ rfl hn 9 (by decide)
        simp only [upd_S hY10_9 hk]
    apply YSeq.w (by intro _ _ _; rfl)
    · intro ξ S h1 h2 h3 h4
      have hY11_9 : S 9 = true := h2 9 (by decide)
      have hN11_12 := closed_false h1 h3 (k := 12) rfl (by decide)
      have hR52 := pf_str (one_gen (l := [⟨#[]⟩, ⟨#[65]⟩, y.acc]) (by repeat' (first | exact IsStrs.nil | apply IsStrs.cons)) (by simp)) (h4 9 hY11_9)
      try simp only [InRange] at hR52
      have hRn52 := hR52
      try simp only [Nat.zero_add, Nat.reduceAdd] at hRn52
      try simp only [upd_same, updD_same, upd_ne, updD_ne, ne_eq, Nat.reduceEqDiff, not_false_eq_true, stg_t, stg_f, vAd_s, vCap_s, blk_p, List.cons_append, List.nil_append, b2n_t, b2n_f, hY11_9, hN11_12]
      exact goW
    · intro ξ v; rfl
    · intro ξ k v S h3 hn hk
      first
      | rfl
      | skip
        have hY11_9 : S 9 = true := h3 11 _ rfl hn 9 (by decide)
        simp only [upd_S hY11_9 hk]
    apply YSeq.storeO
    · intro ξ S h1 h2 h3 h4
      have hY12_9 : S 9 = true := h2 9 (by decide)
      have hR52 := pf_str (one_gen (l := [⟨#[]⟩, ⟨#[65]⟩, y.acc]) (by repeat' (first | exact IsStrs.nil | apply IsStrs.cons)) (by simp)) (h4 9 hY12_9)
      try simp only [InRange] at hR52
      have hRn52 := hR52
      try simp only [Nat.zero_add, Nat.reduceAdd] at hRn52
      simp only [upd_same, updD_same, upd_ne, updD_ne, ne_eq, Nat.reduceEqDiff, not_false_eq_true, stg_t, stg_f, vAd_s, vCap_s, blk_p, List.cons_append, List.nil_append, b2n_t, b2n_f, hY12_9, h1]
      refine ⟨_, _, _, _, _, _, _, _, _, _, rfl, rfl, inferInstance, goXp, (by first | rfl | assumption | (simp [*]; done)), (by decide), ?_⟩
      exact goXm
    refine YSeq.nil fun ξ hf => ?_
    have hR52 := pf_str (one_gen (l := [⟨#[]⟩, ⟨#[65]⟩, y.acc]) (by repeat' (first | exact IsStrs.nil | apply IsStrs.cons)) (by simp)) (hf 9)
    try simp only [InRange] at hR52
    refine ⟨[(0, _), (4, _), (5, _)], _, Ent.trans (Ent.eqc rfl (by first | (simp only [upd_same, updD_same, upd_ne, updD_ne, ne_eq, Nat.reduceEqDiff, not_false_eq_true, stg_t, stg_f, vAd_s, vCap_s, blk_p, List.cons_append, List.nil_append, b2n_t, b2n_f, ownV, slV, ptV] <;> rfl) | rfl)) (Ent.sub goSub), ?_⟩
    clear hf
    generalize vStr (ξ 9) = x52 at hR52 ⊢
    repeat (first | refine InB.norm ?_ | refine Then.norm ?_)
    repeat' (first | refine goH ?_ | refine goV ?_ | refine goB (fun b => ?_) | refine goI ?_ | (refine Cw.k_cond ?_; first | (refine Cw.cond_dec rfl (fun hc => ?_) (fun hc => ?_) <;> try (exfalso; omega)) | refine Cw.cond_bool rfl (fun hc => ?_) (fun hc => ?_)) | refine goR ?_ | refine goP ?_ | apply PSeq.cons | apply PSeq.yes rfl rfl rfl | exact goW | fail)
    exact Fin.ret (Ent.trans (Ent.settle_box (i := 2) (rows := _) (kk := 2) (by exact Perm.cons' goPk (Perm.cons' goPk (List.Perm.refl _))) rfl (by rw [List.length_set]; exact hrl.symm) rfl) (Ent.trans (Ent.setbox (s := 4) rfl goPk) (Ent.strm_only goPk (by omega)))) (Outs.sole rfl goOe) ⟨rfl, ⟨day, text, ⟨x52, x.c⟩ :: y :: t⟩, rfl, ⟨by exact hsz, by have := hl; simp only [List.length_cons] at this ⊢; omega⟩⟩
  · rename_i b4
    first | refine Cw.region_YP (fun ξ S => strmC bs xs (c + 1 + 1 + b2n (S 4)) :: Chunk.box b 39 [.int day, .str text, Tr.raw (.slice ad n cap)] :: stg (S 7) (Chunk.own ad cap 2 71 ((x :: y :: t).map Ln.row)) (Chunk.own ad cap 2 71 (((x :: y :: t).map Ln.row).set (Int.toNat 0) [.str x.acc, .int (vInt (ξ 4))])) :: Chunk.box b4 39 (List.map Tr.raw [.int .i64 0, .string ⟨#[]⟩, .slice none 0 0]) :: []) rfl (by decide +kernel) rfl ((fun (ξ : Nat → Value) (S : Nat → Bool) => strmC bs xs (c + 1 + 1 + b2n (S 4)) :: Chunk.box b 39 [.int day, .str text, Tr.raw (.slice ad n cap)] :: stg (S 7) (Chunk.own ad cap 2 71 ((x :: y :: t).map Ln.row)) (Chunk.own ad cap 2 71 (((x :: y :: t).map Ln.row).set (Int.toNat 0) [.str x.acc, .int (vInt (ξ 4))])) :: Chunk.box b4 39 (List.map Tr.raw [.int .i64 0, .string ⟨#[]⟩, .slice none 0 0]) :: []) (fun _ => undef) (fun _ => false)) (by simp only [upd_same, updD_same, upd_ne, updD_ne, ne_eq, Nat.reduceEqDiff, not_false_eq_true, stg_t, stg_f, vAd_s, vCap_s, blk_p, List.cons_append, List.nil_append, b2n_t, b2n_f]; exact goXm) (fun _ => rfl) ?_ | fail
    apply YSeq.w (by intro _ _ _; rfl)
    · intro ξ S h1 h2 h3 h4
      have hN0_7 := closed_false h1 h3 (k := 7) rfl (by decide)
      try simp only [upd_same, updD_same, upd_ne, updD_ne, ne_eq, Nat.reduceEqDiff, not_false_eq_true, stg_t, stg_f, vAd_s, vCap_s, blk_p, List.cons_append, List.nil_append, b2n_t, b2n_f, hN0_7]
      exact goW
    · intro ξ v; rfl
    · intro ξ k v S h3 hn hk
      first
      | rfl
    apply YSeq.w (by intro _ _ _; rfl)
    · intro ξ S h1 h2 h3 h4
      have hN1_7 := closed_false h1 h3 (k := 7) rfl (by decide)
      try simp only [upd_same, updD_same, upd_ne, updD_ne, ne_eq, Nat.reduceEqDiff, not_false_eq_true, stg_t, stg_f, vAd_s, vCap_s, blk_p, List.cons_append, List.nil_append, b2n_t, b2n_f, hN1_7]
      exact goW
    · intro ξ v; rfl
    · intro ξ k v S h3 hn hk
      first
      | rfl
    apply YSeq.w (by intro _ _ _; rfl)
    · intro ξ S h1 h2 h3 h4
      have hN2_4 := closed_false h1 h3 (k := 4) rfl (by decide)
      have hN2_7 := closed_false h1 h3 (k := 7) rfl (by decide)
      try simp only [upd_same, updD_same, upd_ne, updD_ne, ne_eq, Nat.reduceEqDiff, not_false_eq_true, stg_t, stg_f, vAd_s, vCap_s, blk_p, List.cons_append, List.nil_append, b2n_t, b2n_f, hN2_4, hN2_7]
      exact goW
    · intro ξ v; rfl
    · intro ξ k v S h3 hn hk
      first
      | rfl
    apply YSeq.w (by intro _ _ _; rfl)
    · intro ξ S h1 h2 h3 h4
      have hN3_4 := closed_false h1 h3 (k := 4) rfl (by decide)
      have hN3_7 := closed_false h1 h3 (k := 7) rfl (by decide)
      try simp only [upd_same, updD_same, upd_ne, updD_ne, ne_eq, Nat.reduceEqDiff, not_false_eq_true, stg_t, stg_f, vAd_s, vCap_s, blk_p, List.cons_append, List.nil_append, b2n_t, b2n_f, hN3_4, hN3_7]
      exact goW
    · intro ξ v; rfl
    · intro ξ k v S h3 hn hk
      first
      | rfl
    apply YSeq.callI (pick_gen (l := [0, 1000000000, 1000000001]) (by repeat' (first | exact IsInts.nil | apply IsInts.cons)) (by simp)) (fun _ => (Evs.cons rfl (Evs.cons rfl Evs.nil)))
    · intro ξ S h1 h3
      have hN4_7 := closed_false h1 h3 (k := 7) rfl (by decide)
      have hq4 := b2n_le (S 4)
      simp only [upd_same, updD_same, upd_ne, updD_ne, ne_eq, Nat.reduceEqDiff, not_false_eq_true, stg_t, stg_f, vAd_s, vCap_s, blk_p, List.cons_append, List.nil_append, b2n_t, b2n_f, h1, hN4_7]
      refine ⟨_, _, ?_, goXp, fun v => ?_⟩
      · omega
      · refine List.Perm.trans goXp (perm_strm ?_)
        omega
    apply YSeq.w (by intro _ _ _; rfl)
    · intro ξ S h1 h2 h3 h4
      have hY5_4 : S 4 = true := h2 4 (by decide)
      have hN5_6 := closed_false h1 h3 (k := 6) rfl (by decide)
      have hN5_7 := closed_false hN5_6 h3 (k := 7) rfl (by decide)
      have hR61 := pf_int (pick_gen (l := [0, 1000000000, 1000000001]) (by repeat' (first | exact IsInts.nil | apply IsInts.cons)) (by simp)) (h4 4 hY5_4)
      try simp only [InRange] at hR61
      have hRn61 := hR61
      try simp only [Nat.zero_add, Nat.reduceAdd] at hRn61
      try simp only [upd_same, updD_same, upd_ne, updD_ne, ne_eq, Nat.reduceEqDiff, not_false_eq_true, stg_t, stg_f, vAd_s, vCap_s, blk_p, List.cons_append, List.nil_append, b2n_t, b2n_f, hY5_4, hN5_7]
      exact goW
    · intro ξ v; rfl
    · intro ξ k v S h3 hn hk
      first
      | rfl
      | skip
        have hY5_4 : S 4 = true := h3 5 _ rfl hn 4 (by decide)
        simp only [upd_S hY5_4 hk]
    apply YSeq.w (by intro _ _ _; rfl)
    · intro ξ S h1 h2 h3 h4
      have hY6_4 : S 4 = true := h2 4 (by decide)
      have hN6_7 := closed_false h1 h3 (k := 7) rfl (by decide)
      have hR61 := pf_int (pick_gen (l := [0, 1000000000, 1000000001]) (by repeat' (first | exact IsInts.nil | apply IsInts.cons)) (by simp)) (h4 4 hY6_4)
      try simp only [InRange] at hR61
      have hRn61 := hR61
      try simp only [Nat.zero_add, Nat.reduceAdd] at hRn61
      try simp only [upd_same, updD_same, upd_ne, updD_ne, ne_eq, Nat.reduceEqDiff, not_false_eq_true, stg_t, stg_f, vAd_s, vCap_s, blk_p, List.cons_append, List.nil_append, b2n_t, b2n_f, hY6_4, hN6_7]
      exact goW
    · intro ξ v; rfl
    · intro ξ k v S h3 hn hk
      first
      | rfl
      | skip
        have hY6_4 : S 4 = true := h3 6 _ rfl hn 4 (by decide)
        simp only [upd_S hY6_4 hk]
    apply YSeq.storeO
    · intro ξ S h1 h2 h3 h4
      have hY7_4 : S 4 = true := h2 4 (by decide)
      have hR61 := pf_int (pick_gen (l := [0, 1000000000, 1000000001]) (by repeat' (first | exact IsInts.nil | apply IsInts.cons)) (by simp)) (h4 4 hY7_4)
      try simp only [InRange] at hR61
      have hRn61 := hR61
      try simp only [Nat.zero_add, Nat.reduceAdd] at hRn61
      simp only [upd_same, updD_same, upd_ne, updD_ne, ne_eq, Nat.reduceEqDiff, not_false_eq_true, stg_t, stg_f, vAd_s, vCap_s, blk_p, List.cons_append, List.nil_append, b2n_t, b2n_f, hY7_4, h1]
      refine ⟨_, _, _, _, _, _, _, _, _, _, rfl, rfl, inferInstance, goXp, (by first | rfl | assumption | (simp [*]; done)), (by decide), ?_⟩
      exact goXm
    refine YSeq.nil fun ξ hf => ?_
    have hR61 := pf_int (pick_gen (l := [0, 1000000000, 1000000001]) (by repeat' (first | exact IsInts.nil | apply IsInts.cons)) (by simp)) (hf 4)
    try simp only [InRange] at hR61
    refine ⟨[(0, _), (4, _), (5, _)], _, Ent.trans (Ent.eqc rfl (by first | (simp only [upd_same, updD_same, upd_ne, updD_ne, ne_eq, Nat.reduceEqDiff, not_false_eq_true, stg_t, stg_f, vAd_s, vCap_s, blk_p, List.cons_append, List.nil_append, b2n_t, b2n_f, ownV, slV, ptV] <;> rfl) | rfl)) (Ent.sub goSub), ?_⟩
    clear hf
    generalize vInt (ξ 4) = x61 at hR61 ⊢
    repeat (first | refine InB.norm ?_ | refine Then.norm ?_)
    repeat' (first | refine goH ?_ | refine goV ?_ | refine goB (fun b => ?_) | refine goI ?_ | (refine Cw.k_cond ?_; first | (refine Cw.cond_dec rfl (fun hc => ?_) (fun hc => ?_) <;> try (exfalso; omega)) | refine Cw.cond_bool rfl (fun hc => ?_) (fun hc => ?_)) | refine goR ?_ | refine goP ?_ | apply PSeq.cons | apply PSeq.yes rfl rfl rfl | exact goW | fail)
    exact Fin.ret (Ent.trans (Ent.settle_box (i := 2) (rows := _) (kk := 2) (by exact Perm.cons' goPk (Perm.cons' goPk (List.Perm.refl _))) rfl (by rw [List.length_set]; exact hrl.symm) rfl) (Ent.trans (Ent.setbox (s := 4) rfl goPk) (Ent.strm_only goPk (by omega)))) (Outs.sole rfl goOe) ⟨rfl, ⟨day, text, ⟨x.acc, x61⟩ :: y :: t⟩, rfl, ⟨by exact hsz, by have := hl; simp only [List.length_cons] at this ⊢; omega⟩⟩
  · exact Fin.ret (Ent.trans (Ent.settle_box (i := 2) (rows := _) (kk := 2) (by exact Perm.cons' goPk (Perm.cons' goPk (List.Perm.refl _))) rfl (by rw [List.length_set]; exact hrl.symm) rfl) (Ent.trans (Ent.setbox (s := 4) rfl goPk) (Ent.strm_only goPk (by omega)))) (Outs.sole rfl goOe) ⟨rfl, ⟨day, text, ⟨x.acc, x.c + 1⟩ :: y :: t⟩, rfl, ⟨by exact hsz, by have := hl; simp only [List.length_cons] at this ⊢; omega⟩⟩
end Lg
