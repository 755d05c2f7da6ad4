/- A part of the proof of a law of this seat: it adds no condition. By an AI agent. -/
import Derived.Test.YtaoclkglimibeaaGreatDoorLz2
section
set_option linter.all false
set_option maxRecDepth 100000
set_option maxHeartbeats 4000000
namespace Lg
open Go Go.Proofs

/-! ### a changed text -/
theorem enc_sz (p : Int) : (Utf8.encode p).size ≤ 4 := by
  unfold Utf8.encode
  dsimp only
  repeat' split
  all_goals first | exact (show 1 ≤ 4 by omega) | exact (show 2 ≤ 4 by omega) | exact (show 3 ≤ 4 by omega) | exact (show 4 ≤ 4 by omega)
theorem changed_gen (t w : ByteArray) (ht : t.size ≤ 1000000000) (hw : w.size ≤ 1000000) : Gen Tryz.prog 25 15 [.str t, .str w] 3 (fun r => ∃ s, r = .str s ∧ s.size ≤ t.size + w.size + 4) := by
  unfold Gen
  intro b xs N hN
  refine Spec.body Tryz.func15 rfl rfl (Tryz.ntmps15) rfl fun w0 own0 M => ?_
  by_cases h1 : t = ⟨#[]⟩
  · repeat' (first | refine goH ?_ | refine goV ?_ | refine goG ?_ | (refine Ops.k_guard ?_; first | (refine Ops.guard_dec rfl rfl (fun hc => ?_) (fun hc => ?_) <;> try (exfalso; omega)) | refine Ops.guard_split rfl rfl (fun hc => ?_) (fun hc => ?_)) | refine goI ?_ | (refine Cw.k_cond ?_; first | (refine Cw.cond_dec rfl (fun hc => ?_) (fun hc => ?_) <;> try (exfalso; omega)) | refine Cw.cond_bool rfl (fun hc => ?_) (fun hc => ?_)) | refine goR ?_ | refine goP ?_ | apply PSeq.cons | apply PSeq.yes rfl rfl rfl | exact goW | fail)
    all_goals first | (exfalso; contradiction) | (refine Fin.ret (Ent.strm_only goPk (by omega)) (Outs.sole rfl goOe) ⟨rfl, w, rfl, by omega⟩)
  by_cases h2 : w = ⟨#[]⟩
  · repeat' (first | refine goH ?_ | refine goV ?_ | refine goG ?_ | (refine Ops.k_guard ?_; first | (refine Ops.guard_dec rfl rfl (fun hc => ?_) (fun hc => ?_) <;> try (exfalso; omega)) | refine Ops.guard_split rfl rfl (fun hc => ?_) (fun hc => ?_)) | refine goI ?_ | (refine Cw.k_cond ?_; first | (refine Cw.cond_dec rfl (fun hc => ?_) (fun hc => ?_) <;> try (exfalso; omega)) | refine Cw.cond_bool rfl (fun hc => ?_) (fun hc => ?_)) | refine goR ?_ | refine goP ?_ | apply PSeq.cons | apply PSeq.yes rfl rfl rfl | exact goW | fail)
    all_goals first | (exfalso; contradiction) | (refine Fin.ret (Ent.strm_only goPk (by omega)) (Outs.sole rfl goOe) ⟨rfl, w, rfl, by omega⟩)
  have ht0 : 0 < t.size := Nat.pos_of_ne_zero fun h => h1 ((str_empty t).2 h)
  have hw0 : 0 < w.size := Nat.pos_of_ne_zero fun h => h2 ((str_empty w).2 h)
  have e4 : ∀ p, (Utf8.encode p).size ≤ 4 := enc_sz
  repeat' (first | refine goH ?_ | (refine Ops.k_index ?_; first | (refine Ops.indexS rfl rfl rfl (by omega) rfl ?_)) | refine goV ?_ | refine goG ?_ | (refine Ops.k_guard ?_; first | (refine Ops.guard_dec rfl rfl (fun hc => ?_) (fun hc => ?_) <;> try (exfalso; omega)) | refine Ops.guard_split rfl rfl (fun hc => ?_) (fun hc => ?_)) | refine goI ?_ | (refine Cw.k_cond ?_; first | (refine Cw.cond_dec rfl (fun hc => ?_) (fun hc => ?_) <;> try (exfalso; omega)) | refine Cw.cond_bool rfl (fun hc => ?_) (fun hc => ?_)) | (refine Ops.k_calla ?_; first | (refine Ops.k_callf 40 ?_; (refine Ops.callG (next_gen ((t.size : Nat) : Int) (by omega)) (Evs.cons rfl (Evs.cons rfl Evs.nil)) goPk (by omega) rfl ?_; rintro r ⟨v1, rfl, hv1⟩; unfold InRange at hv1)) | (refine Ops.k_callf 40 ?_; (refine Ops.callG (next_gen ((w.size : Nat) : Int) (by omega)) (Evs.cons rfl (Evs.cons rfl Evs.nil)) goPk (by omega) rfl ?_; rintro r ⟨v2, rfl, hv2⟩; unfold InRange at hv2)) | (refine Ops.k_callf 40 ?_; (refine Ops.callG (next_gen 3 (by omega)) (Evs.cons rfl (Evs.cons rfl Evs.nil)) goPk (by omega) rfl ?_; rintro r ⟨v3, rfl, hv3⟩; unfold InRange at hv3))) | fail)
  · have h4 := e4 (IntKind.i32.wrap (sby w v2.toNat))
    repeat' (first | refine goH ?_ | refine goV ?_ | refine goG ?_ | (refine Ops.k_guard ?_; first | (refine Ops.guard_dec rfl rfl (fun hc => ?_) (fun hc => ?_) <;> try (exfalso; omega)) | refine Ops.guard_split rfl rfl (fun hc => ?_) (fun hc => ?_)) | refine goI ?_ | (refine Cw.k_cond ?_; first | (refine Cw.cond_dec rfl (fun hc => ?_) (fun hc => ?_) <;> try (exfalso; omega)) | refine Cw.cond_bool rfl (fun hc => ?_) (fun hc => ?_)) | exact OpV.w (OpV.sliceS_l rfl rfl rfl (by omega)) | exact OpV.w (OpV.convI Tryz.underlying5 Tryz.underlying21 rfl) | exact OpV.w (OpV.convS Tryz.underlying21 Tryz.underlying9 rfl) | exact OpV.w (OpV.catB rfl rfl (by simp only [ByteArray.size_append, ByteArray.size_extract]; omega)) | refine goR ?_ | refine goP ?_ | apply PSeq.cons | apply PSeq.yes rfl rfl rfl | exact goW | fail)
    refine Fin.ret (Ent.strm_only goPk (by omega)) (Outs.sole rfl goOe) ⟨rfl, _, rfl, by simp only [ByteArray.size_append, ByteArray.size_extract]; omega⟩
  · have h4 := e4 (IntKind.i32.wrap (sby w v2.toNat))
    repeat' (first | refine goH ?_ | refine goV ?_ | refine goG ?_ | (refine Ops.k_guard ?_; first | (refine Ops.guard_dec rfl rfl (fun hc => ?_) (fun hc => ?_) <;> try (exfalso; omega)) | refine Ops.guard_split rfl rfl (fun hc => ?_) (fun hc => ?_)) | refine goI ?_ | (refine Cw.k_cond ?_; first | (refine Cw.cond_dec rfl (fun hc => ?_) (fun hc => ?_) <;> try (exfalso; omega)) | refine Cw.cond_bool rfl (fun hc => ?_) (fun hc => ?_)) | exact OpV.w (OpV.sliceS_l rfl rfl rfl (by omega)) | exact OpV.w (OpV.convI Tryz.underlying5 Tryz.underlying21 rfl) | exact OpV.w (OpV.convS Tryz.underlying21 Tryz.underlying9 rfl) | exact OpV.w (OpV.catB rfl rfl (by simp only [ByteArray.size_append, ByteArray.size_extract]; omega)) | refine goR ?_ | refine goP ?_ | apply PSeq.cons | apply PSeq.yes rfl rfl rfl | exact goW | fail)
    refine Fin.ret (Ent.strm_only goPk (by omega)) (Outs.sole rfl goOe) ⟨rfl, _, rfl, by simp only [ByteArray.size_append, ByteArray.size_extract]; omega⟩
  · repeat' (first | refine goH ?_ | refine goV ?_ | refine goG ?_ | (refine Ops.k_guard ?_; first | (refine Ops.guard_dec rfl rfl (fun hc => ?_) (fun hc => ?_) <;> try (exfalso; omega)) | refine Ops.guard_split rfl rfl (fun hc => ?_) (fun hc => ?_)) | refine goI ?_ | (refine Cw.k_cond ?_; first | (refine Cw.cond_dec rfl (fun hc => ?_) (fun hc => ?_) <;> try (exfalso; omega)) | refine Cw.cond_bool rfl (fun hc => ?_) (fun hc => ?_)) | exact OpV.w (OpV.sliceS_l rfl rfl rfl (by omega)) | exact OpV.w (OpV.catB rfl rfl (by simp only [ByteArray.size_append, ByteArray.size_extract]; omega)) | refine goR ?_ | refine goP ?_ | apply PSeq.cons | apply PSeq.yes rfl rfl rfl | exact goW | fail)
    refine Fin.ret (Ent.strm_only goPk (by omega)) (Outs.sole rfl goOe) ⟨rfl, _, rfl, by simp only [ByteArray.size_append, ByteArray.size_extract]; omega⟩
end Lg
end
section
set_option linter.all false
set_option maxRecDepth 100000
set_option maxHeartbeats 8000000
namespace Lg
open Go Go.Proofs

/-! ### books out of the stream -/
theorem rightEntry_gen (day : Int) : Gen Tryz.prog 25 43 [.int day] 30 (fun r => ∃ e : En, r = .agg e.row ∧ EnB e) := by
  unfold Gen
  intro bs xs N hN
  refine Spec.body Tryz.func43 rfl rfl (Tryz.ntmps43) rfl fun w0 own0 M => ?_
  repeat' (first | refine goH ?_ | refine goV ?_ | refine goB (fun b => ?_) | refine goC (fun ad cap => ?_) | refine goI ?_ | (refine Cw.k_cond ?_; first | (refine Cw.cond_dec rfl (fun hc => ?_) (fun hc => ?_) <;> try (exfalso; omega)) | refine Cw.cond_bool rfl (fun hc => ?_) (fun hc => ?_)) | (refine Ops.k_calla ?_; first | (refine Ops.k_callf 16 ?_; (refine Ops.callG (one_gen (by repeat' (first | exact IsStrs.nil | apply IsStrs.cons)) (by simp)) (Evs.cons rfl (Evs.cons rfl Evs.nil)) goPk (by omega) rfl ?_; rintro r ⟨text, rfl, ht⟩)) | (refine Ops.k_callf 41 ?_; (refine Ops.callG (pick_gen (by repeat' (first | exact IsInts.nil | apply IsInts.cons)) (by simp)) (Evs.cons rfl (Evs.cons rfl Evs.nil)) goPk (by omega) rfl ?_; rintro r ⟨u, rfl, hu⟩; simp only [List.mem_cons, List.mem_nil_iff, or_false] at hu)) | (refine Ops.k_callf 70 ?_; (refine Ops.callG (order_gen 4 (by omega)) (Evs.cons rfl (Evs.cons rfl Evs.nil)) goPk (by omega) rfl ?_; rintro r ⟨o, rfl, hol, hob⟩))) | fail)
  rename_i b4
  obtain ⟨o0, o1, o2, o3, rfl⟩ : ∃ o0 o1 o2 o3, o = [o0, o1, o2, o3] := by
    match o, hol with
    | [a, b, c, d], _ => exact ⟨a, b, c, d, rfl⟩
  have b0 := hob o0 (by simp)
  have b1 := hob o1 (by simp)
  have b2 := hob o2 (by simp)
  have htz : text.size ≤ 100 := by
    simp only [List.mem_cons, List.mem_nil_iff, or_false] at ht
    rcases ht with rfl | rfl | rfl <;> decide
  clear hob hol ht
  obtain ⟨A, hA, hAl⟩ : ∃ A : List ByteArray, A = [⟨#[99, 97, 115, 104]⟩, ⟨#[108, 111, 115, 115]⟩, ⟨#[115, 97, 108, 101, 115]⟩, ⟨#[98, 97, 110, 107]⟩] ∧ A.length = 4 := ⟨_, rfl, rfl⟩
  have hAr : ([[Tr.raw (Value.string { data := #[99, 97, 115, 104] })], [Tr.raw (Value.string { data := #[108, 111, 115, 115] })], [Tr.raw (Value.string { data := #[115, 97, 108, 101, 115] })], [Tr.raw (Value.string { data := #[98, 97, 110, 107] })]] : List (List Tr)) = strRows A := by rw [hA]; rfl
  rw [hAr]
  clear hAr hA
  obtain ⟨a0, h0⟩ := at_lt (l := A) (k := o0.toNat) (by omega)
  obtain ⟨a1, h1⟩ := at_lt (l := A) (k := o1.toNat) (by omega)
  obtain ⟨a2, h2⟩ := at_lt (l := A) (k := o2.toNat) (by omega)
  have r0 : (strRows A)[o0.toNat]? = some [.str a0] := strRows_at h0
  have r1 : (strRows A)[o1.toNat]? = some [.str a1] := strRows_at h1
  have r2 : (strRows A)[o2.toNat]? = some [.str a2] := strRows_at h2
  have i0 : (intRows [o0, o1, o2, o3])[(0 : Int).toNat]? = some [.int o0] := by with_unfolding_all rfl
  have i1 : (intRows [o0, o1, o2, o3])[(1 : Int).toNat]? = some [.int o1] := by with_unfolding_all rfl
  have i2 : (intRows [o0, o1, o2, o3])[(2 : Int).toNat]? = some [.int o2] := by with_unfolding_all rfl
  clear h0 h1 h2
  first | refine Cw.region_YP (fun ξ S => strmC bs xs (N + 1 + 1 + 14) :: Chunk.box b 52 [.int day, .str text, stg (S 19) (Tr.raw (.slice none 0 0)) (slV (ξ 17) 2)] :: Chunk.box b4 52 (List.map Tr.raw [.int .i64 0, .string ⟨#[]⟩, .slice none 0 0]) :: (stg (S 17) [] [ownV (ξ 17) 2 57 [[.str a0, .int u], [.str a1, .int (-u)]]] ++ [])) rfl (by decide +kernel) rfl ((fun (ξ : Nat → Value) (S : Nat → Bool) => strmC bs xs (N + 1 + 1 + 14) :: Chunk.box b 52 [.int day, .str text, stg (S 19) (Tr.raw (.slice none 0 0)) (slV (ξ 17) 2)] :: Chunk.box b4 52 (List.map Tr.raw [.int .i64 0, .string ⟨#[]⟩, .slice none 0 0]) :: (stg (S 17) [] [ownV (ξ 17) 2 57 [[.str a0, .int u], [.str a1, .int (-u)]]] ++ [])) (fun _ => undef) (fun _ => false)) (by simp only [upd_same, updD_same, upd_ne, updD_ne, ne_eq, Nat.reduceEqDiff, not_false_eq_true, stg_t, stg_f, vAd_s, vCap_s, blk_p, List.cons_append, List.nil_append, b2n_t, b2n_f]; exact goXm) (fun _ => rfl) ?_ | fail
  apply YSeq.w (by intro _ _ _; rfl)
  · intro ξ S h1 h2 h3 h4
    have hN0_4 := closed_false h1 h3 (k := 4) rfl (by decide)
    have hN0_5 := closed_false hN0_4 h3 (k := 5) rfl (by decide)
    have hN0_7 := closed_false hN0_5 h3 (k := 7) rfl (by decide)
    have hN0_17 := closed_false hN0_7 h3 (k := 17) rfl (by decide)
    have hN0_19 := closed_false h1 h3 (k := 19) rfl (by decide)
    try simp only [upd_same, updD_same, upd_ne, updD_ne, ne_eq, Nat.reduceEqDiff, not_false_eq_true, stg_t, stg_f, vAd_s, vCap_s, blk_p, List.cons_append, List.nil_append, b2n_t, b2n_f, hN0_17, hN0_19]
    exact goW
  · intro ξ v; rfl
  · intro ξ k v S h3 hn hk
    first
    | rfl
  apply YSeq.w (by intro _ _ _; rfl)
  · intro ξ S h1 h2 h3 h4
    have hN1_2 := closed_false h1 h3 (k := 2) rfl (by decide)
    have hN1_3 := closed_false hN1_2 h3 (k := 3) rfl (by decide)
    have hN1_4 := closed_false hN1_3 h3 (k := 4) rfl (by decide)
    have hN1_5 := closed_false hN1_4 h3 (k := 5) rfl (by decide)
    have hN1_7 := closed_false hN1_5 h3 (k := 7) rfl (by decide)
    have hN1_17 := closed_false hN1_7 h3 (k := 17) rfl (by decide)
    have hN1_19 := closed_false h1 h3 (k := 19) rfl (by decide)
    try simp only [upd_same, updD_same, upd_ne, updD_ne, ne_eq, Nat.reduceEqDiff, not_false_eq_true, stg_t, stg_f, vAd_s, vCap_s, blk_p, List.cons_append, List.nil_append, b2n_t, b2n_f, hN1_17, hN1_19]
    exact goW
  · intro ξ v; rfl
  · intro ξ k v S h3 hn hk
    first
    | rfl
  apply YSeq.w (by intro _ _ _; rfl)
  · intro ξ S h1 h2 h3 h4
    have hN2_3 := closed_false h1 h3 (k := 3) rfl (by decide)
    have hN2_4 := closed_false hN2_3 h3 (k := 4) rfl (by decide)
    have hN2_5 := closed_false hN2_4 h3 (k := 5) rfl (by decide)
    have hN2_7 := closed_false hN2_5 h3 (k := 7) rfl (by decide)
    have hN2_17 := closed_false hN2_7 h3 (k := 17) rfl (by decide)
    have hN2_19 := closed_false h1 h3 (k := 19) rfl (by decide)
    try simp only [upd_same, updD_same, upd_ne, updD_ne, ne_eq, Nat.reduceEqDiff, not_false_eq_true, stg_t, stg_f, vAd_s, vCap_s, blk_p, List.cons_append, List.nil_append, b2n_t, b2n_f, hN2_17, hN2_19]
    exact goW
  · intro ξ v; rfl
  · intro ξ k v S h3 hn hk
    first
    | rfl
  apply YSeq.w (by intro _ _ _; rfl)
  · intro ξ S h1 h2 h3 h4
    have hN3_4 := closed_false h1 h3 (k := 4) rfl (by decide)
    have hN3_5 := closed_false hN3_4 h3 (k := 5) rfl (by decide)
    have hN3_7 := closed_false hN3_5 h3 (k := 7) rfl (by decide)
    have hN3_17 := closed_false hN3_7 h3 (k := 17) rfl (by decide)
    have hN3_19 := closed_false h1 h3 (k := 19) rfl (by decide)
    try simp only [upd_same, updD_same, upd_ne, updD_ne, ne_eq, Nat.reduceEqDiff, not_false_eq_true, stg_t, stg_f, vAd_s, vCap_s, blk_p, List.cons_append, List.nil_append, b2n_t, b2n_f, hN3_17, hN3_19]
    exact goW
  · intro ξ v; rfl
  · intro ξ k v S h3 hn hk
    first
    | rfl
  apply YSeq.w (by intro _ _ _; rfl)
  · intro ξ S h1 h2 h3 h4
    have hN4_5 := closed_false h1 h3 (k := 5) rfl (by decide)
    have hN4_7 := closed_false hN4_5 h3 (k := 7) rfl (by decide)
    have hN4_17 := closed_false hN4_7 h3 (k := 17) rfl (by decide)
    have hN4_19 := closed_false h1 h3 (k := 19) rfl (by decide)
    try simp only [upd_same, updD_same, upd_ne, updD_ne, ne_eq, Nat.reduceEqDiff, not_false_eq_true, stg_t, stg_f, vAd_s, vCap_s, blk_p, List.cons_append, List.nil_append, b2n_t, b2n_f, hN4_17, hN4_19]
    exact goW
  · intro ξ v; rfl
  · intro ξ k v S h3 hn hk
    first
    | rfl
  apply YSeq.w (by intro _ _ _; rfl)
  · intro ξ S h1 h2 h3 h4
    have hN5_7 := closed_false h1 h3 (k := 7) rfl (by decide)
    have hN5_17 := closed_false hN5_7 h3 (k := 17) rfl (by decide)
    have hN5_19 := closed_false h1 h3 (k := 19) rfl (by decide)
    try simp only [upd_same, updD_same, upd_ne, updD_ne, ne_eq, Nat.reduceEqDiff, not_false_eq_true, stg_t, stg_f, vAd_s, vCap_s, blk_p, List.cons_append, List.nil_append, b2n_t, b2n_f, hN5_17, hN5_19]
    exact goW
  · intro ξ v; rfl
  · intro ξ k v S h3 hn hk
    first
    | rfl
  apply YSeq.w (by intro _ _ _; rfl)
  · intro ξ S h1 h2 h3 h4
    have hN6_7 := closed_false h1 h3 (k := 7) rfl (by decide)
    have hN6_17 := closed_false hN6_7 h3 (k := 17) rfl (by decide)
    have hN6_19 := closed_false h1 h3 (k := 19) rfl (by decide)
    try simp only [upd_same, updD_same, upd_ne, updD_ne, ne_eq, Nat.reduceEqDiff, not_false_eq_true, stg_t, stg_f, vAd_s, vCap_s, blk_p, List.cons_append, List.nil_append, b2n_t, b2n_f, hN6_17, hN6_19]
    exact goW
  · intro ξ v; rfl
  · intro ξ k v S h3 hn hk
    first
    | rfl
  apply YSeq.w (by intro _ _ _; rfl)
  · intro ξ S h1 h2 h3 h4
    have hN7_17 := closed_false h1 h3 (k := 17) rfl (by decide)
    have hN7_19 := closed_false h1 h3 (k := 19) rfl (by decide)
    try simp only [upd_same, updD_same, upd_ne, updD_ne, ne_eq, Nat.reduceEqDiff, not_false_eq_true, stg_t, stg_f, vAd_s, vCap_s, blk_p, List.cons_append, List.nil_append, b2n_t, b2n_f, hN7_17, hN7_19]
    exact goW
  · intro ξ v; rfl
  · intro ξ k v S h3 hn hk
    first
    | rfl
  apply YSeq.w (by intro _ _ _; rfl)
  · intro ξ S h1 h2 h3 h4
    have hN8_12 := closed_false h1 h3 (k := 12) rfl (by decide)
    have hN8_13 := closed_false hN8_12 h3 (k := 13) rfl (by decide)
    have hN8_16 := closed_false hN8_13 h3 (k := 16) rfl (by decide)
    have hN8_17 := closed_false hN8_16 h3 (k := 17) rfl (by decide)
    have hN8_19 := closed_false h1 h3 (k := 19) rfl (by decide)
    try simp only [upd_same, updD_same, upd_ne, updD_ne, ne_eq, Nat.reduceEqDiff, not_false_eq_true, stg_t, stg_f, vAd_s, vCap_s, blk_p, List.cons_append, List.nil_append, b2n_t, b2n_f, hN8_17, hN8_19]
    exact goW
  · intro ξ v; rfl
  · intro ξ k v S h3 hn hk
    first
    | rfl
  apply YSeq.w (by intro _ _ _; rfl)
  · intro ξ S h1 h2 h3 h4
    have hN9_10 := closed_false h1 h3 (k := 10) rfl (by decide)
    have hN9_11 := closed_false hN9_10 h3 (k := 11) rfl (by decide)
    have hN9_12 := closed_false hN9_11 h3 (k := 12) rfl (by decide)
    have hN9_13 := closed_false hN9_12 h3 (k := 13) rfl (by decide)
    have hN9_16 := closed_false hN9_13 h3 (k := 16) rfl (by decide)
    have hN9_17 := closed_false hN9_16 h3 (k := 17) rfl (by decide)
    have hN9_19 := closed_false h1 h3 (k := 19) rfl (by decide)
    try simp only [upd_same, updD_same, upd_ne, updD_ne, ne_eq, Nat.reduceEqDiff, not_false_eq_true, stg_t, stg_f, vAd_s, vCap_s, blk_p, List.cons_append, List.nil_append, b2n_t, b2n_f, hN9_17, hN9_19]
    exact goW
  · intro ξ v; rfl
  · intro ξ k v S h3 hn hk
    first
    | rfl
  apply YSeq.w (by intro _ _ _; rfl)
  · intro ξ S h1 h2 h3 h4
    have hN10_11 := closed_false h1 h3 (k := 11) rfl (by decide)
    have hN10_12 := closed_false hN10_11 h3 (k := 12) rfl (by decide)
    have hN10_13 := closed_false hN10_12 h3 (k := 13) rfl (by decide)
    have hN10_16 := closed_false hN10_13 h3 (k := 16) rfl (by decide)
    have hN10_17 := closed_false hN10_16 h3 (k := 17) rfl (by decide)
    have hN10_19 := closed_false h1 h3 (k := 19) rfl (by decide)
    try simp only [upd_same, updD_same, upd_ne, updD_ne, ne_eq, Nat.reduceEqDiff, not_false_eq_true, stg_t, stg_f, vAd_s, vCap_s, blk_p, List.cons_append, List.nil_append, b2n_t, b2n_f, hN10_17, hN10_19]
    exact goW
  · intro ξ v; rfl
  · intro ξ k v S h3 hn hk
    first
    | rfl
  apply YSeq.w (by intro _ _ _; rfl)
  · intro ξ S h1 h2 h3 h4
    have hN11_12 := closed_false h1 h3 (k := 12) rfl (by decide)
    have hN11_13 := closed_false hN11_12 h3 (k := 13) rfl (by decide)
    have hN11_16 := closed_false hN11_13 h3 (k := 16) rfl (by decide)
    have hN11_17 := closed_false hN11_16 h3 (k := 17) rfl (by decide)
    have hN11_19 := closed_false h1 h3 (k := 19) rfl (by decide)
    try simp only [upd_same, updD_same, upd_ne, updD_ne, ne_eq, Nat.reduceEqDiff, not_false_eq_true, stg_t, stg_f, vAd_s, vCap_s, blk_p, List.cons_append, List.nil_append, b2n_t, b2n_f, hN11_17, hN11_19]
    exact goW
  · intro ξ v; rfl
  · intro ξ k v S h3 hn hk
    first
    | rfl
  apply YSeq.w (by intro _ _ _; rfl)
  · intro ξ S h1 h2 h3 h4
    have hN12_13 := closed_false h1 h3 (k := 13) rfl (by decide)
    have hN12_16 := closed_false hN12_13 h3 (k := 16) rfl (by decide)
    have hN12_17 := closed_false hN12_16 h3 (k := 17) rfl (by decide)
    have hN12_19 := closed_false h1 h3 (k := 19) rfl (by decide)
    try simp only [upd_same, updD_same, upd_ne, updD_ne, ne_eq, Nat.reduceEqDiff, not_false_eq_true, stg_t, stg_f, vAd_s, vCap_s, blk_p, List.cons_append, List.nil_append, b2n_t, b2n_f, hN12_17, hN12_19]
    exact goW
  · intro ξ v; rfl
  · intro ξ k v S h3 hn hk
    first
    | rfl
  apply YSeq.w (by intro _ _ _; rfl)
  · intro ξ S h1 h2 h3 h4
    have hN13_16 := closed_false h1 h3 (k := 16) rfl (by decide)
    have hN13_17 := closed_false hN13_16 h3 (k := 17) rfl (by decide)
    have hN13_19 := closed_false h1 h3 (k := 19) rfl (by decide)
    try simp only [upd_same, updD_same, upd_ne, updD_ne, ne_eq, Nat.reduceEqDiff, not_false_eq_true, stg_t, stg_f, vAd_s, vCap_s, blk_p, List.cons_append, List.nil_append, b2n_t, b2n_f, hN13_17, hN13_19]
    exact goW
  · intro ξ v; rfl
  · intro ξ k v S h3 hn hk
    first
    | rfl
  apply YSeq.w (by intro _ _ _; rfl)
  · intro ξ S h1 h2 h3 h4
    have hN14_15 := closed_false h1 h3 (k := 15) rfl (by decide)
    have hN14_16 := closed_false hN14_15 h3 (k := 16) rfl (by decide)
    have hN14_17 := closed_false hN14_16 h3 (k := 17) rfl (by decide)
    have hN14_19 := closed_false h1 h3 (k := 19) rfl (by decide)
    try simp only [upd_same, updD_same, upd_ne, updD_ne, ne_eq, Nat.reduceEqDiff, not_false_eq_true, stg_t, stg_f, vAd_s, vCap_s, blk_p, List.cons_append, List.nil_append, b2n_t, b2n_f, hN14_17, hN14_19]
    exact goW
  · intro ξ v; rfl
  · intro ξ k v S h3 hn hk
    first
    | rfl
  apply YSeq.w (by intro _ _ _; rfl)
  · intro ξ S h1 h2 h3 h4
    have hN15_16 := closed_false h1 h3 (k := 16) rfl (by decide)
    have hN15_17 := closed_false hN15_16 h3 (k := 17) rfl (by decide)
    have hN15_19 := closed_false h1 h3 (k := 19) rfl (by decide)
    try simp only [upd_same, updD_same, upd_ne, updD_ne, ne_eq, Nat.reduceEqDiff, not_false_eq_true, stg_t, stg_f, vAd_s, vCap_s, blk_p, List.cons_append, List.nil_append, b2n_t, b2n_f, hN15_17, hN15_19]
    exact goW
  · intro ξ v; rfl
  · intro ξ k v S h3 hn hk
    first
    | rfl
  apply YSeq.w (by intro _ _ _; rfl)
  · intro ξ S h1 h2 h3 h4
    have hN16_17 := closed_false h1 h3 (k := 17) rfl (by decide)
    have hN16_19 := closed_false h1 h3 (k := 19) rfl (by decide)
    try simp only [upd_same, updD_same, upd_ne, updD_ne, ne_eq, Nat.reduceEqDiff, not_false_eq_true, stg_t, stg_f, vAd_s, vCap_s, blk_p, List.cons_append, List.nil_append, b2n_t, b2n_f, hN16_17, hN16_19]
    exact goW
  · intro ξ v; rfl
  · intro ξ k v S h3 hn hk
    first
    | rfl
  apply YSeq.lit
  · intro ξ S h1 h2 h3 h4
    have hN17_19 := closed_false h1 h3 (k := 19) rfl (by decide)
    refine ⟨_, _, (by first | exact (by exact Parts.cons rfl rfl rfl (by exact Parts.nil)) | exact (by exact Parts.cons rfl rfl rfl (by exact Parts.cons rfl rfl rfl (by exact Parts.nil))) | exact (by exact Parts.cons rfl rfl rfl (by exact Parts.cons rfl rfl rfl (by exact Parts.cons rfl rfl rfl (by exact Parts.nil)))) | exact (by exact Parts.cons rfl rfl rfl (by exact Parts.cons rfl rfl rfl (by exact Parts.cons rfl rfl rfl (by exact Parts.cons rfl rfl rfl (by exact Parts.nil))))) | exact (by exact Parts.cons rfl rfl rfl (by exact Parts.cons rfl rfl rfl (by exact Parts.cons rfl rfl rfl (by exact Parts.cons rfl rfl rfl (by exact Parts.cons rfl rfl rfl (by exact Parts.nil))))))), goNt, rfl, fun ad cap => ?_⟩
    simp only [upd_same, updD_same, upd_ne, updD_ne, ne_eq, Nat.reduceEqDiff, not_false_eq_true, stg_t, stg_f, vAd_s, vCap_s, blk_p, List.cons_append, List.nil_append, b2n_t, b2n_f, h1, hN17_19]
    exact goXm
  apply YSeq.w (by intro _ _ _; rfl)
  · intro ξ S h1 h2 h3 h4
    have hY18_17 : S 17 = true := h2 17 (by decide)
    have hN18_19 := closed_false h1 h3 (k := 19) rfl (by decide)
    try simp only [upd_same, updD_same, upd_ne, updD_ne, ne_eq, Nat.reduceEqDiff, not_false_eq_true, stg_t, stg_f, vAd_s, vCap_s, blk_p, List.cons_append, List.nil_append, b2n_t, b2n_f, hY18_17, hN18_19]
    exact goW
  · intro ξ v; rfl
  · intro ξ k v S h3 hn hk
    first
    | rfl
    | skip
      have hY18_17 : S 17 = true := h3 18 _ rfl hn 17 (by decide)
      simp only [upd_S hY18_17 hk]
  apply YSeq.store
  · intro ξ S h1 h2 h3 h4
    have hY19_17 : S 17 = true := h2 17 (by decide)
    simp only [upd_same, updD_same, upd_ne, updD_ne, ne_eq, Nat.reduceEqDiff, not_false_eq_true, stg_t, stg_f, vAd_s, vCap_s, blk_p, List.cons_append, List.nil_append, b2n_t, b2n_f, hY19_17, h1]
    refine ⟨_, _, _, _, _, _, _, rfl, rfl, inferInstance, goXp, rfl, Nat.le_of_ble_eq_true rfl, ?_⟩
    exact goXm
  refine YSeq.nil fun ξ hf => ?_
  refine ⟨[(0, _), (4, _), (5, _), (6, _), (7, _), (8, _)], _, Ent.trans (Ent.eqc rfl (by first | (simp only [upd_same, updD_same, upd_ne, updD_ne, ne_eq, Nat.reduceEqDiff, not_false_eq_true, stg_t, stg_f, vAd_s, vCap_s, blk_p, List.cons_append, List.nil_append, b2n_t, b2n_f, ownV, slV, ptV] <;> rfl) | rfl)) (Ent.sub goSub), ?_⟩
  clear hf
  generalize vAd (ξ 17) = ad37
  generalize vCap (ξ 17) = cap37
  repeat (first | refine InB.norm ?_ | refine Then.norm ?_)
  repeat' (first | refine goH ?_ | refine goV ?_ | refine goB (fun b => ?_) | refine goC (fun ad cap => ?_) | refine goI ?_ | (refine Cw.k_cond ?_; first | (refine Cw.cond_dec rfl (fun hc => ?_) (fun hc => ?_) <;> try (exfalso; omega)) | refine Cw.cond_bool rfl (fun hc => ?_) (fun hc => ?_)) | (refine Ops.k_calla ?_; first | (refine Ops.k_callf 14 ?_; (refine Ops.callG (flip_gen _ (by omega)) (Evs.cons rfl (Evs.cons rfl Evs.nil)) goPk (by omega) rfl ?_; rintro r ⟨v1, rfl⟩))) | fail)
  · rw [show ([[Tr.str a0, Tr.int u], [Tr.str a1, Tr.int (-u)]] : List (List Tr)).set (Int.toNat 0) ([Tr.str a0, Tr.int u].set (0 + 1) (Tr.int (u + 7))) = [[Tr.str a0, Tr.int (u + 7)], [Tr.str a1, Tr.int (-u)]] from rfl]
    first | refine Cw.region_YP (fun ξ S => strmC bs xs (N + 1 + 1 + 14 + 1) :: Chunk.box b 52 [.int day, .str text, stg (S 12) (Tr.raw (.slice ad37 2 cap37)) (slV (ξ 10) 3)] :: Chunk.box b4 52 (List.map Tr.raw [.int .i64 0, .string ⟨#[]⟩, .slice none 0 0]) :: stg (S 10) (Chunk.own ad37 cap37 2 57 [[.str a0, .int (u + 7)], [.str a1, .int (-u)]]) (ownV (ξ 10) 2 57 ([[.str a0, .int (u + 7)], [.str a1, .int (-u)]] ++ [[.str a2, .int (-7)]])) :: []) rfl (by decide +kernel) rfl ((fun (ξ : Nat → Value) (S : Nat → Bool) => strmC bs xs (N + 1 + 1 + 14 + 1) :: Chunk.box b 52 [.int day, .str text, stg (S 12) (Tr.raw (.slice ad37 2 cap37)) (slV (ξ 10) 3)] :: Chunk.box b4 52 (List.map Tr.raw [.int .i64 0, .string ⟨#[]⟩, .slice none 0 0]) :: stg (S 10) (Chunk.own ad37 cap37 2 57 [[.str a0, .int (u + 7)], [.str a1, .int (-u)]]) (ownV (ξ 10) 2 57 ([[.str a0, .int (u + 7)], [.str a1, .int (-u)]] ++ [[.str a2, .int (-7)]])) :: []) (fun _ => undef) (fun _ => false)) (by simp only [upd_same, updD_same, upd_ne, updD_ne, ne_eq, Nat.reduceEqDiff, not_false_eq_true, stg_t, stg_f, vAd_s, vCap_s, blk_p, List.cons_append, List.nil_append, b2n_t, b2n_f]; exact goXm) (fun _ => rfl) ?_ | fail
    apply YSeq.w (by intro _ _ _; rfl)
    · intro ξ S h1 h2 h3 h4
      have hN0_1 := closed_false h1 h3 (k := 1) rfl (by decide)
      have hN0_10 := closed_false hN0_1 h3 (k := 10) rfl (by decide)
      have hN0_12 := closed_false h1 h3 (k := 12) rfl (by decide)
      try simp only [upd_same, updD_same, upd_ne, updD_ne, ne_eq, Nat.reduceEqDiff, not_false_eq_true, stg_t, stg_f, vAd_s, vCap_s, blk_p, List.cons_append, List.nil_append, b2n_t, b2n_f, hN0_10, hN0_12]
      exact goW
    · intro ξ v; rfl
    · intro ξ k v S h3 hn hk
      first
      | rfl
    apply YSeq.w (by intro _ _ _; rfl)
    · intro ξ S h1 h2 h3 h4
      have hN1_10 := closed_false h1 h3 (k := 10) rfl (by decide)
      have hN1_12 := closed_false h1 h3 (k := 12) rfl (by decide)
      try simp only [upd_same, updD_same, upd_ne, updD_ne, ne_eq, Nat.reduceEqDiff, not_false_eq_true, stg_t, stg_f, vAd_s, vCap_s, blk_p, List.cons_append, List.nil_append, b2n_t, b2n_f, hN1_10, hN1_12]
      exact goW
    · intro ξ v; rfl
    · intro ξ k v S h3 hn hk
      first
      | rfl
    apply YSeq.w (by intro _ _ _; rfl)
    · intro ξ S h1 h2 h3 h4
      have hN2_6 := closed_false h1 h3 (k := 6) rfl (by decide)
      have hN2_7 := closed_false hN2_6 h3 (k := 7) rfl (by decide)
      have hN2_8 := closed_false hN2_7 h3 (k := 8) rfl (by decide)
      have hN2_9 := closed_false hN2_8 h3 (k := 9) rfl (by decide)
      have hN2_10 := closed_false hN2_9 h3 (k := 10) rfl (by decide)
      have hN2_12 := closed_false h1 h3 (k := 12) rfl (by decide)
      try simp only [upd_same, updD_same, upd_ne, updD_ne, ne_eq, Nat.reduceEqDiff, not_false_eq_true, stg_t, stg_f, vAd_s, vCap_s, blk_p, List.cons_append, List.nil_append, b2n_t, b2n_f, hN2_10, hN2_12]
      exact goW
    · intro ξ v; rfl
    · intro ξ k v S h3 hn hk
      first
      | rfl
    apply YSeq.w (by intro _ _ _; rfl)
    · intro ξ S h1 h2 h3 h4
      have hN3_4 := closed_false h1 h3 (k := 4) rfl (by decide)
      have hN3_5 := closed_false hN3_4 h3 (k := 5) rfl (by decide)
      have hN3_6 := closed_false hN3_5 h3 (k := 6) rfl (by decide)
      have hN3_7 := closed_false hN3_6 h3 (k := 7) rfl (by decide)
      have hN3_8 := closed_false hN3_7 h3 (k := 8) rfl (by decide)
      have hN3_9 := closed_false hN3_8 h3 (k := 9) rfl (by decide)
      have hN3_10 := closed_false hN3_9 h3 (k := 10) rfl (by decide)
      have hN3_12 := closed_false h1 h3 (k := 12) rfl (by decide)
      try simp only [upd_same, updD_same, upd_ne, updD_ne, ne_eq, Nat.reduceEqDiff, not_false_eq_true, stg_t, stg_f, vAd_s, vCap_s, blk_p, List.cons_append, List.nil_append, b2n_t, b2n_f, hN3_10, hN3_12]
      exact goW
    · intro ξ v; rfl
    · intro ξ k v S h3 hn hk
      first
      | rfl
    apply YSeq.w (by intro _ _ _; rfl)
    · intro ξ S h1 h2 h3 h4
      have hN4_5 := closed_false h1 h3 (k := 5) rfl (by decide)
      have hN4_6 := closed_false hN4_5 h3 (k := 6) rfl (by decide)
      have hN4_7 := closed_false hN4_6 h3 (k := 7) rfl (by decide)
      have hN4_8 := closed_false hN4_7 h3 (k := 8) rfl (by decide)
      have hN4_9 := closed_false hN4_8 h3 (k := 9) rfl (by decide)
      have hN4_10 := closed_false hN4_9 h3 (k := 10) rfl (by decide)
      have hN4_12 := closed_false h1 h3 (k := 12) rfl (by decide)
      try simp only [upd_same, updD_same, upd_ne, updD_ne, ne_eq, Nat.reduceEqDiff, not_false_eq_true, stg_t, stg_f, vAd_s, vCap_s, blk_p, List.cons_append, List.nil_append, b2n_t, b2n_f, hN4_10, hN4_12]
      exact goW
    · intro ξ v; rfl
    · intro ξ k v S h3 hn hk
      first
      | rfl
    apply YSeq.w (by intro _ _ _; rfl)
    · intro ξ S h1 h2 h3 h4
      have hN5_6 := closed_false h1 h3 (k := 6) rfl (by decide)
      have hN5_7 := closed_false hN5_6 h3 (k := 7) rfl (by decide)
      have hN5_8 := closed_false hN5_7 h3 (k := 8) rfl (by decide)
      have hN5_9 := closed_false hN5_8 h3 (k := 9) rfl (by decide)
      have hN5_10 := closed_false hN5_9 h3 (k := 10) rfl (by decide)
      have hN5_12 := closed_false h1 h3 (k := 12) rfl (by decide)
      try simp only [upd_same, updD_same, upd_ne, updD_ne, ne_eq, Nat.reduceEqDiff, not_false_eq_true, stg_t, stg_f, vAd_s, vCap_s, blk_p, List.cons_append, List.nil_append, b2n_t, b2n_f, hN5_10, hN5_12]
      exact goW
    · intro ξ v; rfl
    · intro ξ k v S h3 hn hk
      first
      | rfl
    apply YSeq.w (by intro _ _ _; rfl)
    · intro ξ S h1 h2 h3 h4
      have hN6_7 := closed_false h1 h3 (k := 7) rfl (by decide)
      have hN6_8 := closed_false hN6_7 h3 (k := 8) rfl (by decide)
      have hN6_9 := closed_false hN6_8 h3 (k := 9) rfl (by decide)
      have hN6_10 := closed_false hN6_9 h3 (k := 10) rfl (by decide)
      have hN6_12 := closed_false h1 h3 (k := 12) rfl (by decide)
      try simp only [upd_same, updD_same, upd_ne, updD_ne, ne_eq, Nat.reduceEqDiff, not_false_eq_true, stg_t, stg_f, vAd_s, vCap_s, blk_p, List.cons_append, List.nil_append, b2n_t, b2n_f, hN6_10, hN6_12]
      exact goW
    · intro ξ v; rfl
    · intro ξ k v S h3 hn hk
      first
      | rfl
    apply YSeq.w (by intro _ _ _; rfl)
    · intro ξ S h1 h2 h3 h4
      have hN7_8 := closed_false h1 h3 (k := 8) rfl (by decide)
      have hN7_9 := closed_false hN7_8 h3 (k := 9) rfl (by decide)
      have hN7_10 := closed_false hN7_9 h3 (k := 10) rfl (by decide)
      have hN7_12 := closed_false h1 h3 (k := 12) rfl (by decide)
      try simp only [upd_same, updD_same, upd_ne, updD_ne, ne_eq, Nat.reduceEqDiff, not_false_eq_true, stg_t, stg_f, vAd_s, vCap_s, blk_p, List.cons_append, List.nil_append, b2n_t, b2n_f, hN7_10, hN7_12]
      exact goW
    · intro ξ v; rfl
    · intro ξ k v S h3 hn hk
      first
      | rfl
    apply YSeq.w (by intro _ _ _; rfl)
    · intro ξ S h1 h2 h3 h4
      have hN8_9 := closed_false h1 h3 (k := 9) rfl (by decide)
      have hN8_10 := closed_false hN8_9 h3 (k := 10) rfl (by decide)
      have hN8_12 := closed_false h1 h3 (k := 12) rfl (by decide)
      try simp only [upd_same, updD_same, upd_ne, updD_ne, ne_eq, Nat.reduceEqDiff, not_false_eq_true, stg_t, stg_f, vAd_s, vCap_s, blk_p, List.cons_append, List.nil_append, b2n_t, b2n_f, hN8_10, hN8_12]
      exact goW
    · intro ξ v; rfl
    · intro ξ k v S h3 hn hk
      first
      | rfl
    apply YSeq.w (by intro _ _ _; rfl)
    · intro ξ S h1 h2 h3 h4
      have hN9_10 := closed_false h1 h3 (k := 10) rfl (by decide)
      have hN9_12 := closed_false h1 h3 (k := 12) rfl (by decide)
      try simp only [upd_same, updD_same, upd_ne, updD_ne, ne_eq, Nat.reduceEqDiff, not_false_eq_true, stg_t, stg_f, vAd_s, vCap_s, blk_p, List.cons_append, List.nil_append, b2n_t, b2n_f, hN9_10, hN9_12]
      exact goW
    · intro ξ v; rfl
    · intro ξ k v S h3 hn hk
      first
      | rfl
    apply YSeq.append (3)
    · intro ξ S h1 h2 h3 h4
      have hN10_12 := closed_false h1 h3 (k := 12) rfl (by decide)
      simp only [upd_same, updD_same, upd_ne, updD_ne, ne_eq, Nat.reduceEqDiff, not_false_eq_true, stg_t, stg_f, vAd_s, vCap_s, blk_p, List.cons_append, List.nil_append, b2n_t, b2n_f, h1, hN10_12]
      refine ⟨_, _, _, _, _, _, rfl, rfl, goXp, (by first | rfl | (simp; done) | omega), (by first | rfl | omega | (simp; done) | (simp; omega)), (by first | omega | (simp; done) | (simp; omega)), (by first | omega | (simp; done) | (simp; omega)), fun ad' cap' => ?_⟩
      exact goXm
    apply YSeq.w (by intro _ _ _; rfl)
    · intro ξ S h1 h2 h3 h4
      have hY11_10 : S 10 = true := h2 10 (by decide)
      have hN11_12 := closed_false h1 h3 (k := 12) rfl (by decide)
      try simp only [upd_same, updD_same, upd_ne, updD_ne, ne_eq, Nat.reduceEqDiff, not_false_eq_true, stg_t, stg_f, vAd_s, vCap_s, blk_p, List.cons_append, List.nil_append, b2n_t, b2n_f, hY11_10, hN11_12]
      exact goW
    · intro ξ v; rfl
    · intro ξ k v S h3 hn hk
      first
      | rfl
      | skip
        have hY11_10 : S 10 = true := h3 11 _ rfl hn 10 (by decide)
        simp only [upd_S hY11_10 hk]
    apply YSeq.store
    · intro ξ S h1 h2 h3 h4
      have hY12_10 : S 10 = true := h2 10 (by decide)
      simp only [upd_same, updD_same, upd_ne, updD_ne, ne_eq, Nat.reduceEqDiff, not_false_eq_true, stg_t, stg_f, vAd_s, vCap_s, blk_p, List.cons_append, List.nil_append, b2n_t, b2n_f, hY12_10, h1]
      refine ⟨_, _, _, _, _, _, _, rfl, rfl, inferInstance, goXp, rfl, Nat.le_of_ble_eq_true rfl, ?_⟩
      exact goXm
    refine YSeq.nil fun ξ hf => ?_
    refine ⟨[(0, _), (4, _), (5, _)], _, Ent.trans (Ent.eqc rfl (by first | (simp only [upd_same, updD_same, upd_ne, updD_ne, ne_eq, Nat.reduceEqDiff, not_false_eq_true, stg_t, stg_f, vAd_s, vCap_s, blk_p, List.cons_append, List.nil_append, b2n_t, b2n_f, ownV, slV, ptV] <;> rfl) | rfl)) (Ent.sub goSub), ?_⟩
    clear hf
    generalize vAd (ξ 10) = ad57
    generalize vCap (ξ 10) = cap57
    repeat (first | refine InB.norm ?_ | refine Then.norm ?_)
    repeat' (first | refine goH ?_ | refine goV ?_ | refine goB (fun b => ?_) | refine goC (fun ad cap => ?_) | refine goI ?_ | (refine Cw.k_cond ?_; first | (refine Cw.cond_dec rfl (fun hc => ?_) (fun hc => ?_) <;> try (exfalso; omega)) | refine Cw.cond_bool rfl (fun hc => ?_) (fun hc => ?_)) | refine goR ?_ | refine goP ?_ | apply PSeq.cons | apply PSeq.yes rfl rfl rfl | exact goW | fail)
    exact Fin.ret (Ent.trans (Ent.settle_box (i := 2) (rows := _) (kk := 2) (by exact Perm.cons' goPk (Perm.cons' goPk (List.Perm.refl _))) rfl rfl rfl) (Ent.trans (Ent.setbox (s := 4) rfl goPk) (Ent.strm_only goPk (by omega)))) (Outs.sole rfl goOe) ⟨rfl, ⟨day, text, [⟨a0, u + 7⟩, ⟨a1, -u⟩, ⟨a2, -7⟩]⟩, rfl, ⟨by exact htz, by show 3 ≤ 3; omega⟩⟩
  · exact Fin.ret (Ent.trans (Ent.settle_box (i := 2) (rows := _) (kk := 2) (by exact Perm.cons' goPk (Perm.cons' goPk (List.Perm.refl _))) rfl rfl rfl) (Ent.trans (Ent.setbox (s := 4) rfl goPk) (Ent.strm_only goPk (by omega)))) (Outs.sole rfl goOe) ⟨rfl, ⟨day, text, [⟨a0, u⟩, ⟨a1, -u⟩]⟩, rfl, ⟨by exact htz, by show 2 ≤ 3; omega⟩⟩
attribute [local irreducible] entS plS dayB flgO itoaK cnlO pstO prtR
theorem books_fn (bs : Nat) (xs : List Int) (N : Nat) (hN : N + 300 ≤ 1000000000000) :
    Spec Tryz.prog 13 [.ptr bs] [bkC, strmC bs xs N] (fun r cs => ∃ (by_ n cap cap2 c : Nat) (ad ad2 : Option Addr) (L : List Ps), (c ≤ N + 300 ∧ LSt L ∧ n = L.length) ∧ r = .ptr by_ ∧ cs = [bkC, ledY by_ ad n cap ad2 n cap2, ownE ad cap L, ownB ad2 cap2 L, strmC bs xs c]) := by
  have kY := newY_fn
  refine Spec.body Tryz.func13 rfl rfl (Tryz.ntmps13) rfl fun w0 own0 M => ?_
  repeat' (first | refine goH ?_ | refine goV ?_ | refine goI ?_ | (refine Cw.k_cond ?_; first | (refine Cw.cond_dec rfl (fun hc => ?_) (fun hc => ?_) <;> try (exfalso; omega)) | refine Cw.cond_bool rfl (fun hc => ?_) (fun hc => ?_)) | (refine Ops.k_calla ?_; first | (refine Ops.k_callf 24 ?_; (refine Ops.call kY Evs.nil goPm rfl ?_; rintro r cs' ⟨by_, rfl, rfl⟩)) | (refine Ops.k_callf 40 ?_; (refine Ops.callG (next_gen _ (by omega)) (Evs.cons rfl (Evs.cons rfl Evs.nil)) goPk (by omega) rfl ?_; rintro r ⟨v, rfl, hv⟩; unfold InRange at hv))) | fail)
  refine Cw.loopI [(0, _), (3, _), (8, _)] _ (fun q e cc => ∃ (k c : Nat) (dv : Int) (L : List Ps) (ad ad2 : Option Addr) (n cap cap2 : Nat), q = v.toNat - k ∧ (k ≤ v.toNat ∧ c ≤ N + 1 + 35 * k ∧ 0 ≤ dv ∧ dv ≤ k ∧ LSt L ∧ n = L.length) ∧ e = [(4, .int dv), (9, .int k)] ∧ cc = [ledY by_ ad n cap ad2 n cap2, ownE ad cap L, ownB ad2 cap2 L, strmC bs xs c])
    ⟨_, _, _, Ent.trans (Ent.nil 3 52) (Ent.trans (Ent.nil 1 3) (Ent.mkP goSub goPm)), 0, _, 0, [], none, none, 0, 0, 0, rfl, ⟨by omega, by omega, by omega, by omega, LSt.nil, rfl⟩, rfl, rfl⟩ ?_
  rintro _ _ _ ⟨k, c, dv, L, ad, ad2, n, cap, cap2, rfl, ⟨hk, hc, hd1, hd2, hs, hn⟩, rfl, rfl⟩
  by_cases hkv : (k : Int) < v
  rotate_left
  · repeat' (first | refine goH ?_ | refine goV ?_ | refine goI ?_ | (refine Cw.k_cond ?_; first | (refine Cw.cond_dec rfl (fun hc => ?_) (fun hc => ?_) <;> try (exfalso; omega)) | refine Cw.cond_bool rfl (fun hc => ?_) (fun hc => ?_)) | fail)
    exact Fin.ret (Ent.take goTk) (Outs.one rfl rfl) ⟨_, _, _, _, _, _, _, _, ⟨by omega, hs, hn⟩, rfl, rfl⟩
  repeat' (first | refine goH ?_ | refine goV ?_ | refine goI ?_ | (refine Cw.k_cond ?_; first | (refine Cw.cond_dec rfl (fun hc => ?_) (fun hc => ?_) <;> try (exfalso; omega)) | refine Cw.cond_bool rfl (fun hc => ?_) (fun hc => ?_)) | (refine Ops.k_calla ?_; first | (refine Ops.k_callf 41 ?_; (refine Ops.callG (pick_gen (l := [0, 1]) (by repeat' (first | exact IsInts.nil | apply IsInts.cons)) (by simp)) (Evs.cons rfl (Evs.cons rfl Evs.nil)) goPk (by omega) rfl ?_; rintro r ⟨u, rfl, hu⟩; have hub : 0 ≤ u ∧ u ≤ 1 := (by simp at hu; omega); clear hu)) | (refine Ops.k_callf 14 ?_; (refine Ops.callG (flip_gen _ (by omega)) (Evs.cons rfl (Evs.cons rfl Evs.nil)) goPk (by omega) rfl ?_; rintro r ⟨v1, rfl⟩; cases v1))) | fail)
  · repeat' (first | refine goH ?_ | ((fail_if_success refine Ops.k_c_call ?_); refine goV ?_) | refine goI ?_ | (refine Cw.k_cond ?_; first | (refine Cw.cond_dec rfl (fun hc => ?_) (fun hc => ?_) <;> try (exfalso; omega)) | refine Cw.cond_bool rfl (fun hc => ?_) (fun hc => ?_)) | (refine Ops.k_calla ?_; first | (refine Ops.k_callf 43 ?_; (refine Ops.callG (rightEntry_gen _) (Evs.cons rfl (Evs.cons rfl Evs.nil)) goPk (by omega) rfl ?_; rintro r ⟨e, rfl, ⟨he1, he2⟩⟩; rw [show e.row = [.int e.day, .str e.text, .lns e.ls] from rfl]))) | fail)
    have kp2 := postYe_fn by_ n cap ad ad2 cap2 L e hs hn (by omega) (by omega)
    have hst := pstR_st hs e
    rw [show e.row = [.int e.day, .str e.text, .lns e.ls] from rfl] at kp2
    unfold resR at kp2
    generalize pstR L e = R at *
    repeat' (first | refine goH ?_ | refine goV ?_ | refine goI ?_ | (refine Cw.k_cond ?_; first | (refine Cw.cond_dec rfl (fun hc => ?_) (fun hc => ?_) <;> try (exfalso; omega)) | refine Cw.cond_bool rfl (fun hc => ?_) (fun hc => ?_)) | (refine Ops.k_calla ?_; first | (refine Ops.k_callf 29 ?_; (refine Ops.call kp2 (Evs.cons rfl (Evs.cons rfl Evs.nil)) goPm rfl ?_; rintro r cs' ⟨ad1', ad2', ny, cap1', cap2', rfl, hny, rfl⟩))) | fail)
    exact ⟨_, _, _, (Ent.mk goSub goTk), ⟨k + 1, _, _, R.1, _, _, _, _, _, rfl, ⟨by omega, by omega, by omega, by omega, hst, hny⟩, rfl, rfl⟩, by omega⟩
  · repeat' (first | refine goH ?_ | ((fail_if_success refine Ops.k_c_call ?_); refine goV ?_) | refine goI ?_ | (refine Cw.k_cond ?_; first | (refine Cw.cond_dec rfl (fun hc => ?_) (fun hc => ?_) <;> try (exfalso; omega)) | refine Cw.cond_bool rfl (fun hc => ?_) (fun hc => ?_)) | (refine Ops.k_calla ?_; first | (refine Ops.k_callf 42 ?_; (refine Ops.callG (range_gen _ _ (by omega)) (Evs.cons rfl (Evs.cons rfl (Evs.cons rfl Evs.nil))) goPk (by omega) rfl ?_; rintro r ⟨no, rfl, hno⟩))) | fail)
    have kp2 := cancelY_fn by_ n cap ad ad2 cap2 L no hs hn
    have hst := cnlR_st hs no
    unfold resR at kp2
    generalize cnlR L no = R at *
    repeat' (first | refine goH ?_ | refine goV ?_ | refine goI ?_ | (refine Cw.k_cond ?_; first | (refine Cw.cond_dec rfl (fun hc => ?_) (fun hc => ?_) <;> try (exfalso; omega)) | refine Cw.cond_bool rfl (fun hc => ?_) (fun hc => ?_)) | (refine Ops.k_calla ?_; first | (refine Ops.k_callf 27 ?_; (refine Ops.call kp2 (Evs.cons rfl (Evs.cons rfl Evs.nil)) goPm rfl ?_; rintro r cs' ⟨ad1', ad2', ny, cap1', cap2', rfl, hny, rfl⟩))) | fail)
    exact ⟨_, _, _, (Ent.mk goSub goTk), ⟨k + 1, _, _, R.1, _, _, _, _, _, rfl, ⟨by omega, by omega, by omega, by omega, hst, hny⟩, rfl, rfl⟩, by omega⟩
theorem prtR_any (L : List Ps) : ∃ (t : ByteArray) (e : Int), prtR L = .tup [.str t, .int e] ∧ t.size ≤ 200000 := by
  with_unfolding_all unfold prtR
  split
  · exact ⟨_, _, rfl, by decide⟩
  · exact ⟨_, _, rfl, by omega⟩
theorem booksText_fn (bs : Nat) (xs : List Int) (N : Nat) (hN : N + 400 ≤ 1000000000000) :
    Spec Tryz.prog 4 [.ptr bs] [bkC, strmC bs xs N] (fun r cs => ∃ (t : ByteArray) (c : Nat), (c ≤ N + 400 ∧ t.size ≤ 1000000) ∧ r = .str t ∧ cs = [bkC, strmC bs xs c]) := by
  have k1 := books_fn bs xs N (by omega)
  refine Spec.body Tryz.func4 rfl rfl (Tryz.ntmps4) rfl fun w0 own0 M => ?_
  repeat' (first | refine goH ?_ | ((fail_if_success refine Ops.k_c_call ?_); refine goV ?_) | refine goI ?_ | (refine Cw.k_cond ?_; first | (refine Cw.cond_dec rfl (fun hc => ?_) (fun hc => ?_) <;> try (exfalso; omega)) | refine Cw.cond_bool rfl (fun hc => ?_) (fun hc => ?_)) | (refine Ops.k_calla ?_; first | (refine Ops.k_callf 13 ?_; (refine Ops.call k1 (Evs.cons rfl Evs.nil) goPm rfl ?_; rintro r cs' ⟨by_, n, cap, cap2, c, ad, ad2, L, ⟨hc, hs, hn⟩, rfl, rfl⟩))) | fail)
  have k2 := printY_fn by_ n cap 0 ad ad2 cap2 L hs hn
  obtain ⟨t, e, ht, htz⟩ := prtR_any L
  rw [ht] at k2
  repeat' (first | refine goH ?_ | ((fail_if_success refine Ops.k_c_call ?_); refine goV ?_) | refine goI ?_ | (refine Cw.k_cond ?_; first | (refine Cw.cond_dec rfl (fun hc => ?_) (fun hc => ?_) <;> try (exfalso; omega)) | refine Cw.cond_bool rfl (fun hc => ?_) (fun hc => ?_)) | (refine Ops.k_calla ?_; first | (refine Ops.k_callf 9 ?_; refine Ops.callS k2 (Evs.cons rfl Evs.nil) goPm rfl ?_) | (refine Ops.k_callf 14 ?_; (refine Ops.callG (flip_gen _ (by omega)) (Evs.cons rfl (Evs.cons rfl Evs.nil)) goPk (by omega) rfl ?_; rintro r ⟨v1, rfl⟩; cases v1)) | (refine Ops.k_callf 16 ?_; (refine Ops.callG (one_gen (by repeat' (first | exact IsStrs.nil | apply IsStrs.cons)) (by simp)) (Evs.cons rfl (Evs.cons rfl Evs.nil)) goPk (by omega) rfl ?_; rintro r ⟨w, rfl, hw⟩))) | fail)
  · exact Fin.ret (Ent.take goTk) (Outs.one rfl rfl) ⟨_, _, ⟨by omega, by omega⟩, rfl, rfl⟩
  · have hwz : w.size ≤ 100 := by
      simp only [List.mem_cons, List.mem_nil_iff, or_false] at hw
      rcases hw with rfl | rfl | rfl | rfl | rfl | rfl | rfl | rfl <;> decide
    repeat' (first | refine goH ?_ | refine goV ?_ | refine goI ?_ | (refine Cw.k_cond ?_; first | (refine Cw.cond_dec rfl (fun hc => ?_) (fun hc => ?_) <;> try (exfalso; omega)) | refine Cw.cond_bool rfl (fun hc => ?_) (fun hc => ?_)) | (refine Ops.k_calla ?_; first | (refine Ops.k_callf 15 ?_; (refine Ops.callG (changed_gen t w (by omega) (by omega)) (Evs.cons rfl (Evs.cons rfl (Evs.cons rfl Evs.nil))) goPk (by omega) rfl ?_; rintro r ⟨t2, rfl, ht2⟩))) | fail)
    exact Fin.ret (Ent.take goTk) (Outs.one rfl rfl) ⟨_, _, ⟨by omega, by omega⟩, rfl, rfl⟩
end Lg
end
