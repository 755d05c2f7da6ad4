/- A part of the proof of a law of this seat: it adds no condition. By an AI agent. -/
import Derived.Test.YtgjiiacknhdabaaDoorLgB
import Derived.Test.YtgjiiacknhdabaaDoorLaw
section
set_option linter.all false
set_option maxRecDepth 100000
set_option maxHeartbeats 8000000
namespace Lg
open Go Go.Proofs

theorem emptyD_ab : PFn Tryd.prog 19 [.sl 1 [[.str ⟨#[97]⟩], [.str ⟨#[98]⟩]]] (· = .tup [.agg [.strs abS, .sl 1 (intsR (empW abS).rights), .ints (empW abS).used], .int 0]) := by
  have := emptyD_fn abS (by decide)
  rw [resW_ok sitE_ab] at this
  exact this
theorem emptyR_ab : PFn Tryd.prog 9 [.sl 1 [[.str ⟨#[97]⟩], [.str ⟨#[98]⟩]]] (· = .tup [.agg [.strs abS, .sl 1 (intsR (empW abS).rights), .ints (empW abS).used], .int 0]) := by
  have := emptyR_fn abS (by decide)
  rw [resW_ok sitE_ab] at this
  exact this
theorem depots_fn : PFn Tryd.prog 14 [] (· = .bool true) := by
  have k := emptyD_ab
  have h1 : (strRows abS).length = 2 := rfl
  have h2 : (intRows (empW abS).used).length = 2 := rfl
  refine PFn.mk (Spec.body Tryd.func14 rfl rfl (Tryd.ntmps14) rfl fun w0 own0 M => ?_)
  repeat' (first | refine goH ?_ | refine goV ?_ | refine goB (fun b => ?_) | refine goG ?_ | (refine Ops.k_guard ?_; first | (refine Ops.guard_dec rfl rfl (fun hc => ?_) (fun hc => ?_) <;> try (exfalso; omega)) | refine Ops.guard_split rfl rfl (fun hc => ?_) (fun hc => ?_)) | refine goI ?_ | (refine Cw.k_cond ?_; first | (refine Cw.cond_dec rfl (fun hc => ?_) (fun hc => ?_) <;> try (exfalso; omega)) | refine Cw.cond_bool rfl (fun hc => ?_) (fun hc => ?_)) | (refine Ops.k_calla ?_; first | (refine Ops.k_callf 19 ?_; refine Ops.callV k (Evs.cons rfl Evs.nil) rfl ?_)) | fail)
  all_goals first | exact Fin.ret (Ent.take goTk) (Outs.one rfl rfl) ⟨rfl, rfl⟩ | skip
theorem mrg_bd {A B : Wal} : WBd (stepT (mrgW A B) (mrgE A B)) := by
  unfold stepT
  by_cases h : mrgE A B = 0
  · rw [if_pos h]
    unfold mrgE at h
    by_cases h1 : pairE A B ≠ 0
    · rw [if_pos h1] at h; exact absurd h h1
    rw [if_neg h1] at h
    exact (wok_E h).bd
  · rw [if_neg h]
    exact ⟨by simp [wNil], by simp [wNil], by simp [wNil], by simp [wNil]⟩
theorem mrg_two {A B : Wal} (ha : WBd A) (hb : WBd B) : ∃ (W : Wal) (e : Int), WBd W ∧ PFn Tryd.prog 10 [.wal A, .wal B] (· = wTup W e) ∧ PFn Tryd.prog 12 [.wal A, .wal B] (· = wTup W e) :=
  ⟨stepT (mrgW A B) (mrgE A B), mrgE A B, mrg_bd, merge_fn A B ha hb, merged_fn A B ha hb⟩
theorem kn_two {A B : Wal} (ha : WBd A) (hb : WBd B) : ∃ (k : Bool) (e : Int), PFn Tryd.prog 11 [.wal A, .wal B] (· = .tup [.bool k, .int e]) ∧ PFn Tryd.prog 13 [.wal A, .wal B] (· = .tup [.bool k, .int e]) := by
  have h1 := knows_fn A B ha hb
  have h2 := knowsAll_fn A B ha hb
  by_cases h : pairE A B = 0
  · rw [kwO_ok h] at h1 h2
    exact ⟨_, _, h1, h2⟩
  · rw [kwO_bad h] at h1 h2
    exact ⟨_, _, h1, h2⟩
theorem emp_ab : WBd (empW abS) := (empW_ok (by decide)).bd
abbrev EAB : Wal := empW abS
attribute [local irreducible] intRows intsR strRows valsW rowsW wAt
theorem walletsMerged_law (xs : List Int) : Spec Tryd.prog 3 [Tr.ints xs] [] (fun r _ => r = Tr.bool true) := by
  refine Spec.body Tryd.func3 rfl rfl (Tryd.ntmps3) rfl fun w0 own0 M => ?_
  have kE := emptyR_ab
  repeat' (first | refine goH ?_ | refine goV ?_ | refine goB (fun b => ?_) | refine goG ?_ | (refine Ops.k_guard ?_; first | (refine Ops.guard_dec rfl rfl (fun hc => ?_) (fun hc => ?_) <;> try (exfalso; omega)) | refine Ops.guard_split rfl rfl (fun hc => ?_) (fun hc => ?_)) | refine goI ?_ | (refine Cw.k_cond ?_; first | (refine Cw.cond_dec rfl (fun hc => ?_) (fun hc => ?_) <;> try (exfalso; omega)) | refine Cw.cond_bool rfl (fun hc => ?_) (fun hc => ?_)) | refine Ops.shut0 (ty := 25) rfl ?_ | (refine Ops.k_calla ?_; first | (refine Ops.k_callf 5 ?_; (refine Ops.callG wallets_gen (Evs.cons rfl Evs.nil) goPk (by omega) rfl ?_; rintro r ⟨l, rfl, hl, hg⟩; have hlr : (l.map Wal.row).length = 3 := (by rw [List.length_map, hl])))) | fail)
  rename Nat => bs
  have hrow : ∀ v : Int, 0 ≤ v ∧ v < 3 → (l.map Wal.row)[v.toNat]? = some [.strs (wAt l v).sites, .sl 1 (intsR (wAt l v).rights), .ints (wAt l v).used] := fun v hv => wAt_row hl hv
  have hmem : ∀ v : Int, 0 ≤ v ∧ v < 3 → WBd (wAt l v) := fun v hv => (hg _ (wAt_mem hl hv)).1.bd
  first | refine Cw.region_YP (fun ξ S => Chunk.strm 25 bs (intRows xs) (0 + 80 + (b2n (S 2) + b2n (S 7))) :: (stg (S 10) [] [Chunk.box (blk (ξ 10)) 31 (stg (S 12) [Tr.raw (.slice none 0 0), Tr.raw (.slice none 0 0), Tr.raw (.slice none 0 0)] [.strs (wAt l (vInt (ξ 2))).sites, .sl 1 (intsR (wAt l (vInt (ξ 2))).rights), .ints (wAt l (vInt (ξ 2))).used])] ++ (stg (S 11) [] [Chunk.box (blk (ξ 11)) 31 (stg (S 13) [Tr.raw (.slice none 0 0), Tr.raw (.slice none 0 0), Tr.raw (.slice none 0 0)] [.strs (wAt l (vInt (ξ 7))).sites, .sl 1 (intsR (wAt l (vInt (ξ 7))).rights), .ints (wAt l (vInt (ξ 7))).used])] ++ []))) rfl (by decide +kernel) rfl ((fun (ξ : Nat → Value) (S : Nat → Bool) => Chunk.strm 25 bs (intRows xs) (0 + 80 + (b2n (S 2) + b2n (S 7))) :: (stg (S 10) [] [Chunk.box (blk (ξ 10)) 31 (stg (S 12) [Tr.raw (.slice none 0 0), Tr.raw (.slice none 0 0), Tr.raw (.slice none 0 0)] [.strs (wAt l (vInt (ξ 2))).sites, .sl 1 (intsR (wAt l (vInt (ξ 2))).rights), .ints (wAt l (vInt (ξ 2))).used])] ++ (stg (S 11) [] [Chunk.box (blk (ξ 11)) 31 (stg (S 13) [Tr.raw (.slice none 0 0), Tr.raw (.slice none 0 0), Tr.raw (.slice none 0 0)] [.strs (wAt l (vInt (ξ 7))).sites, .sl 1 (intsR (wAt l (vInt (ξ 7))).rights), .ints (wAt l (vInt (ξ 7))).used])] ++ []))) (fun _ => undef) (fun _ => false)) (by simp only [upd_same, updD_same, upd_ne, updD_ne, ne_eq, Nat.reduceEqDiff, not_false_eq_true, stg_t, stg_f, vAd_s, vCap_s, blk_p, List.cons_append, List.nil_append, b2n_t, b2n_f]; exact goXm) (fun _ => rfl) ?_ | fail
  apply YSeq.w (by intro _ _ _; rfl)
  · intro ξ S h1 h2 h3 h4
    have hN0_12 := closed_false h1 h3 (k := 12) rfl (by decide)
    have hN0_13 := closed_false h1 h3 (k := 13) rfl (by decide)
    try simp only [upd_same, updD_same, upd_ne, updD_ne, ne_eq, Nat.reduceEqDiff, not_false_eq_true, stg_t, stg_f, vAd_s, vCap_s, blk_p, List.cons_append, List.nil_append, b2n_t, b2n_f, hN0_12, hN0_13]
    exact goW
  · intro ξ v; rfl
  · intro ξ k v S h3 hn hk
    first
    | rfl
  apply YSeq.w (by intro _ _ _; rfl)
  · intro ξ S h1 h2 h3 h4
    have hN1_2 := closed_false h1 h3 (k := 2) rfl (by decide)
    have hN1_7 := closed_false hN1_2 h3 (k := 7) rfl (by decide)
    have hN1_12 := closed_false h1 h3 (k := 12) rfl (by decide)
    have hN1_13 := closed_false h1 h3 (k := 13) rfl (by decide)
    try simp only [upd_same, updD_same, upd_ne, updD_ne, ne_eq, Nat.reduceEqDiff, not_false_eq_true, stg_t, stg_f, vAd_s, vCap_s, blk_p, List.cons_append, List.nil_append, b2n_t, b2n_f, hN1_2, hN1_7, hN1_12, hN1_13]
    exact goW
  · intro ξ v; rfl
  · intro ξ k v S h3 hn hk
    first
    | rfl
  apply YSeq.callI (next_gen 3 (by omega)) (fun _ => (Evs.cons rfl (Evs.cons rfl Evs.nil)))
  · intro ξ S h1 h3
    have hN2_7 := closed_false h1 h3 (k := 7) rfl (by decide)
    have hN2_12 := closed_false h1 h3 (k := 12) rfl (by decide)
    have hN2_13 := closed_false h1 h3 (k := 13) rfl (by decide)
    have hq2 := b2n_le (S 2)
    have hq7 := b2n_le (S 7)
    simp only [upd_same, updD_same, upd_ne, updD_ne, ne_eq, Nat.reduceEqDiff, not_false_eq_true, stg_t, stg_f, vAd_s, vCap_s, blk_p, List.cons_append, List.nil_append, b2n_t, b2n_f, h1, hN2_7, hN2_12, hN2_13]
    refine ⟨_, _, ?_, goXp, fun v => ?_⟩
    · omega
    · refine List.Perm.trans goXp (perm_strm ?_)
      omega
  apply YSeq.w (by intro _ _ _; rfl)
  · intro ξ S h1 h2 h3 h4
    have hY3_2 : S 2 = true := h2 2 (by decide)
    have hN3_12 := closed_false h1 h3 (k := 12) rfl (by decide)
    have hN3_13 := closed_false h1 h3 (k := 13) rfl (by decide)
    have hR22 := pf_int (next_gen 3 (by omega)) (h4 2 hY3_2)
    try simp only [InRange] at hR22
    have hRn22 := hR22
    try simp only [Nat.zero_add, Nat.reduceAdd] at hRn22
    have hq := hrow (vInt (ξ 2)) (by omega)
    try simp only [upd_same, updD_same, upd_ne, updD_ne, ne_eq, Nat.reduceEqDiff, not_false_eq_true, stg_t, stg_f, vAd_s, vCap_s, blk_p, List.cons_append, List.nil_append, b2n_t, b2n_f, hY3_2, hN3_12, hN3_13]
    exact goW
  · intro ξ v; rfl
  · intro ξ k v S h3 hn hk
    first
    | rfl
    | skip
      have hY3_2 : S 2 = true := h3 3 _ rfl hn 2 (by decide)
      simp only [upd_S hY3_2 hk]
  apply YSeq.w (by intro _ _ _; rfl)
  · intro ξ S h1 h2 h3 h4
    have hY4_3 : S 3 = true := h2 3 (by decide)
    have hY4_2 : S 2 = true := h3 3 _ rfl hY4_3 2 (by decide)
    have hN4_12 := closed_false h1 h3 (k := 12) rfl (by decide)
    have hN4_13 := closed_false h1 h3 (k := 13) rfl (by decide)
    have hR22 := pf_int (next_gen 3 (by omega)) (h4 2 hY4_2)
    try simp only [InRange] at hR22
    have hRn22 := hR22
    try simp only [Nat.zero_add, Nat.reduceAdd] at hRn22
    try simp only [upd_same, updD_same, upd_ne, updD_ne, ne_eq, Nat.reduceEqDiff, not_false_eq_true, stg_t, stg_f, vAd_s, vCap_s, blk_p, List.cons_append, List.nil_append, b2n_t, b2n_f, hY4_2, hN4_12, hN4_13]
    exact goW
  · intro ξ v; rfl
  · intro ξ k v S h3 hn hk
    first
    | rfl
    | skip
      have hY4_3 : S 3 = true := h3 4 _ rfl hn 3 (by decide)
      have hY4_2 : S 2 = true := h3 3 _ rfl hY4_3 2 (by decide)
      simp only [upd_S hY4_2 hk]
  apply YSeq.w (by intro _ _ _; rfl)
  · intro ξ S h1 h2 h3 h4
    have hN5_13 := closed_false h1 h3 (k := 13) rfl (by decide)
    try simp only [upd_same, updD_same, upd_ne, updD_ne, ne_eq, Nat.reduceEqDiff, not_false_eq_true, stg_t, stg_f, vAd_s, vCap_s, blk_p, List.cons_append, List.nil_append, b2n_t, b2n_f, hN5_13]
    exact goW
  · intro ξ v; rfl
  · intro ξ k v S h3 hn hk
    first
    | rfl
  apply YSeq.w (by intro _ _ _; rfl)
  · intro ξ S h1 h2 h3 h4
    have hN6_7 := closed_false h1 h3 (k := 7) rfl (by decide)
    have hN6_12 := closed_false hN6_7 h3 (k := 12) rfl (by decide)
    have hN6_13 := closed_false h1 h3 (k := 13) rfl (by decide)
    try simp only [upd_same, updD_same, upd_ne, updD_ne, ne_eq, Nat.reduceEqDiff, not_false_eq_true, stg_t, stg_f, vAd_s, vCap_s, blk_p, List.cons_append, List.nil_append, b2n_t, b2n_f, hN6_7, hN6_12, hN6_13]
    exact goW
  · intro ξ v; rfl
  · intro ξ k v S h3 hn hk
    first
    | rfl
  apply YSeq.callI (next_gen 3 (by omega)) (fun _ => (Evs.cons rfl (Evs.cons rfl Evs.nil)))
  · intro ξ S h1 h3
    have hN7_12 := closed_false h1 h3 (k := 12) rfl (by decide)
    have hN7_13 := closed_false h1 h3 (k := 13) rfl (by decide)
    have hq2 := b2n_le (S 2)
    have hq7 := b2n_le (S 7)
    simp only [upd_same, updD_same, upd_ne, updD_ne, ne_eq, Nat.reduceEqDiff, not_false_eq_true, stg_t, stg_f, vAd_s, vCap_s, blk_p, List.cons_append, List.nil_append, b2n_t, b2n_f, h1, hN7_12, hN7_13]
    refine ⟨_, _, ?_, goXp, fun v => ?_⟩
    · omega
    · refine List.Perm.trans goXp (perm_strm ?_)
      omega
  apply YSeq.w (by intro _ _ _; rfl)
  · intro ξ S h1 h2 h3 h4
    have hY8_7 : S 7 = true := h2 7 (by decide)
    have hY8_2 : S 2 = true := h3 7 _ rfl hY8_7 2 (by decide)
    have hN8_13 := closed_false h1 h3 (k := 13) rfl (by decide)
    have hR22 := pf_int (next_gen 3 (by omega)) (h4 2 hY8_2)
    try simp only [InRange] at hR22
    have hRn22 := hR22
    try simp only [Nat.zero_add, Nat.reduceAdd] at hRn22
    have hR27 := pf_int (next_gen 3 (by omega)) (h4 7 hY8_7)
    try simp only [InRange] at hR27
    have hRn27 := hR27
    try simp only [Nat.zero_add, Nat.reduceAdd] at hRn27
    have hq := hrow (vInt (ξ 7)) (by omega)
    try simp only [upd_same, updD_same, upd_ne, updD_ne, ne_eq, Nat.reduceEqDiff, not_false_eq_true, stg_t, stg_f, vAd_s, vCap_s, blk_p, List.cons_append, List.nil_append, b2n_t, b2n_f, hY8_2, hY8_7, hN8_13]
    exact goW
  · intro ξ v; rfl
  · intro ξ k v S h3 hn hk
    first
    | rfl
    | skip
      have hY8_7 : S 7 = true := h3 8 _ rfl hn 7 (by decide)
      have hY8_2 : S 2 = true := h3 7 _ rfl hY8_7 2 (by decide)
      simp only [upd_S hY8_2 hk, upd_S hY8_7 hk]
  apply YSeq.w (by intro _ _ _; rfl)
  · intro ξ S h1 h2 h3 h4
    have hY9_8 : S 8 = true := h2 8 (by decide)
    have hY9_7 : S 7 = true := h3 8 _ rfl hY9_8 7 (by decide)
    have hY9_2 : S 2 = true := h3 7 _ rfl hY9_7 2 (by decide)
    have hN9_13 := closed_false h1 h3 (k := 13) rfl (by decide)
    have hR22 := pf_int (next_gen 3 (by omega)) (h4 2 hY9_2)
    try simp only [InRange] at hR22
    have hRn22 := hR22
    try simp only [Nat.zero_add, Nat.reduceAdd] at hRn22
    have hR27 := pf_int (next_gen 3 (by omega)) (h4 7 hY9_7)
    try simp only [InRange] at hR27
    have hRn27 := hR27
    try simp only [Nat.zero_add, Nat.reduceAdd] at hRn27
    try simp only [upd_same, updD_same, upd_ne, updD_ne, ne_eq, Nat.reduceEqDiff, not_false_eq_true, stg_t, stg_f, vAd_s, vCap_s, blk_p, List.cons_append, List.nil_append, b2n_t, b2n_f, hY9_2, hY9_7, hN9_13]
    exact goW
  · intro ξ v; rfl
  · intro ξ k v S h3 hn hk
    first
    | rfl
    | skip
      have hY9_8 : S 8 = true := h3 9 _ rfl hn 8 (by decide)
      have hY9_7 : S 7 = true := h3 8 _ rfl hY9_8 7 (by decide)
      have hY9_2 : S 2 = true := h3 7 _ rfl hY9_7 2 (by decide)
      simp only [upd_S hY9_2 hk, upd_S hY9_7 hk]
  apply YSeq.alloc
  · intro ξ S b h1 h3
    have hN10_12 := closed_false h1 h3 (k := 12) rfl (by decide)
    have hN10_13 := closed_false h1 h3 (k := 13) rfl (by decide)
    simp only [upd_same, updD_same, upd_ne, updD_ne, ne_eq, Nat.reduceEqDiff, not_false_eq_true, stg_t, stg_f, vAd_s, vCap_s, blk_p, List.cons_append, List.nil_append, b2n_t, b2n_f, h1, hN10_12, hN10_13]
    exact goXm
  apply YSeq.alloc
  · intro ξ S b h1 h3
    have hN11_12 := closed_false h1 h3 (k := 12) rfl (by decide)
    have hN11_13 := closed_false h1 h3 (k := 13) rfl (by decide)
    simp only [upd_same, updD_same, upd_ne, updD_ne, ne_eq, Nat.reduceEqDiff, not_false_eq_true, stg_t, stg_f, vAd_s, vCap_s, blk_p, List.cons_append, List.nil_append, b2n_t, b2n_f, h1, hN11_12, hN11_13]
    exact goXm
  apply YSeq.store
  · intro ξ S h1 h2 h3 h4
    have hY12_2 : S 2 = true := h2 2 (by decide)
    have hY12_7 : S 7 = true := h2 7 (by decide)
    have hY12_10 : S 10 = true := h2 10 (by decide)
    have hY12_11 : S 11 = true := h2 11 (by decide)
    have hN12_13 := closed_false h1 h3 (k := 13) rfl (by decide)
    have hR22 := pf_int (next_gen 3 (by omega)) (h4 2 hY12_2)
    try simp only [InRange] at hR22
    have hRn22 := hR22
    try simp only [Nat.zero_add, Nat.reduceAdd] at hRn22
    have hR27 := pf_int (next_gen 3 (by omega)) (h4 7 hY12_7)
    try simp only [InRange] at hR27
    have hRn27 := hR27
    try simp only [Nat.zero_add, Nat.reduceAdd] at hRn27
    simp only [upd_same, updD_same, upd_ne, updD_ne, ne_eq, Nat.reduceEqDiff, not_false_eq_true, stg_t, stg_f, vAd_s, vCap_s, blk_p, List.cons_append, List.nil_append, b2n_t, b2n_f, hY12_2, hY12_7, hY12_10, hY12_11, h1, hN12_13]
    refine ⟨_, _, _, _, _, _, _, rfl, rfl, inferInstance, goXp, rfl, Nat.le_of_ble_eq_true rfl, ?_⟩
    exact goXm
  apply YSeq.store
  · intro ξ S h1 h2 h3 h4
    have hY13_2 : S 2 = true := h2 2 (by decide)
    have hY13_7 : S 7 = true := h2 7 (by decide)
    have hY13_10 : S 10 = true := h2 10 (by decide)
    have hY13_11 : S 11 = true := h2 11 (by decide)
    have hY13_12 : S 12 = true := h2 12 (by decide)
    have hR22 := pf_int (next_gen 3 (by omega)) (h4 2 hY13_2)
    try simp only [InRange] at hR22
    have hRn22 := hR22
    try simp only [Nat.zero_add, Nat.reduceAdd] at hRn22
    have hR27 := pf_int (next_gen 3 (by omega)) (h4 7 hY13_7)
    try simp only [InRange] at hR27
    have hRn27 := hR27
    try simp only [Nat.zero_add, Nat.reduceAdd] at hRn27
    simp only [upd_same, updD_same, upd_ne, updD_ne, ne_eq, Nat.reduceEqDiff, not_false_eq_true, stg_t, stg_f, vAd_s, vCap_s, blk_p, List.cons_append, List.nil_append, b2n_t, b2n_f, hY13_2, hY13_7, hY13_10, hY13_11, hY13_12, h1]
    refine ⟨_, _, _, _, _, _, _, rfl, rfl, inferInstance, goXp, rfl, Nat.le_of_ble_eq_true rfl, ?_⟩
    exact goXm
  refine YSeq.nil fun ξ hf => ?_
  have hR22 := pf_int (next_gen 3 (by omega)) (hf 2)
  try simp only [InRange] at hR22
  have hR27 := pf_int (next_gen 3 (by omega)) (hf 7)
  try simp only [InRange] at hR27
  refine ⟨[(3, _), (5, _), (6, _)], _, Ent.trans (Ent.eqc rfl (by simp only [upd_same, updD_same, upd_ne, updD_ne, ne_eq, Nat.reduceEqDiff, not_false_eq_true, stg_t, stg_f, vAd_s, vCap_s, blk_p, List.cons_append, List.nil_append, b2n_t, b2n_f, ownV, slV, ptV] <;> rfl)) (Ent.sub goSub), ?_⟩
  clear hf
  generalize vInt (ξ 2) = x22 at hR22 ⊢
  generalize vInt (ξ 7) = x27 at hR27 ⊢
  generalize blk (ξ 10) = b5
  generalize blk (ξ 11) = b6
  have ha := hmem x22 (by omega)
  have hb := hmem x27 (by omega)
  clear hrow hmem hlr hg
  generalize wAt l x22 = A0 at *
  generalize wAt l x27 = B0 at *
  clear hR22 hR27 hl
  refine Then.norm ?_
  repeat' (first | refine goH ?_ | refine goV ?_ | refine goB (fun b => ?_) | refine goG ?_ | (refine Ops.k_guard ?_; first | (refine Ops.guard_dec rfl rfl (fun hc => ?_) (fun hc => ?_) <;> try (exfalso; omega)) | refine Ops.guard_split rfl rfl (fun hc => ?_) (fun hc => ?_)) | refine goI ?_ | (refine Cw.k_cond ?_; first | (refine Cw.cond_dec rfl (fun hc => ?_) (fun hc => ?_) <;> try (exfalso; omega)) | refine Cw.cond_bool rfl (fun hc => ?_) (fun hc => ?_)) | (refine Ops.k_calla ?_; first | (refine Ops.k_callf 7 ?_; (refine Ops.callG (flip_gen _ (by omega)) (Evs.cons rfl (Evs.cons rfl Evs.nil)) goPk (by omega) rfl ?_; rintro r ⟨v, rfl⟩)) | (refine Ops.k_callf 8 ?_; (refine Ops.callG wallet_gen (Evs.cons rfl Evs.nil) goPk (by omega) rfl ?_; rintro r ⟨A1, rfl, ha1⟩)) | (refine Ops.k_callf 9 ?_; refine Ops.callV kE (Evs.cons rfl Evs.nil) rfl ?_)) | (apply OpW.k_call; first | (apply OpW.k_callf 9; exact OpW.callV kE (Evs.cons rfl Evs.nil))) | fail)
  · obtain ⟨W, e, hW, k1, k2⟩ := mrg_two (A := A1) (B := EAB) ha1 emp_ab
    obtain ⟨q, e2, k3, k4⟩ := kn_two (A := A1) (B := EAB) ha1 emp_ab
    have k5 := sameWallet_fn W hW
    have k6 := depots_fn
    clear kE
    repeat' (first | refine goH ?_ | refine goV ?_ | refine goB (fun b => ?_) | (refine Ops.k_b_eql ?_; first | refine Ops.eqlB_t (Tryd.underlying4) rfl rfl rfl rfl ?_) | refine goG ?_ | (refine Ops.k_guard ?_; first | (refine Ops.guard_dec rfl rfl (fun hc => ?_) (fun hc => ?_) <;> try (exfalso; omega)) | refine Ops.guard_split rfl rfl (fun hc => ?_) (fun hc => ?_)) | refine goI ?_ | (refine Cw.k_cond ?_; first | (refine Cw.cond_dec rfl (fun hc => ?_) (fun hc => ?_) <;> try (exfalso; omega)) | refine Cw.cond_bool rfl (fun hc => ?_) (fun hc => ?_)) | (refine Ops.k_calla ?_; first | refine Ops.callV k1 (Evs.cons rfl (Evs.cons rfl Evs.nil)) rfl ?_ | refine Ops.callV k2 (Evs.cons rfl (Evs.cons rfl Evs.nil)) rfl ?_ | refine Ops.callV k3 (Evs.cons rfl (Evs.cons rfl Evs.nil)) rfl ?_ | refine Ops.callV k4 (Evs.cons rfl (Evs.cons rfl Evs.nil)) rfl ?_ | (refine Ops.k_callf 15 ?_; refine Ops.callV k5 (Evs.cons rfl (Evs.cons rfl Evs.nil)) rfl ?_) | (refine Ops.k_callf 14 ?_; refine Ops.callV k6 Evs.nil rfl ?_)) | (apply OpW.k_call; first | exact OpW.callV k1 (Evs.cons rfl (Evs.cons rfl Evs.nil)) | exact OpW.callV k2 (Evs.cons rfl (Evs.cons rfl Evs.nil)) | exact OpW.callV k3 (Evs.cons rfl (Evs.cons rfl Evs.nil)) | exact OpW.callV k4 (Evs.cons rfl (Evs.cons rfl Evs.nil)) | (apply OpW.k_callf 15; exact OpW.callV k5 (Evs.cons rfl (Evs.cons rfl Evs.nil))) | (apply OpW.k_callf 14; exact OpW.callV k6 Evs.nil)) | refine goR ?_ | refine goP ?_ | apply PSeq.cons | apply PSeq.yes rfl rfl rfl | exact goW | fail)
    all_goals first | exact Fin.ret Ent.refl (Outs.one rfl rfl) rfl | (exfalso; simp_all; done)
  · obtain ⟨W, e, hW, k1, k2⟩ := mrg_two (A := A1) (B := B0) ha1 hb
    obtain ⟨q, e2, k3, k4⟩ := kn_two (A := A1) (B := B0) ha1 hb
    have k5 := sameWallet_fn W hW
    have k6 := depots_fn
    clear kE
    repeat' (first | refine goH ?_ | refine goV ?_ | refine goB (fun b => ?_) | (refine Ops.k_b_eql ?_; first | refine Ops.eqlB_t (Tryd.underlying4) rfl rfl rfl rfl ?_) | refine goG ?_ | (refine Ops.k_guard ?_; first | (refine Ops.guard_dec rfl rfl (fun hc => ?_) (fun hc => ?_) <;> try (exfalso; omega)) | refine Ops.guard_split rfl rfl (fun hc => ?_) (fun hc => ?_)) | refine goI ?_ | (refine Cw.k_cond ?_; first | (refine Cw.cond_dec rfl (fun hc => ?_) (fun hc => ?_) <;> try (exfalso; omega)) | refine Cw.cond_bool rfl (fun hc => ?_) (fun hc => ?_)) | (refine Ops.k_calla ?_; first | refine Ops.callV k1 (Evs.cons rfl (Evs.cons rfl Evs.nil)) rfl ?_ | refine Ops.callV k2 (Evs.cons rfl (Evs.cons rfl Evs.nil)) rfl ?_ | refine Ops.callV k3 (Evs.cons rfl (Evs.cons rfl Evs.nil)) rfl ?_ | refine Ops.callV k4 (Evs.cons rfl (Evs.cons rfl Evs.nil)) rfl ?_ | (refine Ops.k_callf 15 ?_; refine Ops.callV k5 (Evs.cons rfl (Evs.cons rfl Evs.nil)) rfl ?_) | (refine Ops.k_callf 14 ?_; refine Ops.callV k6 Evs.nil rfl ?_)) | (apply OpW.k_call; first | exact OpW.callV k1 (Evs.cons rfl (Evs.cons rfl Evs.nil)) | exact OpW.callV k2 (Evs.cons rfl (Evs.cons rfl Evs.nil)) | exact OpW.callV k3 (Evs.cons rfl (Evs.cons rfl Evs.nil)) | exact OpW.callV k4 (Evs.cons rfl (Evs.cons rfl Evs.nil)) | (apply OpW.k_callf 15; exact OpW.callV k5 (Evs.cons rfl (Evs.cons rfl Evs.nil))) | (apply OpW.k_callf 14; exact OpW.callV k6 Evs.nil)) | refine goR ?_ | refine goP ?_ | apply PSeq.cons | apply PSeq.yes rfl rfl rfl | exact goW | fail)
    all_goals first | exact Fin.ret Ent.refl (Outs.one rfl rfl) rfl | (exfalso; simp_all; done)
  · obtain ⟨W, e, hW, k1, k2⟩ := mrg_two (A := A0) (B := EAB) ha emp_ab
    obtain ⟨q, e2, k3, k4⟩ := kn_two (A := A0) (B := EAB) ha emp_ab
    have k5 := sameWallet_fn W hW
    have k6 := depots_fn
    clear kE
    repeat' (first | refine goH ?_ | refine goV ?_ | refine goB (fun b => ?_) | (refine Ops.k_b_eql ?_; first | refine Ops.eqlB_t (Tryd.underlying4) rfl rfl rfl rfl ?_) | refine goG ?_ | (refine Ops.k_guard ?_; first | (refine Ops.guard_dec rfl rfl (fun hc => ?_) (fun hc => ?_) <;> try (exfalso; omega)) | refine Ops.guard_split rfl rfl (fun hc => ?_) (fun hc => ?_)) | refine goI ?_ | (refine Cw.k_cond ?_; first | (refine Cw.cond_dec rfl (fun hc => ?_) (fun hc => ?_) <;> try (exfalso; omega)) | refine Cw.cond_bool rfl (fun hc => ?_) (fun hc => ?_)) | (refine Ops.k_calla ?_; first | refine Ops.callV k1 (Evs.cons rfl (Evs.cons rfl Evs.nil)) rfl ?_ | refine Ops.callV k2 (Evs.cons rfl (Evs.cons rfl Evs.nil)) rfl ?_ | refine Ops.callV k3 (Evs.cons rfl (Evs.cons rfl Evs.nil)) rfl ?_ | refine Ops.callV k4 (Evs.cons rfl (Evs.cons rfl Evs.nil)) rfl ?_ | (refine Ops.k_callf 15 ?_; refine Ops.callV k5 (Evs.cons rfl (Evs.cons rfl Evs.nil)) rfl ?_) | (refine Ops.k_callf 14 ?_; refine Ops.callV k6 Evs.nil rfl ?_)) | (apply OpW.k_call; first | exact OpW.callV k1 (Evs.cons rfl (Evs.cons rfl Evs.nil)) | exact OpW.callV k2 (Evs.cons rfl (Evs.cons rfl Evs.nil)) | exact OpW.callV k3 (Evs.cons rfl (Evs.cons rfl Evs.nil)) | exact OpW.callV k4 (Evs.cons rfl (Evs.cons rfl Evs.nil)) | (apply OpW.k_callf 15; exact OpW.callV k5 (Evs.cons rfl (Evs.cons rfl Evs.nil))) | (apply OpW.k_callf 14; exact OpW.callV k6 Evs.nil)) | refine goR ?_ | refine goP ?_ | apply PSeq.cons | apply PSeq.yes rfl rfl rfl | exact goW | fail)
    all_goals first | exact Fin.ret Ent.refl (Outs.one rfl rfl) rfl | (exfalso; simp_all; done)
  · obtain ⟨W, e, hW, k1, k2⟩ := mrg_two (A := A0) (B := B0) ha hb
    obtain ⟨q, e2, k3, k4⟩ := kn_two (A := A0) (B := B0) ha hb
    have k5 := sameWallet_fn W hW
    have k6 := depots_fn
    clear kE
    repeat' (first | refine goH ?_ | refine goV ?_ | refine goB (fun b => ?_) | (refine Ops.k_b_eql ?_; first | refine Ops.eqlB_t (Tryd.underlying4) rfl rfl rfl rfl ?_) | refine goG ?_ | (refine Ops.k_guard ?_; first | (refine Ops.guard_dec rfl rfl (fun hc => ?_) (fun hc => ?_) <;> try (exfalso; omega)) | refine Ops.guard_split rfl rfl (fun hc => ?_) (fun hc => ?_)) | refine goI ?_ | (refine Cw.k_cond ?_; first | (refine Cw.cond_dec rfl (fun hc => ?_) (fun hc => ?_) <;> try (exfalso; omega)) | refine Cw.cond_bool rfl (fun hc => ?_) (fun hc => ?_)) | (refine Ops.k_calla ?_; first | refine Ops.callV k1 (Evs.cons rfl (Evs.cons rfl Evs.nil)) rfl ?_ | refine Ops.callV k2 (Evs.cons rfl (Evs.cons rfl Evs.nil)) rfl ?_ | refine Ops.callV k3 (Evs.cons rfl (Evs.cons rfl Evs.nil)) rfl ?_ | refine Ops.callV k4 (Evs.cons rfl (Evs.cons rfl Evs.nil)) rfl ?_ | (refine Ops.k_callf 15 ?_; refine Ops.callV k5 (Evs.cons rfl (Evs.cons rfl Evs.nil)) rfl ?_) | (refine Ops.k_callf 14 ?_; refine Ops.callV k6 Evs.nil rfl ?_)) | (apply OpW.k_call; first | exact OpW.callV k1 (Evs.cons rfl (Evs.cons rfl Evs.nil)) | exact OpW.callV k2 (Evs.cons rfl (Evs.cons rfl Evs.nil)) | exact OpW.callV k3 (Evs.cons rfl (Evs.cons rfl Evs.nil)) | exact OpW.callV k4 (Evs.cons rfl (Evs.cons rfl Evs.nil)) | (apply OpW.k_callf 15; exact OpW.callV k5 (Evs.cons rfl (Evs.cons rfl Evs.nil))) | (apply OpW.k_callf 14; exact OpW.callV k6 Evs.nil)) | refine goR ?_ | refine goP ?_ | apply PSeq.cons | apply PSeq.yes rfl rfl rfl | exact goW | fail)
    all_goals first | exact Fin.ret Ent.refl (Outs.one rfl rfl) rfl | (exfalso; simp_all; done)
end Lg
end
section
set_option linter.all false
set_option maxRecDepth 100000
set_option maxHeartbeats 8000000
namespace Lg
open Go Go.Proofs

def moreE (n c : Int) : Int := if n + c > 1000000000 then 12 else 0
def moreL (xs : List Int) (k : Nat) (n c : Int) : List Int := if n + c > 1000000000 then xs else xs.set k (n + c)
theorem more_fn (ad : Option Addr) (cap : Nat) (xs : List Int) (k : Nat) (n c : Int) (hx : xs[k]? = some n) (hn : 0 ≤ n ∧ n ≤ 1000000000) (hc : 1 ≤ c ∧ c ≤ 1000000000) :
    Spec Tryd.prog 57 [Tr.eptr ad 1 k 0, .int c] [Chunk.own ad cap 1 3 (intRows xs)] (fun r cs => r = .int (moreE n c) ∧ cs = [Chunk.own ad cap 1 3 (intRows (moreL xs k n c))]) := by
  refine Spec.body Tryd.func57 rfl rfl (Tryd.ntmps57) rfl fun w0 own0 M => ?_
  have hr := intRows_at hx
  have e1 : (intRows xs).set k ([Tr.int n].set 0 (Tr.int (n + c))) = intRows (xs.set k (n + c)) := by simp [intRows]
  by_cases h : n + c > 1000000000
  · have e2 : moreE n c = 12 := if_pos h
    have e3 : moreL xs k n c = xs := if_pos h
    rw [e2, e3]
    repeat' (first | refine goH ?_ | (refine Ops.k_nilCheck ?_; first | refine Ops.nilCheck_eptr rfl rfl ?_) | refine goV ?_ | refine goI ?_ | (refine Cw.k_cond ?_; first | (refine Cw.cond_dec rfl (fun hc => ?_) (fun hc => ?_) <;> try (exfalso; omega)) | refine Cw.cond_bool rfl (fun hc => ?_) (fun hc => ?_)) | fail)
    exact Fin.ret (Ent.take goTk) (Outs.one rfl rfl) ⟨rfl, rfl⟩
  · have e2 : moreE n c = 0 := if_neg h
    have e3 : moreL xs k n c = xs.set k (n + c) := if_neg h
    rw [e2, e3]
    repeat' (first | refine goH ?_ | (refine Ops.k_nilCheck ?_; first | refine Ops.nilCheck_eptr rfl rfl ?_) | (refine Ops.k_store ?_; first | (refine Ops.store_own1 rfl rfl goPk (by first | rfl | assumption | (simp [*]; done)) (by decide) ?_; rw [e1])) | refine goV ?_ | refine goI ?_ | (refine Cw.k_cond ?_; first | (refine Cw.cond_dec rfl (fun hc => ?_) (fun hc => ?_) <;> try (exfalso; omega)) | refine Cw.cond_bool rfl (fun hc => ?_) (fun hc => ?_)) | fail)
    exact Fin.ret (Ent.take goTk) (Outs.one rfl rfl) ⟨rfl, rfl⟩
theorem done_raw (s : Tr) [OneT s] (v1 v2 : Value) (h1 : OneT (Tr.raw v1)) (h2 : OneT (Tr.raw v2)) (e : Int) : PFn Tryd.prog 39 [.agg [s, Tr.raw v1, Tr.raw v2], .int e] (· = .tup [.agg (if e = 0 then [s, Tr.raw v1, Tr.raw v2] else List.map Tr.raw [.slice none 0 0, .slice none 0 0, .slice none 0 0]), .int e]) := by
  refine PFn.mk (Spec.body Tryd.func39 rfl rfl (Tryd.ntmps39) rfl fun w0 own0 M => ?_)
  by_cases h : e = 0
  · subst h
    rw [if_pos rfl]
    repeat' (first | refine goH ?_ | refine goV ?_ | refine goB (fun b => ?_) | refine goI ?_ | (refine Cw.k_cond ?_; first | (refine Cw.cond_dec rfl (fun hc => ?_) (fun hc => ?_) <;> try (exfalso; omega)) | refine Cw.cond_bool rfl (fun hc => ?_) (fun hc => ?_)) | fail)
    refine Fin.ret (Ent.trans (Ent.setbox (s := 4) rfl goPk) (Ent.take goTk)) (Outs.many rfl (OutL.cons goOe (OutL.cons goOe OutL.nil)) rfl) ⟨rfl, rfl⟩
  · rw [if_neg h]
    repeat' (first | refine goH ?_ | refine goV ?_ | refine goB (fun b => ?_) | refine goI ?_ | (refine Cw.k_cond ?_; first | (refine Cw.cond_dec rfl (fun hc => ?_) (fun hc => ?_) <;> try (exfalso; omega)) | refine Cw.cond_bool rfl (fun hc => ?_) (fun hc => ?_)) | fail)
    refine Fin.ret (Ent.trans (Ent.setbox (s := 4) rfl goPk) (Ent.take goTk)) (Outs.many rfl (OutL.cons goOe (OutL.cons goOe OutL.nil)) rfl) ⟨rfl, rfl⟩
/-! ### the places of sites -/
def plB (w : Wal) (x : ByteArray) : Bool := decide (idxS w.sites x < 0)
def plE (w : Wal) (s : List ByteArray) : Int := if walE w ≠ 0 then walE w else if s.any (plB w) = true then 8 else 0
def plT (w : Wal) (s : List ByteArray) : Tr := if plE w s = 0 then .tup [.ints (s.map (idxS w.sites)), .int 0] else .tup [.ints [], .int (plE w s)]
theorem plT_bad {w : Wal} {s : List ByteArray} {e : Int} (h : plE w s = e) (h0 : e ≠ 0) : plT w s = .tup [.ints [], .int e] := by
  unfold plT
  rw [h, if_neg h0]
theorem plT_ok {w : Wal} {s : List ByteArray} (h : plE w s = 0) : plT w s = .tup [.ints (s.map (idxS w.sites)), .int 0] := by
  unfold plT
  rw [if_pos h]
theorem nil2 (e : Int) : Tr.tup [.sl 1 [], .int e] = .tup [.ints [], .int e] := rfl
theorem map_take {w : Wal} {s : List ByteArray} {k : Nat} {x : ByteArray} (h : s[k]? = some x) : intRows ((s.take k).map (idxS w.sites)) ++ [[Tr.int (idxS w.sites x)]] = intRows ((s.take (k + 1)).map (idxS w.sites)) := by
  rw [take_at h, List.map_append, intRows_app]
  rfl
attribute [local irreducible] intRows intsR strRows valsW rowsW idxS
theorem places_fn (w : Wal) (hw : WBd w) (s : List ByteArray) (hs : s.length ≤ 100) : PFn Tryd.prog 56 [.wal w, .strs s] (· = plT w s) := by
  have kC := checkWallet_fn w hw
  have n1 := hw.n1
  have hS := strRows_len s
  have he : plE w s = if walE w ≠ 0 then walE w else if s.any (plB w) = true then 8 else 0 := rfl
  refine PFn.mk (Spec.body Tryd.func56 rfl rfl (Tryd.ntmps56) rfl fun w0 own0 M => ?_)
  by_cases h1 : walE w ≠ 0
  · rw [if_pos h1] at he
    rw [plT_bad he h1]
    clear he
    generalize walE w = e at *
    repeat' (first | refine goH ?_ | refine goV ?_ | refine goB (fun b => ?_) | refine goC (fun ad cap => ?_) | refine goI ?_ | (refine Cw.k_cond ?_; first | (refine Cw.cond_dec rfl (fun hc => ?_) (fun hc => ?_) <;> try (exfalso; omega)) | refine Cw.cond_bool rfl (fun hc => ?_) (fun hc => ?_)) | (refine Ops.k_calla ?_; first | (refine Ops.k_callf 21 ?_; refine Ops.callV kC (Evs.cons rfl Evs.nil) rfl ?_)) | fail)
    refine Fin.ret (Ent.trans (Ent.nilsl 1 (s := 4) rfl) (Ent.take goTk)) (Outs.many rfl (OutL.cons goOe (OutL.cons goOe OutL.nil)) rfl) ⟨rfl, nil2 _⟩
  rw [if_neg h1] at he
  have h0 : walE w = 0 := by omega
  rw [h0] at kC
  clear h0 h1
  repeat' (first | refine goH ?_ | refine goV ?_ | refine goB (fun b => ?_) | refine goC (fun ad cap => ?_) | refine goI ?_ | (refine Cw.k_cond ?_; first | (refine Cw.cond_dec rfl (fun hc => ?_) (fun hc => ?_) <;> try (exfalso; omega)) | refine Cw.cond_bool rfl (fun hc => ?_) (fun hc => ?_)) | (refine Ops.k_calla ?_; first | (refine Ops.k_callf 21 ?_; refine Ops.callV kC (Evs.cons rfl Evs.nil) rfl ?_)) | fail)
  refine Cw.loopI [(2, _), (16, _), (17, _)] _ (fun q e cc => ∃ (k : Nat) (ad : Option Addr) (cap : Nat) (rows : List (List Tr)), q = s.length - k ∧ (k ≤ s.length ∧ rows.length = k ∧ rows = intRows ((s.take k).map (idxS w.sites)) ∧ ∀ j, j < k → ∀ x, s[j]? = some x → plB w x = false) ∧ e = [(7, Tr.raw (.slice ad rows.length cap)), (18, .int k)] ∧ cc = [Chunk.own ad cap 1 3 rows])
    ⟨_, _, _, Ent.trans (Ent.nil 1 3) (Ent.mkP goSub goPm), 0, none, 0, [], rfl, ⟨by omega, rfl, by simp [intRows], fun j h => absurd h (by omega)⟩, rfl, rfl⟩ ?_
  rintro _ _ _ ⟨k, ad, cap, rows, rfl, ⟨hk, hrl, hrows, hV⟩, rfl, rfl⟩
  by_cases hkl : k < s.length
  · obtain ⟨x, hx⟩ := at_lt hkl
    have hrow := strRows_at hx
    have kI := index_fn w.sites x (by omega)
    by_cases g : idxS w.sites x < 0
    · have hb : s.any (plB w) = true := List.any_eq_true.2 ⟨x, List.mem_of_getElem? hx, by unfold plB; exact decide_eq_true g⟩
      rw [if_pos hb] at he
      rw [plT_bad he (by decide)]
      clear hV hrows he hb
      generalize idxS w.sites x = i at *
      repeat' (first | refine goH ?_ | refine goV ?_ | refine goB (fun b => ?_) | refine goC (fun ad cap => ?_) | refine goI ?_ | (refine Cw.k_cond ?_; first | (refine Cw.cond_dec rfl (fun hc => ?_) (fun hc => ?_) <;> try (exfalso; omega)) | refine Cw.cond_bool rfl (fun hc => ?_) (fun hc => ?_)) | (refine Ops.k_calla ?_; first | (refine Ops.k_callf 58 ?_; refine Ops.callV kI (Evs.cons rfl (Evs.cons rfl Evs.nil)) rfl ?_)) | fail)
      refine Fin.ret (Ent.trans (Ent.nilsl 1 (s := 4) rfl) (Ent.take goTk)) (Outs.many rfl (OutL.cons goOe (OutL.cons goOe OutL.nil)) rfl) ⟨rfl, nil2 _⟩
    · have nx : ∀ j, j < k + 1 → ∀ y, s[j]? = some y → plB w y = false := by
        intro j hj y hy
        by_cases e : j = k
        · subst e
          rw [hx] at hy
          cases hy
          exact decide_eq_false g
        · exact hV j (by omega) y hy
      have hr2 := map_take (w := w) hx
      rw [← hrows] at hr2
      clear hV hrows he
      generalize idxS w.sites x = i at *
      repeat' (first | refine goH ?_ | refine goV ?_ | refine goB (fun b => ?_) | refine goC (fun ad cap => ?_) | refine goI ?_ | (refine Cw.k_cond ?_; first | (refine Cw.cond_dec rfl (fun hc => ?_) (fun hc => ?_) <;> try (exfalso; omega)) | refine Cw.cond_bool rfl (fun hc => ?_) (fun hc => ?_)) | (refine Ops.k_calla ?_; first | (refine Ops.k_callf 58 ?_; refine Ops.callV kI (Evs.cons rfl (Evs.cons rfl Evs.nil)) rfl ?_)) | fail)
      exact ⟨_, _, _, (Ent.mk goSub goTk), ⟨k + 1, _, _, rows ++ [[Tr.int i]], rfl, ⟨by omega, by simp [hrl], hr2, nx⟩, rfl, rfl⟩, by omega⟩
  · have hb : s.any (plB w) = false := by
      rw [List.any_eq_false]
      intro x hx
      obtain ⟨j, hj, rfl⟩ := List.getElem_of_mem hx
      rw [hV j (by omega) _ (List.getElem?_eq_getElem hj)]
      decide
    rw [hb, if_neg (by decide)] at he
    rw [plT_ok he]
    rw [List.take_of_length_le (by omega)] at hrows
    clear hV he
    subst hrows
    repeat' (first | refine goH ?_ | refine goV ?_ | refine goB (fun b => ?_) | refine goC (fun ad cap => ?_) | refine goI ?_ | (refine Cw.k_cond ?_; first | (refine Cw.cond_dec rfl (fun hc => ?_) (fun hc => ?_) <;> try (exfalso; omega)) | refine Cw.cond_bool rfl (fun hc => ?_) (fun hc => ?_)) | fail)
    refine Fin.ret (Ent.trans (Ent.settle (s := 4) rfl goPk rfl) (Ent.take goTk)) (Outs.many rfl (OutL.cons goOe (OutL.cons goOe OutL.nil)) rfl) ⟨rfl, rfl⟩
end Lg
end
section
set_option linter.all false
set_option maxRecDepth 100000
set_option maxHeartbeats 8000000
namespace Lg
open Go Go.Proofs

theorem places1_bad {w : Wal} (hw : WBd w) (h : walE w ≠ 0) (a : ByteArray) : PFn Tryd.prog 56 [.wal w, .sl 1 [[.str a]]] (· = .tup [.sl 1 [], .int (walE w)]) := by
  have h1 := places_fn w hw [a] (by simp)
  rw [plT_bad (w := w) (s := [a]) (e := walE w) (by unfold plE; rw [if_pos h]) h] at h1
  exact h1
theorem places1_none {w : Wal} (hw : WBd w) (h : walE w = 0) {a : ByteArray} (ha : idxS w.sites a < 0) : PFn Tryd.prog 56 [.wal w, .sl 1 [[.str a]]] (· = .tup [.sl 1 [], .int 8]) := by
  have h1 := places_fn w hw [a] (by simp)
  rw [plT_bad (w := w) (s := [a]) (e := 8) (by unfold plE; rw [if_neg (by omega), if_pos (by simp [plB, ha])]) (by decide)] at h1
  exact h1
theorem places1_ok {w : Wal} (hw : WBd w) (h : walE w = 0) {a : ByteArray} {i : Nat} (ha : idxS w.sites a = i) : PFn Tryd.prog 56 [.wal w, .sl 1 [[.str a]]] (· = .tup [.sl 1 [[.int i]], .int 0]) := by
  have h1 := places_fn w hw [a] (by simp)
  rw [plT_ok (w := w) (s := [a]) (by unfold plE; rw [if_neg (by omega), if_neg (by simp [plB, ha])])] at h1
  simp only [List.map_cons, List.map_nil, ha] at h1
  exact h1
theorem places2_bad {w : Wal} (hw : WBd w) (h : walE w ≠ 0) (a b : ByteArray) : PFn Tryd.prog 56 [.wal w, .sl 1 [[.str a], [.str b]]] (· = .tup [.sl 1 [], .int (walE w)]) := by
  have h1 := places_fn w hw [a, b] (by simp)
  rw [plT_bad (w := w) (s := [a, b]) (e := walE w) (by unfold plE; rw [if_pos h]) h] at h1
  exact h1
theorem places2_none {w : Wal} (hw : WBd w) (h : walE w = 0) {a b : ByteArray} (ha : idxS w.sites a < 0 ∨ idxS w.sites b < 0) : PFn Tryd.prog 56 [.wal w, .sl 1 [[.str a], [.str b]]] (· = .tup [.sl 1 [], .int 8]) := by
  have h1 := places_fn w hw [a, b] (by simp)
  rw [plT_bad (w := w) (s := [a, b]) (e := 8) (by unfold plE; rw [if_neg (by omega), if_pos (by simp [plB, ha])]) (by decide)] at h1
  exact h1
theorem places2_ok {w : Wal} (hw : WBd w) (h : walE w = 0) {a b : ByteArray} {i j : Nat} (ha : idxS w.sites a = i) (hb : idxS w.sites b = j) : PFn Tryd.prog 56 [.wal w, .sl 1 [[.str a], [.str b]]] (· = .tup [.sl 1 [[.int i], [.int j]], .int 0]) := by
  have h1 := places_fn w hw [a, b] (by simp)
  rw [plT_ok (w := w) (s := [a, b]) (by unfold plE; rw [if_neg (by omega), if_neg (by simp [plB, ha, hb])])] at h1
  simp only [List.map_cons, List.map_nil, ha, hb] at h1
  exact h1
/-- more and done together: what they leave -/
theorem more_done (adR adU : Option Addr) (n capR capU : Nat) (s : List ByteArray) (ad : Option Addr) (cap : Nat) (xs : List Int) (k : Nat) (x c : Int) (hx : xs[k]? = some x) (hn : 0 ≤ x ∧ x ≤ 1000000000) (hc : 1 ≤ c ∧ c ≤ 1000000000) :
    ∃ (e : Int) (ys : List Int) (r0 r1 r2 : Tr), Spec Tryd.prog 57 [Tr.eptr ad 1 k 0, .int c] [Chunk.own ad cap 1 3 (intRows xs)] (fun r cs => r = .int e ∧ cs = [Chunk.own ad cap 1 3 (intRows ys)]) ∧
      PFn Tryd.prog 39 [.agg [.strs s, Tr.raw (.slice adR n capR), Tr.raw (.slice adU n capU)], .int e] (· = .tup [.agg [r0, r1, r2], .int e]) ∧
      ((x + c > 1000000000 ∧ e = 12 ∧ ys = xs ∧ [r0, r1, r2] = List.map Tr.raw [.slice none 0 0, .slice none 0 0, .slice none 0 0]) ∨ (¬ x + c > 1000000000 ∧ e = 0 ∧ ys = xs.set k (x + c) ∧ [r0, r1, r2] = [.strs s, Tr.raw (.slice adR n capR), Tr.raw (.slice adU n capU)])) := by
  have h1 := more_fn ad cap xs k x c hx hn hc
  have one : ∀ (a : Option Addr) (c : Nat), OneT (Tr.raw (.slice a n c)) := fun a c => ⟨fun _ _ _ h => by rw [rd_raw h]; exact ⟨rfl, rfl⟩⟩
  by_cases h : x + c > 1000000000
  · have e2 : moreE x c = 12 := if_pos h
    have e3 : moreL xs k x c = xs := if_pos h
    rw [e2, e3] at h1
    have h2 := done_raw (.strs s) _ _ (one adR capR) (one adU capU) 12
    rw [if_neg (by decide)] at h2
    exact ⟨12, xs, _, _, _, h1, h2, .inl ⟨h, rfl, rfl, rfl⟩⟩
  · have e2 : moreE x c = 0 := if_neg h
    have e3 : moreL xs k x c = xs.set k (x + c) := if_neg h
    rw [e2, e3] at h1
    have h2 := done_raw (.strs s) _ _ (one adR capR) (one adU capU) 0
    rw [if_pos rfl] at h2
    exact ⟨0, _, _, _, _, h1, h2, .inr ⟨h, rfl, rfl, rfl⟩⟩
end Lg
end
section
set_option linter.all false
set_option maxRecDepth 100000
set_option maxHeartbeats 8000000
namespace Lg
open Go Go.Proofs

attribute [local irreducible] intRows intsR strRows valsW rowsW idxS rgt at2 set2
theorem spend_bad (w : Wal) (hw : WBd w) (h : walE w ≠ 0) (a : ByteArray) (c : Int) : PFn Tryd.prog 24 [.wal w, .str a, .int c] (· = .tup [.wal wNil, .int (walE w)]) := by
  have kP := places1_bad hw h a
  generalize walE w = e at *
  refine PFn.mk (Spec.body Tryd.func24 rfl rfl (Tryd.ntmps24) rfl fun w0 own0 M => ?_)
  repeat' (first | refine goH ?_ | refine goV ?_ | refine goB (fun b => ?_) | refine goI ?_ | (refine Cw.k_cond ?_; first | (refine Cw.cond_dec rfl (fun hc => ?_) (fun hc => ?_) <;> try (exfalso; omega)) | refine Cw.cond_bool rfl (fun hc => ?_) (fun hc => ?_)) | (refine Ops.k_calla ?_; first | (refine Ops.k_callf 56 ?_; refine Ops.callV kP (Evs.cons rfl (Evs.cons rfl Evs.nil)) rfl ?_)) | (apply OpW.k_call; first | (apply OpW.k_callf 56; exact OpW.callV kP (Evs.cons rfl (Evs.cons rfl Evs.nil)))) | refine goR ?_ | refine goP ?_ | apply PSeq.cons | apply PSeq.yes rfl rfl rfl | exact goW | fail)
  refine Fin.ret (Ent.trans (Ent.imp_box goPk impW0) (Ent.trans (Ent.setbox (s := 6) rfl goPk) (Ent.take goTk))) (Outs.many rfl (OutL.cons goOe (OutL.cons goOe OutL.nil)) rfl) ⟨rfl, rfl⟩
theorem spend_ok (w : Wal) (h0 : walE w = 0) (a : ByteArray) (c : Int) : PFn Tryd.prog 24 [.wal w, .str a, .int c] (· = resW (spW w a c) (spE w a c)) := by
  have h := wok_E h0
  have n12 := h.n1
  have kO := owned_fn w h.bd
  have kX := out_fn c 1 1000000000
  have hcs := idxS_cases w.sites a
  have he : spE w a c = if idxS w.sites a < 0 then 8 else if c < 1 ∨ 1000000000 < c then 1 else if rgt w (idxS w.sites a).toNat < c then 16 else if w.used.getD (idxS w.sites a).toNat 0 + c > 1000000000 then 12 else 0 := rfl
  have hW : spW w a c = ⟨w.sites, w.rights, w.used.set (idxS w.sites a).toNat (w.used.getD (idxS w.sites a).toNat 0 + c)⟩ := rfl
  have kP0 := places1_none (a := a) h.bd h0
  have kP1 : ∀ i : Nat, idxS w.sites a = i → _ := fun i hi => places1_ok (a := a) h.bd h0 hi
  generalize idxS w.sites a = i at *
  generalize spW w a c = W at *
  generalize spE w a c = E at *
  refine PFn.mk (Spec.body Tryd.func24 rfl rfl (Tryd.ntmps24) rfl fun w0 own0 M => ?_)
  rcases hcs with rfl | ⟨k, rfl, _, hk⟩
  · rw [if_pos (by omega)] at he
    subst he
    rw [resW_bad (by decide)]
    have kP := kP0 (by omega)
    clear kP0 kP1
    repeat' (first | refine goH ?_ | refine goV ?_ | refine goB (fun b => ?_) | refine goI ?_ | (refine Cw.k_cond ?_; first | (refine Cw.cond_dec rfl (fun hc => ?_) (fun hc => ?_) <;> try (exfalso; omega)) | refine Cw.cond_bool rfl (fun hc => ?_) (fun hc => ?_)) | (refine Ops.k_calla ?_; first | (refine Ops.k_callf 56 ?_; refine Ops.callV kP (Evs.cons rfl (Evs.cons rfl Evs.nil)) rfl ?_)) | (apply OpW.k_call; first | (apply OpW.k_callf 56; exact OpW.callV kP (Evs.cons rfl (Evs.cons rfl Evs.nil)))) | refine goR ?_ | refine goP ?_ | apply PSeq.cons | apply PSeq.yes rfl rfl rfl | exact goW | fail)
    refine Fin.ret (Ent.trans (Ent.imp_box goPk impW0) (Ent.trans (Ent.setbox (s := 6) rfl goPk) (Ent.take goTk))) (Outs.many rfl (OutL.cons goOe (OutL.cons goOe OutL.nil)) rfl) ⟨rfl, rfl⟩
  rw [if_neg (by omega)] at he
  rw [Int.toNat_natCast] at he hW
  have kP := kP1 k rfl
  clear kP0 kP1
  have kR := rightsD_fn w h k hk
  obtain ⟨y, hy, hyd, hy1, hy2⟩ := h.us hk
  rw [hyd] at he hW
  have hUl := (intRows_len w.used).trans h.u
  by_cases q2 : c < 1 ∨ 1000000000 < c
  · rw [if_pos q2] at he
    subst he
    rw [resW_bad (by decide)]
    have hX : outB c 1 1000000000 = true := decide_eq_true q2
    rw [hX] at kX
    repeat' (first | refine goH ?_ | refine goV ?_ | refine goB (fun b => ?_) | refine goI ?_ | (refine Cw.k_cond ?_; first | (refine Cw.cond_dec rfl (fun hc => ?_) (fun hc => ?_) <;> try (exfalso; omega)) | refine Cw.cond_bool rfl (fun hc => ?_) (fun hc => ?_)) | (refine Ops.k_calla ?_; first | refine Ops.callV kP (Evs.cons rfl (Evs.cons rfl Evs.nil)) rfl ?_ | (refine Ops.k_callf 54 ?_; refine Ops.callV kX (Evs.cons rfl (Evs.cons rfl (Evs.cons rfl Evs.nil))) rfl ?_)) | (apply OpW.k_call; first | exact OpW.callV kP (Evs.cons rfl (Evs.cons rfl Evs.nil)) | (apply OpW.k_callf 54; exact OpW.callV kX (Evs.cons rfl (Evs.cons rfl (Evs.cons rfl Evs.nil))))) | refine goR ?_ | refine goP ?_ | apply PSeq.cons | apply PSeq.yes rfl rfl rfl | exact goW | fail)
    all_goals refine Fin.ret (Ent.trans (Ent.imp_box goPk impW0) (Ent.trans (Ent.setbox (s := 6) rfl goPk) (Ent.take goTk))) (Outs.many rfl (OutL.cons goOe (OutL.cons goOe OutL.nil)) rfl) ⟨rfl, rfl⟩
  rw [if_neg q2] at he
  have q2' : 1 ≤ c ∧ c ≤ 1000000000 := by omega
  have hX : outB c 1 1000000000 = false := decide_eq_false q2
  rw [hX] at kX
  clear q2 hX
  by_cases q3 : rgt w k < c
  · rw [if_pos q3] at he
    subst he
    rw [resW_bad (by decide)]
    repeat' (first | refine goH ?_ | refine goV ?_ | refine goB (fun b => ?_) | refine goI ?_ | (refine Cw.k_cond ?_; first | (refine Cw.cond_dec rfl (fun hc => ?_) (fun hc => ?_) <;> try (exfalso; omega)) | refine Cw.cond_bool rfl (fun hc => ?_) (fun hc => ?_)) | (refine Ops.k_calla ?_; first | refine Ops.callV kP (Evs.cons rfl (Evs.cons rfl Evs.nil)) rfl ?_ | (refine Ops.k_callf 55 ?_; refine Ops.callV kR (Evs.cons rfl (Evs.cons rfl Evs.nil)) rfl ?_) | (refine Ops.k_callf 54 ?_; refine Ops.callV kX (Evs.cons rfl (Evs.cons rfl (Evs.cons rfl Evs.nil))) rfl ?_)) | (apply OpW.k_call; first | exact OpW.callV kP (Evs.cons rfl (Evs.cons rfl Evs.nil)) | (apply OpW.k_callf 55; exact OpW.callV kR (Evs.cons rfl (Evs.cons rfl Evs.nil))) | (apply OpW.k_callf 54; exact OpW.callV kX (Evs.cons rfl (Evs.cons rfl (Evs.cons rfl Evs.nil))))) | refine goR ?_ | refine goP ?_ | apply PSeq.cons | apply PSeq.yes rfl rfl rfl | exact goW | fail)
    all_goals refine Fin.ret (Ent.trans (Ent.imp_box goPk impW0) (Ent.trans (Ent.setbox (s := 6) rfl goPk) (Ent.take goTk))) (Outs.many rfl (OutL.cons goOe (OutL.cons goOe OutL.nil)) rfl) ⟨rfl, rfl⟩
  rw [if_neg q3] at he
  repeat' (first | refine goH ?_ | refine goV ?_ | refine goB (fun b => ?_) | refine goI ?_ | (refine Cw.k_cond ?_; first | (refine Cw.cond_dec rfl (fun hc => ?_) (fun hc => ?_) <;> try (exfalso; omega)) | refine Cw.cond_bool rfl (fun hc => ?_) (fun hc => ?_)) | (refine Ops.k_calla ?_; first | refine Ops.callV kP (Evs.cons rfl (Evs.cons rfl Evs.nil)) rfl ?_ | (refine Ops.k_callf 55 ?_; refine Ops.callV kR (Evs.cons rfl (Evs.cons rfl Evs.nil)) rfl ?_) | (refine Ops.k_callf 54 ?_; refine Ops.callV kX (Evs.cons rfl (Evs.cons rfl (Evs.cons rfl Evs.nil))) rfl ?_)) | (apply OpW.k_call; first | exact OpW.callV kP (Evs.cons rfl (Evs.cons rfl Evs.nil)) | (apply OpW.k_callf 55; exact OpW.callV kR (Evs.cons rfl (Evs.cons rfl Evs.nil))) | (apply OpW.k_callf 54; exact OpW.callV kX (Evs.cons rfl (Evs.cons rfl (Evs.cons rfl Evs.nil))))) | refine goR ?_ | refine goP ?_ | apply PSeq.cons | apply PSeq.yes rfl rfl rfl | exact goW | fail)
  refine Ops.k_calla ?_
  refine Ops.call kO (Evs.cons rfl Evs.nil) goPm rfl ?_
  rintro r cs' ⟨adR, capR, L, adU, capU, rfl, hv, rfl⟩
  have hLl : (rowsW L).length = w.sites.length := (by rw [rowsW_len, ← valsW_len, hv]; exact h.r)
  rw [walV_n hLl hUl]
  obtain ⟨e, ys, r0, r1, r2, hM, hD, hcase⟩ := more_done adR adU w.sites.length capR capU w.sites adU capU w.used k y c hy ⟨hy1, hy2⟩ q2'
  repeat' (first | refine goH ?_ | refine goV ?_ | refine goB (fun b => ?_) | refine goI ?_ | (refine Cw.k_cond ?_; first | (refine Cw.cond_dec rfl (fun hc => ?_) (fun hc => ?_) <;> try (exfalso; omega)) | refine Cw.cond_bool rfl (fun hc => ?_) (fun hc => ?_)) | fail)
  rename_i b3
  first | refine Cw.region_YP (fun ξ S => Chunk.box b3 31 [.strs w.sites, Tr.raw (.slice adR w.sites.length capR), Tr.raw (.slice adU w.sites.length capU)] :: Chunk.box b 31 (stg (S 12) [Tr.raw (.slice none 0 0), Tr.raw (.slice none 0 0), Tr.raw (.slice none 0 0)] [r0, r1, r2]) :: Chunk.own adU capU 1 3 (stg (S 8) (intRows w.used) (intRows ys)) :: Chunk.own adR capR 1 22 (rowsW L) :: Chunk.bun (ownsW 3 L) :: []) rfl (by decide +kernel) rfl ((fun (ξ : Nat → Value) (S : Nat → Bool) => Chunk.box b3 31 [.strs w.sites, Tr.raw (.slice adR w.sites.length capR), Tr.raw (.slice adU w.sites.length capU)] :: Chunk.box b 31 (stg (S 12) [Tr.raw (.slice none 0 0), Tr.raw (.slice none 0 0), Tr.raw (.slice none 0 0)] [r0, r1, r2]) :: Chunk.own adU capU 1 3 (stg (S 8) (intRows w.used) (intRows ys)) :: Chunk.own adR capR 1 22 (rowsW L) :: Chunk.bun (ownsW 3 L) :: []) (fun _ => undef) (fun _ => false)) (by simp only [upd_same, updD_same, upd_ne, updD_ne, ne_eq, Nat.reduceEqDiff, not_false_eq_true, stg_t, stg_f, vAd_s, vCap_s, blk_p, List.cons_append, List.nil_append, b2n_t, b2n_f]; exact goXm) (fun _ => rfl) ?_ | fail
  apply YSeq.w (by intro _ _ _; rfl)
  · intro ξ S h1 h2 h3 h4
    have hN0_12 := closed_false h1 h3 (k := 12) rfl (by decide)
    try simp only [upd_same, updD_same, upd_ne, updD_ne, ne_eq, Nat.reduceEqDiff, not_false_eq_true, stg_t, stg_f, vAd_s, vCap_s, blk_p, List.cons_append, List.nil_append, b2n_t, b2n_f, hN0_12]
    exact goW
  · intro ξ v; rfl
  · intro ξ k v S h3 hn hk
    first
    | rfl
  apply YSeq.w (by intro _ _ _; rfl)
  · intro ξ S h1 h2 h3 h4
    have hN1_2 := closed_false h1 h3 (k := 2) rfl (by decide)
    have hN1_6 := closed_false hN1_2 h3 (k := 6) rfl (by decide)
    have hN1_8 := closed_false hN1_6 h3 (k := 8) rfl (by decide)
    have hN1_12 := closed_false h1 h3 (k := 12) rfl (by decide)
    try simp only [upd_same, updD_same, upd_ne, updD_ne, ne_eq, Nat.reduceEqDiff, not_false_eq_true, stg_t, stg_f, vAd_s, vCap_s, blk_p, List.cons_append, List.nil_append, b2n_t, b2n_f, hN1_8, hN1_12]
    exact goW
  · intro ξ v; rfl
  · intro ξ k v S h3 hn hk
    first
    | rfl
  apply YSeq.w (by intro _ _ _; rfl)
  · intro ξ S h1 h2 h3 h4
    have hN2_6 := closed_false h1 h3 (k := 6) rfl (by decide)
    have hN2_8 := closed_false hN2_6 h3 (k := 8) rfl (by decide)
    have hN2_12 := closed_false h1 h3 (k := 12) rfl (by decide)
    try simp only [upd_same, updD_same, upd_ne, updD_ne, ne_eq, Nat.reduceEqDiff, not_false_eq_true, stg_t, stg_f, vAd_s, vCap_s, blk_p, List.cons_append, List.nil_append, b2n_t, b2n_f, hN2_8, hN2_12]
    exact goW
  · intro ξ v; rfl
  · intro ξ k v S h3 hn hk
    first
    | rfl
  apply YSeq.w (by intro _ _ _; rfl)
  · intro ξ S h1 h2 h3 h4
    have hN3_4 := closed_false h1 h3 (k := 4) rfl (by decide)
    have hN3_5 := closed_false hN3_4 h3 (k := 5) rfl (by decide)
    have hN3_6 := closed_false hN3_5 h3 (k := 6) rfl (by decide)
    have hN3_8 := closed_false hN3_6 h3 (k := 8) rfl (by decide)
    have hN3_12 := closed_false h1 h3 (k := 12) rfl (by decide)
    try simp only [upd_same, updD_same, upd_ne, updD_ne, ne_eq, Nat.reduceEqDiff, not_false_eq_true, stg_t, stg_f, vAd_s, vCap_s, blk_p, List.cons_append, List.nil_append, b2n_t, b2n_f, hN3_8, hN3_12]
    exact goW
  · intro ξ v; rfl
  · intro ξ k v S h3 hn hk
    first
    | rfl
  apply YSeq.w (by intro _ _ _; rfl)
  · intro ξ S h1 h2 h3 h4
    have hN4_5 := closed_false h1 h3 (k := 5) rfl (by decide)
    have hN4_6 := closed_false hN4_5 h3 (k := 6) rfl (by decide)
    have hN4_8 := closed_false hN4_6 h3 (k := 8) rfl (by decide)
    have hN4_12 := closed_false h1 h3 (k := 12) rfl (by decide)
    try simp only [upd_same, updD_same, upd_ne, updD_ne, ne_eq, Nat.reduceEqDiff, not_false_eq_true, stg_t, stg_f, vAd_s, vCap_s, blk_p, List.cons_append, List.nil_append, b2n_t, b2n_f, hN4_8, hN4_12]
    exact goW
  · intro ξ v; rfl
  · intro ξ k v S h3 hn hk
    first
    | rfl
  apply YSeq.w (by intro _ _ _; rfl)
  · intro ξ S h1 h2 h3 h4
    have hN5_6 := closed_false h1 h3 (k := 6) rfl (by decide)
    have hN5_8 := closed_false hN5_6 h3 (k := 8) rfl (by decide)
    have hN5_12 := closed_false h1 h3 (k := 12) rfl (by decide)
    try simp only [upd_same, updD_same, upd_ne, updD_ne, ne_eq, Nat.reduceEqDiff, not_false_eq_true, stg_t, stg_f, vAd_s, vCap_s, blk_p, List.cons_append, List.nil_append, b2n_t, b2n_f, hN5_8, hN5_12]
    exact goW
  · intro ξ v; rfl
  · intro ξ k v S h3 hn hk
    first
    | rfl
  apply YSeq.w (by intro _ _ _; rfl)
  · intro ξ S h1 h2 h3 h4
    have hN6_8 := closed_false h1 h3 (k := 8) rfl (by decide)
    have hN6_12 := closed_false h1 h3 (k := 12) rfl (by decide)
    try simp only [upd_same, updD_same, upd_ne, updD_ne, ne_eq, Nat.reduceEqDiff, not_false_eq_true, stg_t, stg_f, vAd_s, vCap_s, blk_p, List.cons_append, List.nil_append, b2n_t, b2n_f, hN6_8, hN6_12]
    exact goW
  · intro ξ v; rfl
  · intro ξ k v S h3 hn hk
    first
    | rfl
  apply YSeq.w (by intro _ _ _; rfl)
  · intro ξ S h1 h2 h3 h4
    have hN7_8 := closed_false h1 h3 (k := 8) rfl (by decide)
    have hN7_12 := closed_false h1 h3 (k := 12) rfl (by decide)
    try simp only [upd_same, updD_same, upd_ne, updD_ne, ne_eq, Nat.reduceEqDiff, not_false_eq_true, stg_t, stg_f, vAd_s, vCap_s, blk_p, List.cons_append, List.nil_append, b2n_t, b2n_f, hN7_8, hN7_12]
    exact goW
  · intro ξ v; rfl
  · intro ξ k v S h3 hn hk
    first
    | rfl
  apply YSeq.callC
  · intro ξ S h1 h2 h3 h4
    have hN8_12 := closed_false h1 h3 (k := 12) rfl (by decide)
    try simp only [upd_same, updD_same, upd_ne, updD_ne, ne_eq, Nat.reduceEqDiff, not_false_eq_true, stg_t, stg_f, vAd_s, vCap_s, blk_p, List.cons_append, List.nil_append, b2n_t, b2n_f, h1, hN8_12]
    exact ⟨_, _, _, _, hM, (Evs.cons rfl (Evs.cons rfl Evs.nil)), goXp, fun v => (by first | exact goXp | (simp only [upd_same, updD_same, upd_ne, updD_ne, ne_eq, Nat.reduceEqDiff, not_false_eq_true, stg_t, stg_f, vAd_s, vCap_s, blk_p, List.cons_append, List.nil_append, b2n_t, b2n_f]; exact goXp))⟩
  · intro ξ v; rfl
  · intro ξ k v S h3 hn hk
    first
    | rfl
  apply YSeq.callV (by intro _ _ _; rfl)
  · intro ξ S h1 h2 h3 h4
    have hY9_8 : S 8 = true := h2 8 (by decide)
    have hN9_12 := closed_false h1 h3 (k := 12) rfl (by decide)
    try simp only [upd_same, updD_same, upd_ne, updD_ne, ne_eq, Nat.reduceEqDiff, not_false_eq_true, stg_t, stg_f, vAd_s, vCap_s, blk_p, List.cons_append, List.nil_append, b2n_t, b2n_f, hY9_8, hN9_12]
    exact ⟨_, (Evs.cons rfl (Evs.cons rfl Evs.nil)), hD⟩
  · intro ξ v; rfl
  · intro ξ k v S h3 hn hk
    first
    | rfl
  apply YSeq.w (by intro _ _ _; rfl)
  · intro ξ S h1 h2 h3 h4
    have hY10_9 : S 9 = true := h2 9 (by decide)
    have hY10_8 : S 8 = true := h3 9 _ rfl hY10_9 8 (by decide)
    have hN10_12 := closed_false h1 h3 (k := 12) rfl (by decide)
    try simp only [upd_same, updD_same, upd_ne, updD_ne, ne_eq, Nat.reduceEqDiff, not_false_eq_true, stg_t, stg_f, vAd_s, vCap_s, blk_p, List.cons_append, List.nil_append, b2n_t, b2n_f, hY10_8, hN10_12]
    exact goW
  · intro ξ v; rfl
  · intro ξ k v S h3 hn hk
    first
    | rfl
  apply YSeq.w (by intro _ _ _; rfl)
  · intro ξ S h1 h2 h3 h4
    have hY11_9 : S 9 = true := h2 9 (by decide)
    have hY11_8 : S 8 = true := h3 9 _ rfl hY11_9 8 (by decide)
    have hN11_12 := closed_false h1 h3 (k := 12) rfl (by decide)
    try simp only [upd_same, updD_same, upd_ne, updD_ne, ne_eq, Nat.reduceEqDiff, not_false_eq_true, stg_t, stg_f, vAd_s, vCap_s, blk_p, List.cons_append, List.nil_append, b2n_t, b2n_f, hY11_8, hN11_12]
    exact goW
  · intro ξ v; rfl
  · intro ξ k v S h3 hn hk
    first
    | rfl
  apply YSeq.store
  · intro ξ S h1 h2 h3 h4
    have hY12_8 : S 8 = true := h2 8 (by decide)
    simp only [upd_same, updD_same, upd_ne, updD_ne, ne_eq, Nat.reduceEqDiff, not_false_eq_true, stg_t, stg_f, vAd_s, vCap_s, blk_p, List.cons_append, List.nil_append, b2n_t, b2n_f, hY12_8, h1]
    refine ⟨_, _, _, _, _, _, _, rfl, rfl, inferInstance, goXp, rfl, Nat.le_of_ble_eq_true rfl, ?_⟩
    exact goXm
  apply YSeq.w (by intro _ _ _; rfl)
  · intro ξ S h1 h2 h3 h4
    have hY13_8 : S 8 = true := h2 8 (by decide)
    have hY13_12 : S 12 = true := h2 12 (by decide)
    try simp only [upd_same, updD_same, upd_ne, updD_ne, ne_eq, Nat.reduceEqDiff, not_false_eq_true, stg_t, stg_f, vAd_s, vCap_s, blk_p, List.cons_append, List.nil_append, b2n_t, b2n_f, hY13_8, hY13_12]
    exact goW
  · intro ξ v; rfl
  · intro ξ k v S h3 hn hk
    first
    | rfl
  refine YSeq.nil fun ξ hf => ?_
  refine ⟨[(6, _), (7, _)], _, Ent.trans (Ent.eqc rfl (by simp only [upd_same, updD_same, upd_ne, updD_ne, ne_eq, Nat.reduceEqDiff, not_false_eq_true, stg_t, stg_f, vAd_s, vCap_s, blk_p, List.cons_append, List.nil_append, b2n_t, b2n_f, ownV, slV, ptV] <;> rfl)) (Ent.sub goSub), ?_⟩
  clear hf
  rcases hcase with ⟨q4, rfl, rfl, q5⟩ | ⟨q4, rfl, rfl, q5⟩
  · rw [if_pos q4] at he
    subst he
    rw [resW_bad (by decide), q5]
    repeat' (first | refine goH ?_ | refine goV ?_ | refine goB (fun b => ?_) | refine goI ?_ | (refine Cw.k_cond ?_; first | (refine Cw.cond_dec rfl (fun hc => ?_) (fun hc => ?_) <;> try (exfalso; omega)) | refine Cw.cond_bool rfl (fun hc => ?_) (fun hc => ?_)) | refine goR ?_ | refine goP ?_ | apply PSeq.cons | apply PSeq.yes rfl rfl rfl | exact goW | fail)
    refine Fin.ret (Ent.trans (Ent.imp_box goPk impW0) (Ent.trans (Ent.setbox (s := 6) rfl goPk) (Ent.take goTk))) (Outs.many rfl (OutL.cons goOe (OutL.cons goOe OutL.nil)) rfl) ⟨rfl, rfl⟩
  · rw [if_neg q4] at he
    subst he
    rw [resW_ok rfl, q5]
    have hUs : (intRows (w.used.set k (y + c))).length = w.sites.length := by rw [intRows_len, List.length_set]; exact h.u
    repeat' (first | refine goH ?_ | refine goV ?_ | refine goB (fun b => ?_) | refine goI ?_ | (refine Cw.k_cond ?_; first | (refine Cw.cond_dec rfl (fun hc => ?_) (fun hc => ?_) <;> try (exfalso; omega)) | refine Cw.cond_bool rfl (fun hc => ?_) (fun hc => ?_)) | refine goR ?_ | refine goP ?_ | apply PSeq.cons | apply PSeq.yes rfl rfl rfl | exact goW | fail)
    refine Fin.ret (Ent.trans (Ent.settle_wal (b := b) (by exact Perm.cons' goPk (Perm.cons' goPk (Perm.cons' goPk (Perm.cons' goPk (List.Perm.refl _))))) hLl hUs) (Ent.trans (Ent.setbox (s := 6) rfl goPk) (Ent.take goTk))) (Outs.many rfl (OutL.cons goOe (OutL.cons goOe OutL.nil)) rfl) ⟨rfl, ?_⟩
    rw [hW, hv]
end Lg
end
section
set_option linter.all false
set_option maxRecDepth 100000
set_option maxHeartbeats 8000000
namespace Lg
open Go Go.Proofs

theorem pullW {w : Wal} (h : WOk w) {i : Nat} {l : List Int} (e1 : w.rights[i]? = some l) {L : List IL} (hv : valsW L = w.rights) : ∃ p, L[i]? = some p ∧ p.xs = l ∧ (rowsW L)[i]? = some [Tr.raw (.slice p.ad w.sites.length p.cap)] := by
  have e := congrArg (fun l => l[i]?) hv
  simp only [e1] at e
  unfold valsW at e
  rw [List.getElem?_map] at e
  cases hp : L[i]? with
  | none => rw [hp] at e; cases e
  | some p =>
    rw [hp] at e
    have e7 : p.xs = l := Option.some.inj e
    refine ⟨p, rfl, e7, ?_⟩
    rw [rowsW_get hp]
    unfold IL.val
    rw [e7, intRows_len, h.rr l (List.mem_of_getElem? e1)]
attribute [local irreducible] intRows intsR strRows valsW rowsW idxS rgt at2 set2
theorem credit_bad (w : Wal) (hw : WBd w) (h : walE w ≠ 0) (a : ByteArray) (c : Int) : PFn Tryd.prog 22 [.wal w, .str a, .int c] (· = .tup [.wal wNil, .int (walE w)]) := by
  have kP := places1_bad hw h a
  generalize walE w = e at *
  refine PFn.mk (Spec.body Tryd.func22 rfl rfl (Tryd.ntmps22) rfl fun w0 own0 M => ?_)
  repeat' (first | refine goH ?_ | refine goV ?_ | refine goB (fun b => ?_) | refine goI ?_ | (refine Cw.k_cond ?_; first | (refine Cw.cond_dec rfl (fun hc => ?_) (fun hc => ?_) <;> try (exfalso; omega)) | refine Cw.cond_bool rfl (fun hc => ?_) (fun hc => ?_)) | (refine Ops.k_calla ?_; first | (refine Ops.k_callf 56 ?_; refine Ops.callV kP (Evs.cons rfl (Evs.cons rfl Evs.nil)) rfl ?_)) | (apply OpW.k_call; first | (apply OpW.k_callf 56; exact OpW.callV kP (Evs.cons rfl (Evs.cons rfl Evs.nil)))) | refine goR ?_ | refine goP ?_ | apply PSeq.cons | apply PSeq.yes rfl rfl rfl | exact goW | fail)
  refine Fin.ret (Ent.trans (Ent.imp_box goPk impW0) (Ent.trans (Ent.setbox (s := 6) rfl goPk) (Ent.take goTk))) (Outs.many rfl (OutL.cons goOe (OutL.cons goOe OutL.nil)) rfl) ⟨rfl, rfl⟩
theorem give_bad (w : Wal) (hw : WBd w) (h : walE w ≠ 0) (a b : ByteArray) (c : Int) : PFn Tryd.prog 23 [.wal w, .str a, .str b, .int c] (· = .tup [.wal wNil, .int (walE w)]) := by
  have kP := places2_bad hw h a b
  generalize walE w = e at *
  refine PFn.mk (Spec.body Tryd.func23 rfl rfl (Tryd.ntmps23) rfl fun w0 own0 M => ?_)
  repeat' (first | refine goH ?_ | refine goV ?_ | refine goB (fun b => ?_) | refine goI ?_ | (refine Cw.k_cond ?_; first | (refine Cw.cond_dec rfl (fun hc => ?_) (fun hc => ?_) <;> try (exfalso; omega)) | refine Cw.cond_bool rfl (fun hc => ?_) (fun hc => ?_)) | (refine Ops.k_calla ?_; first | (refine Ops.k_callf 56 ?_; refine Ops.callV kP (Evs.cons rfl (Evs.cons rfl Evs.nil)) rfl ?_)) | (apply OpW.k_call; first | (apply OpW.k_callf 56; exact OpW.callV kP (Evs.cons rfl (Evs.cons rfl Evs.nil)))) | refine goR ?_ | refine goP ?_ | apply PSeq.cons | apply PSeq.yes rfl rfl rfl | exact goW | fail)
  refine Fin.ret (Ent.trans (Ent.imp_box goPk impW0) (Ent.trans (Ent.setbox (s := 8) rfl goPk) (Ent.take goTk))) (Outs.many rfl (OutL.cons goOe (OutL.cons goOe OutL.nil)) rfl) ⟨rfl, rfl⟩
theorem credit_ok (w : Wal) (h0 : walE w = 0) (a : ByteArray) (c : Int) : PFn Tryd.prog 22 [.wal w, .str a, .int c] (· = resW (gvW w a a c) (gvE w a a c true)) := by
  have h := wok_E h0
  have n12 := h.n1
  have kO := owned_fn w h.bd
  have kX := out_fn c 1 1000000000
  have hcs := idxS_cases w.sites a
  have he : gvE w a a c true = if idxS w.sites a < 0 ∨ idxS w.sites a < 0 then 8 else if true = false ∧ idxS w.sites a = idxS w.sites a then 6 else if c < 1 ∨ 1000000000 < c then 1
    else if true = false ∧ rgt w (idxS w.sites a).toNat < c then 16 else if at2 w.rights (idxS w.sites a).toNat (idxS w.sites a).toNat + c > 1000000000 then 12 else 0 := rfl
  have hW : gvW w a a c = ⟨w.sites, set2 w.rights (idxS w.sites a).toNat (idxS w.sites a).toNat (at2 w.rights (idxS w.sites a).toNat (idxS w.sites a).toNat + c), w.used⟩ := rfl
  have kP0 := places1_none (a := a) h.bd h0
  have kP1 : ∀ i : Nat, idxS w.sites a = i → _ := fun i hi => places1_ok (a := a) h.bd h0 hi
  generalize idxS w.sites a = i at *
  generalize gvW w a a c = W at *
  generalize gvE w a a c true = E at *
  refine PFn.mk (Spec.body Tryd.func22 rfl rfl (Tryd.ntmps22) rfl fun w0 own0 M => ?_)
  rcases hcs with rfl | ⟨i, rfl, _, hi⟩
  · rw [if_pos (by omega)] at he
    subst he
    rw [resW_bad (by decide)]
    have kP := kP0 (by omega)
    clear kP0 kP1
    repeat' (first | refine goH ?_ | refine goV ?_ | refine goB (fun b => ?_) | refine goI ?_ | (refine Cw.k_cond ?_; first | (refine Cw.cond_dec rfl (fun hc => ?_) (fun hc => ?_) <;> try (exfalso; omega)) | refine Cw.cond_bool rfl (fun hc => ?_) (fun hc => ?_)) | (refine Ops.k_calla ?_; first | (refine Ops.k_callf 56 ?_; refine Ops.callV kP (Evs.cons rfl (Evs.cons rfl Evs.nil)) rfl ?_)) | (apply OpW.k_call; first | (apply OpW.k_callf 56; exact OpW.callV kP (Evs.cons rfl (Evs.cons rfl Evs.nil)))) | refine goR ?_ | refine goP ?_ | apply PSeq.cons | apply PSeq.yes rfl rfl rfl | exact goW | fail)
    refine Fin.ret (Ent.trans (Ent.imp_box goPk impW0) (Ent.trans (Ent.setbox (s := 6) rfl goPk) (Ent.take goTk))) (Outs.many rfl (OutL.cons goOe (OutL.cons goOe OutL.nil)) rfl) ⟨rfl, rfl⟩
  rw [if_neg (by omega), if_neg (by simp)] at he
  rw [Int.toNat_natCast] at he hW
  have kP := kP1 i rfl
  clear kP0 kP1
  obtain ⟨l, x, e1, e2, e3, b1, b2⟩ := h.at2 hi hi
  rw [e3] at he hW
  have hl2 : Unit → l.length = w.sites.length := fun _ => h.rr l (List.mem_of_getElem? e1)
  have hlr := (intRows_len l).trans (hl2 ())
  have hUl := (intRows_len w.used).trans h.u
  by_cases q2 : c < 1 ∨ 1000000000 < c
  · rw [if_pos q2] at he
    subst he
    rw [resW_bad (by decide)]
    have hX : outB c 1 1000000000 = true := decide_eq_true q2
    rw [hX] at kX
    repeat' (first | refine goH ?_ | refine goV ?_ | refine goB (fun b => ?_) | refine goI ?_ | (refine Cw.k_cond ?_; first | (refine Cw.cond_dec rfl (fun hc => ?_) (fun hc => ?_) <;> try (exfalso; omega)) | refine Cw.cond_bool rfl (fun hc => ?_) (fun hc => ?_)) | (refine Ops.k_calla ?_; first | refine Ops.callV kP (Evs.cons rfl (Evs.cons rfl Evs.nil)) rfl ?_ | (refine Ops.k_callf 54 ?_; refine Ops.callV kX (Evs.cons rfl (Evs.cons rfl (Evs.cons rfl Evs.nil))) rfl ?_)) | (apply OpW.k_call; first | exact OpW.callV kP (Evs.cons rfl (Evs.cons rfl Evs.nil)) | (apply OpW.k_callf 54; exact OpW.callV kX (Evs.cons rfl (Evs.cons rfl (Evs.cons rfl Evs.nil))))) | refine goR ?_ | refine goP ?_ | apply PSeq.cons | apply PSeq.yes rfl rfl rfl | exact goW | fail)
    all_goals refine Fin.ret (Ent.trans (Ent.imp_box goPk impW0) (Ent.trans (Ent.setbox (s := 6) rfl goPk) (Ent.take goTk))) (Outs.many rfl (OutL.cons goOe (OutL.cons goOe OutL.nil)) rfl) ⟨rfl, rfl⟩
  rw [if_neg q2, if_neg (by simp)] at he
  have q2' : 1 ≤ c ∧ c ≤ 1000000000 := by omega
  have hX : outB c 1 1000000000 = false := decide_eq_false q2
  rw [hX] at kX
  clear q2 hX
  have hs2 : ∀ v, set2 w.rights i i v = w.rights.set i (l.set i v) := by intro v; unfold set2; rw [List.getD_eq_getElem?_getD, e1, Option.getD_some]
  repeat' (first | refine goH ?_ | refine goV ?_ | refine goB (fun b => ?_) | refine goI ?_ | (refine Cw.k_cond ?_; first | (refine Cw.cond_dec rfl (fun hc => ?_) (fun hc => ?_) <;> try (exfalso; omega)) | refine Cw.cond_bool rfl (fun hc => ?_) (fun hc => ?_)) | (refine Ops.k_calla ?_; first | refine Ops.callV kP (Evs.cons rfl (Evs.cons rfl Evs.nil)) rfl ?_ | (refine Ops.k_callf 54 ?_; refine Ops.callV kX (Evs.cons rfl (Evs.cons rfl (Evs.cons rfl Evs.nil))) rfl ?_)) | (apply OpW.k_call; first | exact OpW.callV kP (Evs.cons rfl (Evs.cons rfl Evs.nil)) | (apply OpW.k_callf 54; exact OpW.callV kX (Evs.cons rfl (Evs.cons rfl (Evs.cons rfl Evs.nil))))) | refine goR ?_ | refine goP ?_ | apply PSeq.cons | apply PSeq.yes rfl rfl rfl | exact goW | fail)
  refine Ops.k_calla ?_
  refine Ops.call kO (Evs.cons rfl Evs.nil) goPm rfl ?_
  rintro r cs' ⟨adR, capR, L, adU, capU, rfl, hv, rfl⟩
  have hLl : (rowsW L).length = w.sites.length := (by rw [rowsW_len, ← valsW_len, hv]; exact h.r)
  rw [walV_n hLl hUl]
  obtain ⟨p, hp, hpx, hpr⟩ := pullW h e1 hv
  refine Ops.ent (ent_pullW (E := 3) hp (by exact goPk)) ?_
  rw [hpx]
  obtain ⟨e, ys, r0, r1, r2, hM, hD, hcase⟩ := more_done adR adU w.sites.length capR capU w.sites p.ad p.cap l i x c e2 ⟨b1, b2⟩ q2'
  repeat' (first | refine goH ?_ | refine goV ?_ | refine goB (fun b => ?_) | refine goI ?_ | (refine Cw.k_cond ?_; first | (refine Cw.cond_dec rfl (fun hc => ?_) (fun hc => ?_) <;> try (exfalso; omega)) | refine Cw.cond_bool rfl (fun hc => ?_) (fun hc => ?_)) | fail)
  rename_i b3
  first | refine Cw.region_YP (fun ξ S => Chunk.own p.ad p.cap 1 3 (stg (S 13) (intRows l) (intRows ys)) :: Chunk.box b3 31 [.strs w.sites, Tr.raw (.slice adR w.sites.length capR), Tr.raw (.slice adU w.sites.length capU)] :: Chunk.box b 31 (stg (S 17) [Tr.raw (.slice none 0 0), Tr.raw (.slice none 0 0), Tr.raw (.slice none 0 0)] [r0, r1, r2]) :: restW 3 L i :: Chunk.own adU capU 1 3 (intRows w.used) :: Chunk.own adR capR 1 22 (rowsW L) :: []) rfl (by decide +kernel) rfl ((fun (ξ : Nat → Value) (S : Nat → Bool) => Chunk.own p.ad p.cap 1 3 (stg (S 13) (intRows l) (intRows ys)) :: Chunk.box b3 31 [.strs w.sites, Tr.raw (.slice adR w.sites.length capR), Tr.raw (.slice adU w.sites.length capU)] :: Chunk.box b 31 (stg (S 17) [Tr.raw (.slice none 0 0), Tr.raw (.slice none 0 0), Tr.raw (.slice none 0 0)] [r0, r1, r2]) :: restW 3 L i :: Chunk.own adU capU 1 3 (intRows w.used) :: Chunk.own adR capR 1 22 (rowsW L) :: []) (fun _ => undef) (fun _ => false)) (by simp only [upd_same, updD_same, upd_ne, updD_ne, ne_eq, Nat.reduceEqDiff, not_false_eq_true, stg_t, stg_f, vAd_s, vCap_s, blk_p, List.cons_append, List.nil_append, b2n_t, b2n_f]; exact goXm) (fun _ => rfl) ?_ | fail
  apply YSeq.w (by intro _ _ _; rfl)
  · intro ξ S h1 h2 h3 h4
    have hN0_17 := closed_false h1 h3 (k := 17) rfl (by decide)
    try simp only [upd_same, updD_same, upd_ne, updD_ne, ne_eq, Nat.reduceEqDiff, not_false_eq_true, stg_t, stg_f, vAd_s, vCap_s, blk_p, List.cons_append, List.nil_append, b2n_t, b2n_f, hN0_17]
    exact goW
  · intro ξ v; rfl
  · intro ξ k v S h3 hn hk
    first
    | rfl
  apply YSeq.w (by intro _ _ _; rfl)
  · intro ξ S h1 h2 h3 h4
    have hN1_2 := closed_false h1 h3 (k := 2) rfl (by decide)
    have hN1_6 := closed_false hN1_2 h3 (k := 6) rfl (by decide)
    have hN1_7 := closed_false hN1_6 h3 (k := 7) rfl (by decide)
    have hN1_11 := closed_false hN1_7 h3 (k := 11) rfl (by decide)
    have hN1_13 := closed_false hN1_11 h3 (k := 13) rfl (by decide)
    have hN1_17 := closed_false h1 h3 (k := 17) rfl (by decide)
    try simp only [upd_same, updD_same, upd_ne, updD_ne, ne_eq, Nat.reduceEqDiff, not_false_eq_true, stg_t, stg_f, vAd_s, vCap_s, blk_p, List.cons_append, List.nil_append, b2n_t, b2n_f, hN1_13, hN1_17]
    exact goW
  · intro ξ v; rfl
  · intro ξ k v S h3 hn hk
    first
    | rfl
  apply YSeq.w (by intro _ _ _; rfl)
  · intro ξ S h1 h2 h3 h4
    have hN2_6 := closed_false h1 h3 (k := 6) rfl (by decide)
    have hN2_7 := closed_false hN2_6 h3 (k := 7) rfl (by decide)
    have hN2_11 := closed_false hN2_7 h3 (k := 11) rfl (by decide)
    have hN2_13 := closed_false hN2_11 h3 (k := 13) rfl (by decide)
    have hN2_17 := closed_false h1 h3 (k := 17) rfl (by decide)
    try simp only [upd_same, updD_same, upd_ne, updD_ne, ne_eq, Nat.reduceEqDiff, not_false_eq_true, stg_t, stg_f, vAd_s, vCap_s, blk_p, List.cons_append, List.nil_append, b2n_t, b2n_f, hN2_13, hN2_17]
    exact goW
  · intro ξ v; rfl
  · intro ξ k v S h3 hn hk
    first
    | rfl
  apply YSeq.w (by intro _ _ _; rfl)
  · intro ξ S h1 h2 h3 h4
    have hN3_4 := closed_false h1 h3 (k := 4) rfl (by decide)
    have hN3_5 := closed_false hN3_4 h3 (k := 5) rfl (by decide)
    have hN3_6 := closed_false hN3_5 h3 (k := 6) rfl (by decide)
    have hN3_7 := closed_false hN3_6 h3 (k := 7) rfl (by decide)
    have hN3_11 := closed_false hN3_7 h3 (k := 11) rfl (by decide)
    have hN3_13 := closed_false hN3_11 h3 (k := 13) rfl (by decide)
    have hN3_17 := closed_false h1 h3 (k := 17) rfl (by decide)
    try simp only [upd_same, updD_same, upd_ne, updD_ne, ne_eq, Nat.reduceEqDiff, not_false_eq_true, stg_t, stg_f, vAd_s, vCap_s, blk_p, List.cons_append, List.nil_append, b2n_t, b2n_f, hN3_13, hN3_17]
    exact goW
  · intro ξ v; rfl
  · intro ξ k v S h3 hn hk
    first
    | rfl
  apply YSeq.w (by intro _ _ _; rfl)
  · intro ξ S h1 h2 h3 h4
    have hN4_5 := closed_false h1 h3 (k := 5) rfl (by decide)
    have hN4_6 := closed_false hN4_5 h3 (k := 6) rfl (by decide)
    have hN4_7 := closed_false hN4_6 h3 (k := 7) rfl (by decide)
    have hN4_11 := closed_false hN4_7 h3 (k := 11) rfl (by decide)
    have hN4_13 := closed_false hN4_11 h3 (k := 13) rfl (by decide)
    have hN4_17 := closed_false h1 h3 (k := 17) rfl (by decide)
    try simp only [upd_same, updD_same, upd_ne, updD_ne, ne_eq, Nat.reduceEqDiff, not_false_eq_true, stg_t, stg_f, vAd_s, vCap_s, blk_p, List.cons_append, List.nil_append, b2n_t, b2n_f, hN4_13, hN4_17]
    exact goW
  · intro ξ v; rfl
  · intro ξ k v S h3 hn hk
    first
    | rfl
  apply YSeq.w (by intro _ _ _; rfl)
  · intro ξ S h1 h2 h3 h4
    have hN5_6 := closed_false h1 h3 (k := 6) rfl (by decide)
    have hN5_7 := closed_false hN5_6 h3 (k := 7) rfl (by decide)
    have hN5_11 := closed_false hN5_7 h3 (k := 11) rfl (by decide)
    have hN5_13 := closed_false hN5_11 h3 (k := 13) rfl (by decide)
    have hN5_17 := closed_false h1 h3 (k := 17) rfl (by decide)
    try simp only [upd_same, updD_same, upd_ne, updD_ne, ne_eq, Nat.reduceEqDiff, not_false_eq_true, stg_t, stg_f, vAd_s, vCap_s, blk_p, List.cons_append, List.nil_append, b2n_t, b2n_f, hN5_13, hN5_17]
    exact goW
  · intro ξ v; rfl
  · intro ξ k v S h3 hn hk
    first
    | rfl
  apply YSeq.w (by intro _ _ _; rfl)
  · intro ξ S h1 h2 h3 h4
    have hN6_7 := closed_false h1 h3 (k := 7) rfl (by decide)
    have hN6_11 := closed_false hN6_7 h3 (k := 11) rfl (by decide)
    have hN6_13 := closed_false hN6_11 h3 (k := 13) rfl (by decide)
    have hN6_17 := closed_false h1 h3 (k := 17) rfl (by decide)
    try simp only [upd_same, updD_same, upd_ne, updD_ne, ne_eq, Nat.reduceEqDiff, not_false_eq_true, stg_t, stg_f, vAd_s, vCap_s, blk_p, List.cons_append, List.nil_append, b2n_t, b2n_f, hN6_13, hN6_17]
    exact goW
  · intro ξ v; rfl
  · intro ξ k v S h3 hn hk
    first
    | rfl
  apply YSeq.w (by intro _ _ _; rfl)
  · intro ξ S h1 h2 h3 h4
    have hN7_11 := closed_false h1 h3 (k := 11) rfl (by decide)
    have hN7_13 := closed_false hN7_11 h3 (k := 13) rfl (by decide)
    have hN7_17 := closed_false h1 h3 (k := 17) rfl (by decide)
    try simp only [upd_same, updD_same, upd_ne, updD_ne, ne_eq, Nat.reduceEqDiff, not_false_eq_true, stg_t, stg_f, vAd_s, vCap_s, blk_p, List.cons_append, List.nil_append, b2n_t, b2n_f, hN7_13, hN7_17]
    exact goW
  · intro ξ v; rfl
  · intro ξ k v S h3 hn hk
    first
    | rfl
  apply YSeq.w (by intro _ _ _; rfl)
  · intro ξ S h1 h2 h3 h4
    have hN8_9 := closed_false h1 h3 (k := 9) rfl (by decide)
    have hN8_10 := closed_false hN8_9 h3 (k := 10) rfl (by decide)
    have hN8_11 := closed_false hN8_10 h3 (k := 11) rfl (by decide)
    have hN8_13 := closed_false hN8_11 h3 (k := 13) rfl (by decide)
    have hN8_17 := closed_false h1 h3 (k := 17) rfl (by decide)
    try simp only [upd_same, updD_same, upd_ne, updD_ne, ne_eq, Nat.reduceEqDiff, not_false_eq_true, stg_t, stg_f, vAd_s, vCap_s, blk_p, List.cons_append, List.nil_append, b2n_t, b2n_f, hN8_13, hN8_17]
    exact goW
  · intro ξ v; rfl
  · intro ξ k v S h3 hn hk
    first
    | rfl
  apply YSeq.w (by intro _ _ _; rfl)
  · intro ξ S h1 h2 h3 h4
    have hN9_10 := closed_false h1 h3 (k := 10) rfl (by decide)
    have hN9_11 := closed_false hN9_10 h3 (k := 11) rfl (by decide)
    have hN9_13 := closed_false hN9_11 h3 (k := 13) rfl (by decide)
    have hN9_17 := closed_false h1 h3 (k := 17) rfl (by decide)
    try simp only [upd_same, updD_same, upd_ne, updD_ne, ne_eq, Nat.reduceEqDiff, not_false_eq_true, stg_t, stg_f, vAd_s, vCap_s, blk_p, List.cons_append, List.nil_append, b2n_t, b2n_f, hN9_13, hN9_17]
    exact goW
  · intro ξ v; rfl
  · intro ξ k v S h3 hn hk
    first
    | rfl
  apply YSeq.w (by intro _ _ _; rfl)
  · intro ξ S h1 h2 h3 h4
    have hN10_11 := closed_false h1 h3 (k := 11) rfl (by decide)
    have hN10_13 := closed_false hN10_11 h3 (k := 13) rfl (by decide)
    have hN10_17 := closed_false h1 h3 (k := 17) rfl (by decide)
    try simp only [upd_same, updD_same, upd_ne, updD_ne, ne_eq, Nat.reduceEqDiff, not_false_eq_true, stg_t, stg_f, vAd_s, vCap_s, blk_p, List.cons_append, List.nil_append, b2n_t, b2n_f, hN10_13, hN10_17]
    exact goW
  · intro ξ v; rfl
  · intro ξ k v S h3 hn hk
    first
    | rfl
  apply YSeq.w (by intro _ _ _; rfl)
  · intro ξ S h1 h2 h3 h4
    have hN11_13 := closed_false h1 h3 (k := 13) rfl (by decide)
    have hN11_17 := closed_false h1 h3 (k := 17) rfl (by decide)
    try simp only [upd_same, updD_same, upd_ne, updD_ne, ne_eq, Nat.reduceEqDiff, not_false_eq_true, stg_t, stg_f, vAd_s, vCap_s, blk_p, List.cons_append, List.nil_append, b2n_t, b2n_f, hN11_13, hN11_17]
    exact goW
  · intro ξ v; rfl
  · intro ξ k v S h3 hn hk
    first
    | rfl
  apply YSeq.w (by intro _ _ _; rfl)
  · intro ξ S h1 h2 h3 h4
    have hN12_13 := closed_false h1 h3 (k := 13) rfl (by decide)
    have hN12_17 := closed_false h1 h3 (k := 17) rfl (by decide)
    try simp only [upd_same, updD_same, upd_ne, updD_ne, ne_eq, Nat.reduceEqDiff, not_false_eq_true, stg_t, stg_f, vAd_s, vCap_s, blk_p, List.cons_append, List.nil_append, b2n_t, b2n_f, hN12_13, hN12_17]
    exact goW
  · intro ξ v; rfl
  · intro ξ k v S h3 hn hk
    first
    | rfl
  apply YSeq.callC
  · intro ξ S h1 h2 h3 h4
    have hN13_17 := closed_false h1 h3 (k := 17) rfl (by decide)
    try simp only [upd_same, updD_same, upd_ne, updD_ne, ne_eq, Nat.reduceEqDiff, not_false_eq_true, stg_t, stg_f, vAd_s, vCap_s, blk_p, List.cons_append, List.nil_append, b2n_t, b2n_f, h1, hN13_17]
    exact ⟨_, _, _, _, hM, (Evs.cons rfl (Evs.cons rfl Evs.nil)), goXp, fun v => (by first | exact goXp | (simp only [upd_same, updD_same, upd_ne, updD_ne, ne_eq, Nat.reduceEqDiff, not_false_eq_true, stg_t, stg_f, vAd_s, vCap_s, blk_p, List.cons_append, List.nil_append, b2n_t, b2n_f]; exact goXp))⟩
  · intro ξ v; rfl
  · intro ξ k v S h3 hn hk
    first
    | rfl
  apply YSeq.callV (by intro _ _ _; rfl)
  · intro ξ S h1 h2 h3 h4
    have hY14_13 : S 13 = true := h2 13 (by decide)
    have hN14_17 := closed_false h1 h3 (k := 17) rfl (by decide)
    try simp only [upd_same, updD_same, upd_ne, updD_ne, ne_eq, Nat.reduceEqDiff, not_false_eq_true, stg_t, stg_f, vAd_s, vCap_s, blk_p, List.cons_append, List.nil_append, b2n_t, b2n_f, hY14_13, hN14_17]
    exact ⟨_, (Evs.cons rfl (Evs.cons rfl Evs.nil)), hD⟩
  · intro ξ v; rfl
  · intro ξ k v S h3 hn hk
    first
    | rfl
  apply YSeq.w (by intro _ _ _; rfl)
  · intro ξ S h1 h2 h3 h4
    have hY15_14 : S 14 = true := h2 14 (by decide)
    have hY15_13 : S 13 = true := h3 14 _ rfl hY15_14 13 (by decide)
    have hN15_17 := closed_false h1 h3 (k := 17) rfl (by decide)
    try simp only [upd_same, updD_same, upd_ne, updD_ne, ne_eq, Nat.reduceEqDiff, not_false_eq_true, stg_t, stg_f, vAd_s, vCap_s, blk_p, List.cons_append, List.nil_append, b2n_t, b2n_f, hY15_13, hN15_17]
    exact goW
  · intro ξ v; rfl
  · intro ξ k v S h3 hn hk
    first
    | rfl
  apply YSeq.w (by intro _ _ _; rfl)
  · intro ξ S h1 h2 h3 h4
    have hY16_14 : S 14 = true := h2 14 (by decide)
    have hY16_13 : S 13 = true := h3 14 _ rfl hY16_14 13 (by decide)
    have hN16_17 := closed_false h1 h3 (k := 17) rfl (by decide)
    try simp only [upd_same, updD_same, upd_ne, updD_ne, ne_eq, Nat.reduceEqDiff, not_false_eq_true, stg_t, stg_f, vAd_s, vCap_s, blk_p, List.cons_append, List.nil_append, b2n_t, b2n_f, hY16_13, hN16_17]
    exact goW
  · intro ξ v; rfl
  · intro ξ k v S h3 hn hk
    first
    | rfl
  apply YSeq.store
  · intro ξ S h1 h2 h3 h4
    have hY17_13 : S 13 = true := h2 13 (by decide)
    simp only [upd_same, updD_same, upd_ne, updD_ne, ne_eq, Nat.reduceEqDiff, not_false_eq_true, stg_t, stg_f, vAd_s, vCap_s, blk_p, List.cons_append, List.nil_append, b2n_t, b2n_f, hY17_13, h1]
    refine ⟨_, _, _, _, _, _, _, rfl, rfl, inferInstance, goXp, rfl, Nat.le_of_ble_eq_true rfl, ?_⟩
    exact goXm
  apply YSeq.w (by intro _ _ _; rfl)
  · intro ξ S h1 h2 h3 h4
    have hY18_13 : S 13 = true := h2 13 (by decide)
    have hY18_17 : S 17 = true := h2 17 (by decide)
    try simp only [upd_same, updD_same, upd_ne, updD_ne, ne_eq, Nat.reduceEqDiff, not_false_eq_true, stg_t, stg_f, vAd_s, vCap_s, blk_p, List.cons_append, List.nil_append, b2n_t, b2n_f, hY18_13, hY18_17]
    exact goW
  · intro ξ v; rfl
  · intro ξ k v S h3 hn hk
    first
    | rfl
  refine YSeq.nil fun ξ hf => ?_
  refine ⟨[(6, _), (7, _)], _, Ent.trans (Ent.eqc rfl (by simp only [upd_same, updD_same, upd_ne, updD_ne, ne_eq, Nat.reduceEqDiff, not_false_eq_true, stg_t, stg_f, vAd_s, vCap_s, blk_p, List.cons_append, List.nil_append, b2n_t, b2n_f, ownV, slV, ptV] <;> rfl)) (Ent.sub goSub), ?_⟩
  clear hf
  rcases hcase with ⟨q4, rfl, rfl, q5⟩ | ⟨q4, rfl, rfl, q5⟩
  · rw [if_pos q4] at he
    subst he
    rw [resW_bad (by decide), q5]
    repeat' (first | refine goH ?_ | refine goV ?_ | refine goB (fun b => ?_) | refine goI ?_ | (refine Cw.k_cond ?_; first | (refine Cw.cond_dec rfl (fun hc => ?_) (fun hc => ?_) <;> try (exfalso; omega)) | refine Cw.cond_bool rfl (fun hc => ?_) (fun hc => ?_)) | refine goR ?_ | refine goP ?_ | apply PSeq.cons | apply PSeq.yes rfl rfl rfl | exact goW | fail)
    refine Fin.ret (Ent.trans (Ent.imp_box goPk impW0) (Ent.trans (Ent.setbox (s := 6) rfl goPk) (Ent.take goTk))) (Outs.many rfl (OutL.cons goOe (OutL.cons goOe OutL.nil)) rfl) ⟨rfl, rfl⟩
  · rw [if_neg q4] at he
    subst he
    rw [resW_ok rfl, q5]
    have hls : (intRows (l.set i (x + c))).length = w.sites.length := by rw [intRows_len, List.length_set]; exact hl2 ()
    have hq : (⟨p.ad, p.cap, l.set i (x + c)⟩ : IL).val = p.val := by unfold IL.val; rw [hls, hpx, hlr]
    have hLs : (rowsW (L.set i ⟨p.ad, p.cap, l.set i (x + c)⟩)).length = w.sites.length := by rw [rowsW_set hp hq]; exact hLl
    repeat' (first | refine goH ?_ | refine goV ?_ | refine goB (fun b => ?_) | refine goI ?_ | (refine Cw.k_cond ?_; first | (refine Cw.cond_dec rfl (fun hc => ?_) (fun hc => ?_) <;> try (exfalso; omega)) | refine Cw.cond_bool rfl (fun hc => ?_) (fun hc => ?_)) | refine goR ?_ | refine goP ?_ | apply PSeq.cons | apply PSeq.yes rfl rfl rfl | exact goW | fail)
    refine Fin.ent (ent_putW (E := 3) (q := ⟨p.ad, p.cap, l.set i (x + c)⟩) hp (by exact goPk) (by exact goPk)) ?_
    rw [← rowsW_set hp hq]
    refine Fin.ret (Ent.trans (Ent.settle_wal (b := b) (by exact Perm.cons' goPk (Perm.cons' goPk (Perm.cons' goPk (Perm.cons' goPk (List.Perm.refl _))))) hLs hUl) (Ent.trans (Ent.setbox (s := 6) rfl goPk) (Ent.take goTk))) (Outs.many rfl (OutL.cons goOe (OutL.cons goOe OutL.nil)) rfl) ⟨rfl, ?_⟩
    rw [hW, hs2, valsW_set, hv]
end Lg
end
