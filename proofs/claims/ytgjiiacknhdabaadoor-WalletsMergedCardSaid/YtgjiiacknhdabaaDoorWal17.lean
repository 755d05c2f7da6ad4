/- A part of the proof of a law of this seat: it adds no condition. By an AI agent. -/
import Derived.Test.YtgjiiacknhdabaaDoorWal16
import Derived.Test.YtgjiiacknhdabaaDoorLaw
import Derived.Test.YtgjiiacknhdabaaDoorLgB
set_option linter.all false
set_option maxRecDepth 100000
set_option maxHeartbeats 8000000
namespace Lg
open Go Go.Proofs

theorem emptyD_ab : PFn Tryd.prog 19 [.sl 1 [[.str ⟨#[97]⟩], [.str ⟨#[98]⟩]]] (· = .tup [.agg [.strs abS, .sl 1 (intsR (empW abS).rights), .ints (empW abS).used], .int 0]) := by
  have := emptyD_fn abS (by decide)
  rw [resW_ok sitE_ab] at this
  exact this
theorem emptyR_ab : PFn Tryd.prog 9 [.sl 1 [[.str ⟨#[97]⟩], [.str ⟨#[98]⟩]]] (· = .tup [.agg [.strs abS, .sl 1 (intsR (empW abS).rights), .ints (empW abS).used], .int 0]) := by
  have := emptyR_fn abS (by decide)
  rw [resW_ok sitE_ab] at this
  exact this
theorem depots_fn : PFn Tryd.prog 14 [] (· = .bool true) := by
  have k := emptyD_ab
  have h1 : (strRows abS).length = 2 := rfl
  have h2 : (intRows (empW abS).used).length = 2 := rfl
  refine PFn.mk (Spec.body Tryd.func14 rfl rfl (Tryd.ntmps14) rfl fun w0 own0 M => ?_)
  repeat' (first | refine goH ?_ | refine goV ?_ | refine goB (fun b => ?_) | refine goG ?_ | (refine Ops.k_guard ?_; first | (refine Ops.guard_dec rfl rfl (fun hc => ?_) (fun hc => ?_) <;> try (exfalso; omega)) | refine Ops.guard_split rfl rfl (fun hc => ?_) (fun hc => ?_)) | refine goI ?_ | (refine Cw.k_cond ?_; first | (refine Cw.cond_dec rfl (fun hc => ?_) (fun hc => ?_) <;> try (exfalso; omega)) | refine Cw.cond_bool rfl (fun hc => ?_) (fun hc => ?_)) | (refine Ops.k_calla ?_; first | (refine Ops.k_callf 19 ?_; refine Ops.callV k (Evs.cons rfl Evs.nil) rfl ?_)) | fail)
  all_goals first | exact Fin.ret (Ent.take (by repeat' (first | exact Take.nil | refine Take.cons (by first | exact pick0 | (apply pickS; first | exact pick0 | (apply pickS; first | exact pick0 | (apply pickS; first | exact pick0 | (apply pickS; first | exact pick0 | (apply pickS; first | exact pick0 | (apply pickS; first | exact pick0 | (apply pickS; first | exact pick0 | (apply pickS; first | exact pick0 | (apply pickS; first | exact pick0 | (apply pickS; exact pick0))))))))))) ?_))) (Outs.one rfl rfl) ⟨rfl, rfl⟩ | skip
theorem mrg_bd {A B : Wal} : WBd (stepT (mrgW A B) (mrgE A B)) := by
  unfold stepT
  by_cases h : mrgE A B = 0
  · rw [if_pos h]
    unfold mrgE at h
    by_cases h1 : pairE A B ≠ 0
    · rw [if_pos h1] at h; exact absurd h h1
    rw [if_neg h1] at h
    exact (wok_E h).bd
  · rw [if_neg h]
    exact ⟨by simp [wNil], by simp [wNil], by simp [wNil], by simp [wNil]⟩
theorem mrg_two {A B : Wal} (ha : WBd A) (hb : WBd B) : ∃ (W : Wal) (e : Int), WBd W ∧ PFn Tryd.prog 10 [.wal A, .wal B] (· = wTup W e) ∧ PFn Tryd.prog 12 [.wal A, .wal B] (· = wTup W e) :=
  ⟨stepT (mrgW A B) (mrgE A B), mrgE A B, mrg_bd, merge_fn A B ha hb, merged_fn A B ha hb⟩
theorem kn_two {A B : Wal} (ha : WBd A) (hb : WBd B) : ∃ (k : Bool) (e : Int), PFn Tryd.prog 11 [.wal A, .wal B] (· = .tup [.bool k, .int e]) ∧ PFn Tryd.prog 13 [.wal A, .wal B] (· = .tup [.bool k, .int e]) := by
  have h1 := knows_fn A B ha hb
  have h2 := knowsAll_fn A B ha hb
  by_cases h : pairE A B = 0
  · rw [kwO_ok h] at h1 h2
    exact ⟨_, _, h1, h2⟩
  · rw [kwO_bad h] at h1 h2
    exact ⟨_, _, h1, h2⟩
theorem emp_ab : WBd (empW abS) := (empW_ok (by decide)).bd
abbrev EAB : Wal := empW abS
attribute [local irreducible] intRows intsR strRows valsW rowsW wAt
theorem walletsMerged_law (xs : List Int) : Spec Tryd.prog 3 [Tr.ints xs] [] (fun r _ => r = Tr.bool true) := by
  refine Spec.body Tryd.func3 rfl rfl (Tryd.ntmps3) rfl fun w0 own0 M => ?_
  have kE := emptyR_ab
  repeat' (first | refine goH ?_ | refine goV ?_ | refine goB (fun b => ?_) | refine goG ?_ | (refine Ops.k_guard ?_; first | (refine Ops.guard_dec rfl rfl (fun hc => ?_) (fun hc => ?_) <;> try (exfalso; omega)) | refine Ops.guard_split rfl rfl (fun hc => ?_) (fun hc => ?_)) | refine goI ?_ | (refine Cw.k_cond ?_; first | (refine Cw.cond_dec rfl (fun hc => ?_) (fun hc => ?_) <;> try (exfalso; omega)) | refine Cw.cond_bool rfl (fun hc => ?_) (fun hc => ?_)) | refine Ops.shut0 (ty := 25) rfl ?_ | (refine Ops.k_calla ?_; first | (refine Ops.k_callf 5 ?_; (refine Ops.callG wallets_gen (Evs.cons rfl Evs.nil) (by first | exact pick0 | (apply pickS; first | exact pick0 | (apply pickS; first | exact pick0 | (apply pickS; first | exact pick0 | (apply pickS; first | exact pick0 | (apply pickS; first | exact pick0 | (apply pickS; first | exact pick0 | (apply pickS; first | exact pick0 | (apply pickS; first | exact pick0 | (apply pickS; first | exact pick0 | (apply pickS; exact pick0))))))))))) (by omega) rfl ?_; rintro r ⟨l, rfl, hl, hg⟩; have hlr : (l.map Wal.row).length = 3 := (by rw [List.length_map, hl])))) | fail)
  rename Nat => bs
  have hrow : ∀ v : Int, 0 ≤ v ∧ v < 3 → (l.map Wal.row)[v.toNat]? = some [.strs (wAt l v).sites, .sl 1 (intsR (wAt l v).rights), .ints (wAt l v).used] := fun v hv => wAt_row hl hv
  have hmem : ∀ v : Int, 0 ≤ v ∧ v < 3 → WBd (wAt l v) := fun v hv => (hg _ (wAt_mem hl hv)).1.bd
  refine Cw.region_YP (fun ξ S => Chunk.strm 25 bs (intRows xs) (0 + 80 + (b2n (S 2) + b2n (S 7))) :: (stg (S 10) [] [Chunk.box (blk (ξ 10)) 31 (stg (S 12) [Tr.raw (.slice none 0 0), Tr.raw (.slice none 0 0), Tr.raw (.slice none 0 0)] [.strs (wAt l (vInt (ξ 2))).sites, .sl 1 (intsR (wAt l (vInt (ξ 2))).rights), .ints (wAt l (vInt (ξ 2))).used])] ++ (stg (S 11) [] [Chunk.box (blk (ξ 11)) 31 (stg (S 13) [Tr.raw (.slice none 0 0), Tr.raw (.slice none 0 0), Tr.raw (.slice none 0 0)] [.strs (wAt l (vInt (ξ 7))).sites, .sl 1 (intsR (wAt l (vInt (ξ 7))).rights), .ints (wAt l (vInt (ξ 7))).used])] ++ []))) rfl (by decide +kernel) rfl ((fun (ξ : Nat → Value) (S : Nat → Bool) => Chunk.strm 25 bs (intRows xs) (0 + 80 + (b2n (S 2) + b2n (S 7))) :: (stg (S 10) [] [Chunk.box (blk (ξ 10)) 31 (stg (S 12) [Tr.raw (.slice none 0 0), Tr.raw (.slice none 0 0), Tr.raw (.slice none 0 0)] [.strs (wAt l (vInt (ξ 2))).sites, .sl 1 (intsR (wAt l (vInt (ξ 2))).rights), .ints (wAt l (vInt (ξ 2))).used])] ++ (stg (S 11) [] [Chunk.box (blk (ξ 11)) 31 (stg (S 13) [Tr.raw (.slice none 0 0), Tr.raw (.slice none 0 0), Tr.raw (.slice none 0 0)] [.strs (wAt l (vInt (ξ 7))).sites, .sl 1 (intsR (wAt l (vInt (ξ 7))).rights), .ints (wAt l (vInt (ξ 7))).used])] ++ []))) (fun _ => undef) (fun _ => false)) (by simp only [upd_same, updD_same, upd_ne, updD_ne, ne_eq, Nat.reduceEqDiff, not_false_eq_true, stg_t, stg_f, vAd_s, vCap_s, blk_p, List.cons_append, List.nil_append, b2n_t, b2n_f]; exact (by repeat' (first | exact List.Perm.refl _ | refine Perm.cons' (by repeat' (first | exact pick0 | apply pickS | apply pickA)) ?_ | refine Perm.app' (by repeat' (first | exact pickL0 | apply pickLS | apply pickLA)) ?_))) (fun _ => rfl) ?_
  apply YSeq.w (by intro _ _ _; rfl)
  · intro ξ S h1 h2 h3 h4
    have hN0_12 := closed_false h1 h3 (k := 12) rfl (by decide)
    have hN0_13 := closed_false h1 h3 (k := 13) rfl (by decide)
    try simp only [upd_same, updD_same, upd_ne, updD_ne, ne_eq, Nat.reduceEqDiff, not_false_eq_true, stg_t, stg_f, vAd_s, vCap_s, blk_p, List.cons_append, List.nil_append, b2n_t, b2n_f, hN0_12, hN0_13]
    exact goW
  · intro ξ v; rfl
  · intro ξ k v S h3 hn hk
    first
    | rfl
  apply YSeq.w (by intro _ _ _; rfl)
  · intro ξ S h1 h2 h3 h4
    have hN1_2 := closed_false h1 h3 (k := 2) rfl (by decide)
    have hN1_7 := closed_false hN1_2 h3 (k := 7) rfl (by decide)
    have hN1_12 := closed_false h1 h3 (k := 12) rfl (by decide)
    have hN1_13 := closed_false h1 h3 (k := 13) rfl (by decide)
    try simp only [upd_same, updD_same, upd_ne, updD_ne, ne_eq, Nat.reduceEqDiff, not_false_eq_true, stg_t, stg_f, vAd_s, vCap_s, blk_p, List.cons_append, List.nil_append, b2n_t, b2n_f, hN1_2, hN1_7, hN1_12, hN1_13]
    exact goW
  · intro ξ v; rfl
  · intro ξ k v S h3 hn hk
    first
    | rfl
  apply YSeq.callI (next_gen 3 (by omega)) (fun _ => (Evs.cons rfl (Evs.cons rfl Evs.nil)))
  · intro ξ S h1 h3
    have hN2_7 := closed_false h1 h3 (k := 7) rfl (by decide)
    have hN2_12 := closed_false h1 h3 (k := 12) rfl (by decide)
    have hN2_13 := closed_false h1 h3 (k := 13) rfl (by decide)
    have hq2 := b2n_le (S 2)
    have hq7 := b2n_le (S 7)
    simp only [upd_same, updD_same, upd_ne, updD_ne, ne_eq, Nat.reduceEqDiff, not_false_eq_true, stg_t, stg_f, vAd_s, vCap_s, blk_p, List.cons_append, List.nil_append, b2n_t, b2n_f, h1, hN2_7, hN2_12, hN2_13]
    refine ⟨_, _, ?_, (by repeat' (first | exact pick0 | apply pickS | apply pickA)), fun v => ?_⟩
    · omega
    · refine List.Perm.trans (by repeat' (first | exact pick0 | apply pickS | apply pickA)) (perm_strm ?_)
      omega
  apply YSeq.w (by intro _ _ _; rfl)
  · intro ξ S h1 h2 h3 h4
    have hY3_2 : S 2 = true := h2 2 (by decide)
    have hN3_12 := closed_false h1 h3 (k := 12) rfl (by decide)
    have hN3_13 := closed_false h1 h3 (k := 13) rfl (by decide)
    have hR22 := pf_int (next_gen 3 (by omega)) (h4 2 hY3_2)
    try simp only [InRange] at hR22
    have hRn22 := hR22
    try simp only [Nat.zero_add, Nat.reduceAdd] at hRn22
    have hq := hrow (vInt (ξ 2)) (by omega)
    try simp only [upd_same, updD_same, upd_ne, updD_ne, ne_eq, Nat.reduceEqDiff, not_false_eq_true, stg_t, stg_f, vAd_s, vCap_s, blk_p, List.cons_append, List.nil_append, b2n_t, b2n_f, hY3_2, hN3_12, hN3_13]
    exact goW
  · intro ξ v; rfl
  · intro ξ k v S h3 hn hk
    first
    | rfl
    | skip
      have hY3_2 : S 2 = true := h3 3 _ rfl hn 2 (by decide)
      simp only [upd_S hY3_2 hk]
  apply YSeq.w (by intro _ _ _; rfl)
  · intro ξ S h1 h2 h3 h4
    have hY4_3 : S 3 = true := h2 3 (by decide)
    have hY4_2 : S 2 = true := h3 3 _ rfl hY4_3 2 (by decide)
    have hN4_12 := closed_false h1 h3 (k := 12) rfl (by decide)
    have hN4_13 := closed_false h1 h3 (k := 13) rfl (by decide)
    have hR22 := pf_int (next_gen 3 (by omega)) (h4 2 hY4_2)
    try simp only [InRange] at hR22
    have hRn22 := hR22
    try simp only [Nat.zero_add, Nat.reduceAdd] at hRn22
    try simp only [upd_same, updD_same, upd_ne, updD_ne, ne_eq, Nat.reduceEqDiff, not_false_eq_true, stg_t, stg_f, vAd_s, vCap_s, blk_p, List.cons_append, List.nil_append, b2n_t, b2n_f, hY4_2, hN4_12, hN4_13]
    exact goW
  · intro ξ v; rfl
  · intro ξ k v S h3 hn hk
    first
    | rfl
    | skip
      have hY4_3 : S 3 = true := h3 4 _ rfl hn 3 (by decide)
      have hY4_2 : S 2 = true := h3 3 _ rfl hY4_3 2 (by decide)
      simp only [upd_S hY4_2 hk]
  apply YSeq.w (by intro _ _ _; rfl)
  · intro ξ S h1 h2 h3 h4
    have hN5_13 := closed_false h1 h3 (k := 13) rfl (by decide)
    try simp only [upd_same, updD_same, upd_ne, updD_ne, ne_eq, Nat.reduceEqDiff, not_false_eq_true, stg_t, stg_f, vAd_s, vCap_s, blk_p, List.cons_append, List.nil_append, b2n_t, b2n_f, hN5_13]
    exact goW
  · intro ξ v; rfl
  · intro ξ k v S h3 hn hk
    first
    | rfl
  apply YSeq.w (by intro _ _ _; rfl)
  · intro ξ S h1 h2 h3 h4
    have hN6_7 := closed_false h1 h3 (k := 7) rfl (by decide)
    have hN6_12 := closed_false hN6_7 h3 (k := 12) rfl (by decide)
    have hN6_13 := closed_false h1 h3 (k := 13) rfl (by decide)
    try simp only [upd_same, updD_same, upd_ne, updD_ne, ne_eq, Nat.reduceEqDiff, not_false_eq_true, stg_t, stg_f, vAd_s, vCap_s, blk_p, List.cons_append, List.nil_append, b2n_t, b2n_f, hN6_7, hN6_12, hN6_13]
    exact goW
  · intro ξ v; rfl
  · intro ξ k v S h3 hn hk
    first
    | rfl
  apply YSeq.callI (next_gen 3 (by omega)) (fun _ => (Evs.cons rfl (Evs.cons rfl Evs.nil)))
  · intro ξ S h1 h3
    have hN7_12 := closed_false h1 h3 (k := 12) rfl (by decide)
    have hN7_13 := closed_false h1 h3 (k := 13) rfl (by decide)
    have hq2 := b2n_le (S 2)
    have hq7 := b2n_le (S 7)
    simp only [upd_same, updD_same, upd_ne, updD_ne, ne_eq, Nat.reduceEqDiff, not_false_eq_true, stg_t, stg_f, vAd_s, vCap_s, blk_p, List.cons_append, List.nil_append, b2n_t, b2n_f, h1, hN7_12, hN7_13]
    refine ⟨_, _, ?_, (by repeat' (first | exact pick0 | apply pickS | apply pickA)), fun v => ?_⟩
    · omega
    · refine List.Perm.trans (by repeat' (first | exact pick0 | apply pickS | apply pickA)) (perm_strm ?_)
      omega
  apply YSeq.w (by intro _ _ _; rfl)
  · intro ξ S h1 h2 h3 h4
    have hY8_7 : S 7 = true := h2 7 (by decide)
    have hY8_2 : S 2 = true := h3 7 _ rfl hY8_7 2 (by decide)
    have hN8_13 := closed_false h1 h3 (k := 13) rfl (by decide)
    have hR22 := pf_int (next_gen 3 (by omega)) (h4 2 hY8_2)
    try simp only [InRange] at hR22
    have hRn22 := hR22
    try simp only [Nat.zero_add, Nat.reduceAdd] at hRn22
    have hR27 := pf_int (next_gen 3 (by omega)) (h4 7 hY8_7)
    try simp only [InRange] at hR27
    have hRn27 := hR27
    try simp only [Nat.zero_add, Nat.reduceAdd] at hRn27
    have hq := hrow (vInt (ξ 7)) (by omega)
    try simp only [upd_same, updD_same, upd_ne, updD_ne, ne_eq, Nat.reduceEqDiff, not_false_eq_true, stg_t, stg_f, vAd_s, vCap_s, blk_p, List.cons_append, List.nil_append, b2n_t, b2n_f, hY8_2, hY8_7, hN8_13]
    exact goW
  · intro ξ v; rfl
  · intro ξ k v S h3 hn hk
    first
    | rfl
    | skip
      have hY8_7 : S 7 = true := h3 8 _ rfl hn 7 (by decide)
      have hY8_2 : S 2 = true := h3 7 _ rfl hY8_7 2 (by decide)
      simp only [upd_S hY8_2 hk, upd_S hY8_7 hk]
  apply YSeq.w (by intro _ _ _; rfl)
  · intro ξ S h1 h2 h3 h4
    have hY9_8 : S 8 = true := h2 8 (by decide)
    have hY9_7 : S 7 = true := h3 8 _ rfl hY9_8 7 (by decide)
    have hY9_2 : S 2 = true := h3 7 _ rfl hY9_7 2 (by decide)
    have hN9_13 := closed_false h1 h3 (k := 13) rfl (by decide)
    have hR22 := pf_int (next_gen 3 (by omega)) (h4 2 hY9_2)
    try simp only [InRange] at hR22
    have hRn22 := hR22
    try simp only [Nat.zero_add, Nat.reduceAdd] at hRn22
    have hR27 := pf_int (next_gen 3 (by omega)) (h4 7 hY9_7)
    try simp only [InRange] at hR27
    have hRn27 := hR27
    try simp only [Nat.zero_add, Nat.reduceAdd] at hRn27
    try simp only [upd_same, updD_same, upd_ne, updD_ne, ne_eq, Nat.reduceEqDiff, not_false_eq_true, stg_t, stg_f, vAd_s, vCap_s, blk_p, List.cons_append, List.nil_append, b2n_t, b2n_f, hY9_2, hY9_7, hN9_13]
    exact goW
  · intro ξ v; rfl
  · intro ξ k v S h3 hn hk
    first
    | rfl
    | skip
      have hY9_8 : S 8 = true := h3 9 _ rfl hn 8 (by decide)
      have hY9_7 : S 7 = true := h3 8 _ rfl hY9_8 7 (by decide)
      have hY9_2 : S 2 = true := h3 7 _ rfl hY9_7 2 (by decide)
      simp only [upd_S hY9_2 hk, upd_S hY9_7 hk]
  apply YSeq.alloc
  · intro ξ S b h1 h3
    have hN10_12 := closed_false h1 h3 (k := 12) rfl (by decide)
    have hN10_13 := closed_false h1 h3 (k := 13) rfl (by decide)
    simp only [upd_same, updD_same, upd_ne, updD_ne, ne_eq, Nat.reduceEqDiff, not_false_eq_true, stg_t, stg_f, vAd_s, vCap_s, blk_p, List.cons_append, List.nil_append, b2n_t, b2n_f, h1, hN10_12, hN10_13]
    exact (by repeat' (first | exact List.Perm.refl _ | refine Perm.cons' (by repeat' (first | exact pick0 | apply pickS | apply pickA)) ?_ | refine Perm.app' (by repeat' (first | exact pickL0 | apply pickLS | apply pickLA)) ?_))
  apply YSeq.alloc
  · intro ξ S b h1 h3
    have hN11_12 := closed_false h1 h3 (k := 12) rfl (by decide)
    have hN11_13 := closed_false h1 h3 (k := 13) rfl (by decide)
    simp only [upd_same, updD_same, upd_ne, updD_ne, ne_eq, Nat.reduceEqDiff, not_false_eq_true, stg_t, stg_f, vAd_s, vCap_s, blk_p, List.cons_append, List.nil_append, b2n_t, b2n_f, h1, hN11_12, hN11_13]
    exact (by repeat' (first | exact List.Perm.refl _ | refine Perm.cons' (by repeat' (first | exact pick0 | apply pickS | apply pickA)) ?_ | refine Perm.app' (by repeat' (first | exact pickL0 | apply pickLS | apply pickLA)) ?_))
  apply YSeq.store
  · intro ξ S h1 h2 h3 h4
    have hY12_2 : S 2 = true := h2 2 (by decide)
    have hY12_7 : S 7 = true := h2 7 (by decide)
    have hY12_10 : S 10 = true := h2 10 (by decide)
    have hY12_11 : S 11 = true := h2 11 (by decide)
    have hN12_13 := closed_false h1 h3 (k := 13) rfl (by decide)
    have hR22 := pf_int (next_gen 3 (by omega)) (h4 2 hY12_2)
    try simp only [InRange] at hR22
    have hRn22 := hR22
    try simp only [Nat.zero_add, Nat.reduceAdd] at hRn22
    have hR27 := pf_int (next_gen 3 (by omega)) (h4 7 hY12_7)
    try simp only [InRange] at hR27
    have hRn27 := hR27
    try simp only [Nat.zero_add, Nat.reduceAdd] at hRn27
    simp only [upd_same, updD_same, upd_ne, updD_ne, ne_eq, Nat.reduceEqDiff, not_false_eq_true, stg_t, stg_f, vAd_s, vCap_s, blk_p, List.cons_append, List.nil_append, b2n_t, b2n_f, hY12_2, hY12_7, hY12_10, hY12_11, h1, hN12_13]
    refine ⟨_, _, _, _, _, _, _, rfl, rfl, inferInstance, (by repeat' (first | exact pick0 | apply pickS | apply pickA)), rfl, Nat.le_of_ble_eq_true rfl, ?_⟩
    exact (by repeat' (first | exact List.Perm.refl _ | refine Perm.cons' (by repeat' (first | exact pick0 | apply pickS | apply pickA)) ?_ | refine Perm.app' (by repeat' (first | exact pickL0 | apply pickLS | apply pickLA)) ?_))
  apply YSeq.store
  · intro ξ S h1 h2 h3 h4
    have hY13_2 : S 2 = true := h2 2 (by decide)
    have hY13_7 : S 7 = true := h2 7 (by decide)
    have hY13_10 : S 10 = true := h2 10 (by decide)
    have hY13_11 : S 11 = true := h2 11 (by decide)
    have hY13_12 : S 12 = true := h2 12 (by decide)
    have hR22 := pf_int (next_gen 3 (by omega)) (h4 2 hY13_2)
    try simp only [InRange] at hR22
    have hRn22 := hR22
    try simp only [Nat.zero_add, Nat.reduceAdd] at hRn22
    have hR27 := pf_int (next_gen 3 (by omega)) (h4 7 hY13_7)
    try simp only [InRange] at hR27
    have hRn27 := hR27
    try simp only [Nat.zero_add, Nat.reduceAdd] at hRn27
    simp only [upd_same, updD_same, upd_ne, updD_ne, ne_eq, Nat.reduceEqDiff, not_false_eq_true, stg_t, stg_f, vAd_s, vCap_s, blk_p, List.cons_append, List.nil_append, b2n_t, b2n_f, hY13_2, hY13_7, hY13_10, hY13_11, hY13_12, h1]
    refine ⟨_, _, _, _, _, _, _, rfl, rfl, inferInstance, (by repeat' (first | exact pick0 | apply pickS | apply pickA)), rfl, Nat.le_of_ble_eq_true rfl, ?_⟩
    exact (by repeat' (first | exact List.Perm.refl _ | refine Perm.cons' (by repeat' (first | exact pick0 | apply pickS | apply pickA)) ?_ | refine Perm.app' (by repeat' (first | exact pickL0 | apply pickLS | apply pickLA)) ?_))
  refine YSeq.nil fun ξ hf => ?_
  have hR22 := pf_int (next_gen 3 (by omega)) (hf 2)
  try simp only [InRange] at hR22
  have hR27 := pf_int (next_gen 3 (by omega)) (hf 7)
  try simp only [InRange] at hR27
  refine ⟨[(3, _), (5, _), (6, _)], _, Ent.trans (Ent.eqc rfl (by simp only [upd_same, updD_same, upd_ne, updD_ne, ne_eq, Nat.reduceEqDiff, not_false_eq_true, stg_t, stg_f, vAd_s, vCap_s, blk_p, List.cons_append, List.nil_append, b2n_t, b2n_f, ownV, slV, ptV] <;> rfl)) (Ent.sub (by repeat' (first | exact Sub.nil | refine Sub.cons rfl ?_))), ?_⟩
  clear hf
  generalize vInt (ξ 2) = x22 at hR22 ⊢
  generalize vInt (ξ 7) = x27 at hR27 ⊢
  generalize blk (ξ 10) = b5
  generalize blk (ξ 11) = b6
  have ha := hmem x22 (by omega)
  have hb := hmem x27 (by omega)
  clear hrow hmem hlr hg
  generalize wAt l x22 = A0 at *
  generalize wAt l x27 = B0 at *
  clear hR22 hR27 hl
  refine Then.norm ?_
  repeat' (first | refine goH ?_ | refine goV ?_ | refine goB (fun b => ?_) | refine goG ?_ | (refine Ops.k_guard ?_; first | (refine Ops.guard_dec rfl rfl (fun hc => ?_) (fun hc => ?_) <;> try (exfalso; omega)) | refine Ops.guard_split rfl rfl (fun hc => ?_) (fun hc => ?_)) | refine goI ?_ | (refine Cw.k_cond ?_; first | (refine Cw.cond_dec rfl (fun hc => ?_) (fun hc => ?_) <;> try (exfalso; omega)) | refine Cw.cond_bool rfl (fun hc => ?_) (fun hc => ?_)) | (refine Ops.k_calla ?_; first | (refine Ops.k_callf 7 ?_; (refine Ops.callG (flip_gen _ (by omega)) (Evs.cons rfl (Evs.cons rfl Evs.nil)) (by first | exact pick0 | (apply pickS; first | exact pick0 | (apply pickS; first | exact pick0 | (apply pickS; first | exact pick0 | (apply pickS; first | exact pick0 | (apply pickS; first | exact pick0 | (apply pickS; first | exact pick0 | (apply pickS; first | exact pick0 | (apply pickS; first | exact pick0 | (apply pickS; first | exact pick0 | (apply pickS; exact pick0))))))))))) (by omega) rfl ?_; rintro r ⟨v, rfl⟩)) | (refine Ops.k_callf 8 ?_; (refine Ops.callG wallet_gen (Evs.cons rfl Evs.nil) (by first | exact pick0 | (apply pickS; first | exact pick0 | (apply pickS; first | exact pick0 | (apply pickS; first | exact pick0 | (apply pickS; first | exact pick0 | (apply pickS; first | exact pick0 | (apply pickS; first | exact pick0 | (apply pickS; first | exact pick0 | (apply pickS; first | exact pick0 | (apply pickS; first | exact pick0 | (apply pickS; exact pick0))))))))))) (by omega) rfl ?_; rintro r ⟨A1, rfl, ha1⟩)) | (refine Ops.k_callf 9 ?_; refine Ops.callV kE (Evs.cons rfl Evs.nil) rfl ?_)) | (apply OpW.k_call; first | (apply OpW.k_callf 9; exact OpW.callV kE (Evs.cons rfl Evs.nil))) | fail)
  · obtain ⟨W, e, hW, k1, k2⟩ := mrg_two (A := A1) (B := EAB) ha1 emp_ab
    obtain ⟨q, e2, k3, k4⟩ := kn_two (A := A1) (B := EAB) ha1 emp_ab
    have k5 := sameWallet_fn W hW
    have k6 := depots_fn
    clear kE
    repeat' (first | refine goH ?_ | refine goV ?_ | refine goB (fun b => ?_) | (refine Ops.k_b_eql ?_; first | refine Ops.eqlB_t (Tryd.underlying4) rfl rfl rfl rfl ?_) | refine goG ?_ | (refine Ops.k_guard ?_; first | (refine Ops.guard_dec rfl rfl (fun hc => ?_) (fun hc => ?_) <;> try (exfalso; omega)) | refine Ops.guard_split rfl rfl (fun hc => ?_) (fun hc => ?_)) | refine goI ?_ | (refine Cw.k_cond ?_; first | (refine Cw.cond_dec rfl (fun hc => ?_) (fun hc => ?_) <;> try (exfalso; omega)) | refine Cw.cond_bool rfl (fun hc => ?_) (fun hc => ?_)) | (refine Ops.k_calla ?_; first | refine Ops.callV k1 (Evs.cons rfl (Evs.cons rfl Evs.nil)) rfl ?_ | refine Ops.callV k2 (Evs.cons rfl (Evs.cons rfl Evs.nil)) rfl ?_ | refine Ops.callV k3 (Evs.cons rfl (Evs.cons rfl Evs.nil)) rfl ?_ | refine Ops.callV k4 (Evs.cons rfl (Evs.cons rfl Evs.nil)) rfl ?_ | (refine Ops.k_callf 15 ?_; refine Ops.callV k5 (Evs.cons rfl (Evs.cons rfl Evs.nil)) rfl ?_) | (refine Ops.k_callf 14 ?_; refine Ops.callV k6 Evs.nil rfl ?_)) | (apply OpW.k_call; first | exact OpW.callV k1 (Evs.cons rfl (Evs.cons rfl Evs.nil)) | exact OpW.callV k2 (Evs.cons rfl (Evs.cons rfl Evs.nil)) | exact OpW.callV k3 (Evs.cons rfl (Evs.cons rfl Evs.nil)) | exact OpW.callV k4 (Evs.cons rfl (Evs.cons rfl Evs.nil)) | (apply OpW.k_callf 15; exact OpW.callV k5 (Evs.cons rfl (Evs.cons rfl Evs.nil))) | (apply OpW.k_callf 14; exact OpW.callV k6 Evs.nil)) | refine goR ?_ | refine goP ?_ | apply PSeq.cons | apply PSeq.yes rfl rfl rfl | exact goW | fail)
    all_goals first | exact Fin.ret Ent.refl (Outs.one rfl rfl) rfl | (exfalso; simp_all; done)
  · obtain ⟨W, e, hW, k1, k2⟩ := mrg_two (A := A1) (B := B0) ha1 hb
    obtain ⟨q, e2, k3, k4⟩ := kn_two (A := A1) (B := B0) ha1 hb
    have k5 := sameWallet_fn W hW
    have k6 := depots_fn
    clear kE
    repeat' (first | refine goH ?_ | refine goV ?_ | refine goB (fun b => ?_) | (refine Ops.k_b_eql ?_; first | refine Ops.eqlB_t (Tryd.underlying4) rfl rfl rfl rfl ?_) | refine goG ?_ | (refine Ops.k_guard ?_; first | (refine Ops.guard_dec rfl rfl (fun hc => ?_) (fun hc => ?_) <;> try (exfalso; omega)) | refine Ops.guard_split rfl rfl (fun hc => ?_) (fun hc => ?_)) | refine goI ?_ | (refine Cw.k_cond ?_; first | (refine Cw.cond_dec rfl (fun hc => ?_) (fun hc => ?_) <;> try (exfalso; omega)) | refine Cw.cond_bool rfl (fun hc => ?_) (fun hc => ?_)) | (refine Ops.k_calla ?_; first | refine Ops.callV k1 (Evs.cons rfl (Evs.cons rfl Evs.nil)) rfl ?_ | refine Ops.callV k2 (Evs.cons rfl (Evs.cons rfl Evs.nil)) rfl ?_ | refine Ops.callV k3 (Evs.cons rfl (Evs.cons rfl Evs.nil)) rfl ?_ | refine Ops.callV k4 (Evs.cons rfl (Evs.cons rfl Evs.nil)) rfl ?_ | (refine Ops.k_callf 15 ?_; refine Ops.callV k5 (Evs.cons rfl (Evs.cons rfl Evs.nil)) rfl ?_) | (refine Ops.k_callf 14 ?_; refine Ops.callV k6 Evs.nil rfl ?_)) | (apply OpW.k_call; first | exact OpW.callV k1 (Evs.cons rfl (Evs.cons rfl Evs.nil)) | exact OpW.callV k2 (Evs.cons rfl (Evs.cons rfl Evs.nil)) | exact OpW.callV k3 (Evs.cons rfl (Evs.cons rfl Evs.nil)) | exact OpW.callV k4 (Evs.cons rfl (Evs.cons rfl Evs.nil)) | (apply OpW.k_callf 15; exact OpW.callV k5 (Evs.cons rfl (Evs.cons rfl Evs.nil))) | (apply OpW.k_callf 14; exact OpW.callV k6 Evs.nil)) | refine goR ?_ | refine goP ?_ | apply PSeq.cons | apply PSeq.yes rfl rfl rfl | exact goW | fail)
    all_goals first | exact Fin.ret Ent.refl (Outs.one rfl rfl) rfl | (exfalso; simp_all; done)
  · obtain ⟨W, e, hW, k1, k2⟩ := mrg_two (A := A0) (B := EAB) ha emp_ab
    obtain ⟨q, e2, k3, k4⟩ := kn_two (A := A0) (B := EAB) ha emp_ab
    have k5 := sameWallet_fn W hW
    have k6 := depots_fn
    clear kE
    repeat' (first | refine goH ?_ | refine goV ?_ | refine goB (fun b => ?_) | (refine Ops.k_b_eql ?_; first | refine Ops.eqlB_t (Tryd.underlying4) rfl rfl rfl rfl ?_) | refine goG ?_ | (refine Ops.k_guard ?_; first | (refine Ops.guard_dec rfl rfl (fun hc => ?_) (fun hc => ?_) <;> try (exfalso; omega)) | refine Ops.guard_split rfl rfl (fun hc => ?_) (fun hc => ?_)) | refine goI ?_ | (refine Cw.k_cond ?_; first | (refine Cw.cond_dec rfl (fun hc => ?_) (fun hc => ?_) <;> try (exfalso; omega)) | refine Cw.cond_bool rfl (fun hc => ?_) (fun hc => ?_)) | (refine Ops.k_calla ?_; first | refine Ops.callV k1 (Evs.cons rfl (Evs.cons rfl Evs.nil)) rfl ?_ | refine Ops.callV k2 (Evs.cons rfl (Evs.cons rfl Evs.nil)) rfl ?_ | refine Ops.callV k3 (Evs.cons rfl (Evs.cons rfl Evs.nil)) rfl ?_ | refine Ops.callV k4 (Evs.cons rfl (Evs.cons rfl Evs.nil)) rfl ?_ | (refine Ops.k_callf 15 ?_; refine Ops.callV k5 (Evs.cons rfl (Evs.cons rfl Evs.nil)) rfl ?_) | (refine Ops.k_callf 14 ?_; refine Ops.callV k6 Evs.nil rfl ?_)) | (apply OpW.k_call; first | exact OpW.callV k1 (Evs.cons rfl (Evs.cons rfl Evs.nil)) | exact OpW.callV k2 (Evs.cons rfl (Evs.cons rfl Evs.nil)) | exact OpW.callV k3 (Evs.cons rfl (Evs.cons rfl Evs.nil)) | exact OpW.callV k4 (Evs.cons rfl (Evs.cons rfl Evs.nil)) | (apply OpW.k_callf 15; exact OpW.callV k5 (Evs.cons rfl (Evs.cons rfl Evs.nil))) | (apply OpW.k_callf 14; exact OpW.callV k6 Evs.nil)) | refine goR ?_ | refine goP ?_ | apply PSeq.cons | apply PSeq.yes rfl rfl rfl | exact goW | fail)
    all_goals first | exact Fin.ret Ent.refl (Outs.one rfl rfl) rfl | (exfalso; simp_all; done)
  · obtain ⟨W, e, hW, k1, k2⟩ := mrg_two (A := A0) (B := B0) ha hb
    obtain ⟨q, e2, k3, k4⟩ := kn_two (A := A0) (B := B0) ha hb
    have k5 := sameWallet_fn W hW
    have k6 := depots_fn
    clear kE
    repeat' (first | refine goH ?_ | refine goV ?_ | refine goB (fun b => ?_) | (refine Ops.k_b_eql ?_; first | refine Ops.eqlB_t (Tryd.underlying4) rfl rfl rfl rfl ?_) | refine goG ?_ | (refine Ops.k_guard ?_; first | (refine Ops.guard_dec rfl rfl (fun hc => ?_) (fun hc => ?_) <;> try (exfalso; omega)) | refine Ops.guard_split rfl rfl (fun hc => ?_) (fun hc => ?_)) | refine goI ?_ | (refine Cw.k_cond ?_; first | (refine Cw.cond_dec rfl (fun hc => ?_) (fun hc => ?_) <;> try (exfalso; omega)) | refine Cw.cond_bool rfl (fun hc => ?_) (fun hc => ?_)) | (refine Ops.k_calla ?_; first | refine Ops.callV k1 (Evs.cons rfl (Evs.cons rfl Evs.nil)) rfl ?_ | refine Ops.callV k2 (Evs.cons rfl (Evs.cons rfl Evs.nil)) rfl ?_ | refine Ops.callV k3 (Evs.cons rfl (Evs.cons rfl Evs.nil)) rfl ?_ | refine Ops.callV k4 (Evs.cons rfl (Evs.cons rfl Evs.nil)) rfl ?_ | (refine Ops.k_callf 15 ?_; refine Ops.callV k5 (Evs.cons rfl (Evs.cons rfl Evs.nil)) rfl ?_) | (refine Ops.k_callf 14 ?_; refine Ops.callV k6 Evs.nil rfl ?_)) | (apply OpW.k_call; first | exact OpW.callV k1 (Evs.cons rfl (Evs.cons rfl Evs.nil)) | exact OpW.callV k2 (Evs.cons rfl (Evs.cons rfl Evs.nil)) | exact OpW.callV k3 (Evs.cons rfl (Evs.cons rfl Evs.nil)) | exact OpW.callV k4 (Evs.cons rfl (Evs.cons rfl Evs.nil)) | (apply OpW.k_callf 15; exact OpW.callV k5 (Evs.cons rfl (Evs.cons rfl Evs.nil))) | (apply OpW.k_callf 14; exact OpW.callV k6 Evs.nil)) | refine goR ?_ | refine goP ?_ | apply PSeq.cons | apply PSeq.yes rfl rfl rfl | exact goW | fail)
    all_goals first | exact Fin.ret Ent.refl (Outs.one rfl rfl) rfl | (exfalso; simp_all; done)
end Lg
